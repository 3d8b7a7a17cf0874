/- Words and lemmas, part 7, for laws of this seat (a part of their proofs). -/
import Derived.Test.YtbhjocgepgpnmaaP5
import Derived.Test.YtbhjocgepgpnmaaP6
import Derived.Test.YtbhjocgepgpnmaaNm
import Derived.Test.YtbhjocgepgpnmaaEvOpen
import Derived.Test.YtbhjocgepgpnmaaEvLib
import Derived.Test.YtbhjocgepgpnmaaEvGrid
import Derived.Test.YtbhjocgepgpnmaaEvTrim
set_option linter.unusedVariables false
set_option linter.unusedSimpArgs false
namespace Go.Ev.W
open Go.Ev Go.Ev.N

/-- A page that is filled as far as so many bytes. -/
def fillK (mem : List Nat) (seed page size k : Nat) : List Nat := (List.range mem.length).map fun i => if i / size = page ∧ i % size < k then byteF seed page (i % size) else mem.getD i 0
theorem fillK_len (mem : List Nat) (seed page size k : Nat) : (fillK mem seed page size k).length = mem.length := by simp [fillK]
theorem fillK_zero (mem : List Nat) (seed page size : Nat) : fillK mem seed page size 0 = mem := by
  apply List.ext_getElem (by simp [fillK])
  intro i h1 h2
  simp only [fillK, List.getElem_map, List.getElem_range]
  rw [if_neg (by omega), List.getD_eq_getElem?_getD, List.getElem?_eq_getElem h2]; rfl
theorem fillK_end {mem : List Nat} {seed page size : Nat} (h : 1 ≤ size) : fillK mem seed page size size = fillF mem seed page size := by
  unfold fillK fillF
  refine List.map_congr_left fun i _ => ?_
  have := Nat.mod_lt i (show 0 < size by omega)
  by_cases e : i / size = page
  · rw [if_pos ⟨e, this⟩, if_pos e]
  · rw [if_neg fun q => e q.1, if_neg e]
theorem fillK_set {mem : List Nat} {seed page size k : Nat} (hk : k < size) : (fillK mem seed page size k).set (page * size + k) (byteF seed page k) = fillK mem seed page size (k + 1) := by
  apply List.ext_getElem (by simp [fillK])
  intro i h1 h2
  rw [List.getElem_set]
  simp only [fillK, List.getElem_map, List.getElem_range]
  have e1 : (page * size + k) / size = page := by
    rw [Nat.mul_comm, Nat.mul_add_div (by omega), Nat.div_eq_of_lt hk]; rfl
  have e2 : (page * size + k) % size = k := by
    rw [Nat.mul_comm, Nat.mul_add_mod, Nat.mod_eq_of_lt hk]
  split
  · rename_i e; subst e
    rw [if_pos ⟨e1, by rw [e2]; omega⟩, e2]
  · rename_i e
    have hne : i / size = page → i % size = k → False := fun a1 a2 => e (by
      have := Nat.div_add_mod i size
      rw [a1, a2, Nat.mul_comm] at this
      exact this)
    by_cases hq : i / size = page ∧ i % size < k
    · rw [if_pos hq, if_pos ⟨hq.1, by omega⟩]
    · rw [if_neg hq, if_neg]
      rintro ⟨a1, a2⟩
      by_cases a3 : i % size = k
      · exact hne a1 a3
      · exact hq ⟨a1, by omega⟩
structure Hs where
  b : Nat → Bool
  m : List M
  live : Int
  peak : Int
  mark : Int
  on : List Bool
  ds : List Bk
  met : List Int
  mem : List Nat
def hsL (c : Cf) (g cl : Nat) (s : Hs) : List Blk := hpL c g cl s.b s.m s.live s.peak s.mark s.on s.ds s.met s.mem
/-- A block is placed. -/
def putsF (c : Cf) (g cl : Nat) (s : Hs) (k : Nat) (q : Int) : Hs × Int × Nat :=
  match lowS g cl s.b k with
  | none => (s, 0, 7)
  | some i =>
    let y := i * 2 ^ k * c.G
    let n := c.G * 2 ^ k
    let co := commitF s.on (pagesF s.met) (y / c.Pg) ((y + n - 1) / c.Pg + 1) c.P
    if co.2.2 = false then (s, 0, 6)
    else (⟨placeB g cl s.b k, placeL c.G g cl s.b s.m k, s.live + n, max s.peak (s.live + n), max s.mark (y + n : Nat), co.1, setS ⟨(y : Nat), (n : Nat), q⟩ s.ds, metA s.met (y / c.Pg) ((y + n - 1) / c.Pg + 1) 1, co.2.1.foldl (fun mem p => fillF mem c.Sd p c.Pg) s.mem⟩, (y : Nat), 0)
theorem commit_fr (on met : List Bool) (f b most : Nat) : ∀ p ∈ (commitF on met f b most).2.1, p < on.length := by
  intro p hp
  unfold commitF at hp
  simp only at hp
  split at hp
  · simp at hp
  · have := (List.mem_filter.1 hp).1
    simpa using this
theorem commit_frl (on met : List Bool) (f b most : Nat) : (commitF on met f b most).2.1.length ≤ on.length := by
  unfold commitF
  simp only
  split
  · simp
  · refine Nat.le_trans (List.length_filter_le _ _) ?_
    simp
theorem fold_len (seed size : Nat) : ∀ (l : List Nat) (mem : List Nat), (l.foldl (fun mem p => fillF mem seed p size) mem).length = mem.length
  | [], _ => rfl
  | p :: l, mem => by
    show (l.foldl (fun mem p => fillF mem seed p size) (fillF mem seed p size)).length = _
    rw [fold_len seed size l]
    simp [fillF]
theorem fold_suc (mem : List Nat) (seed size : Nat) {l : List Nat} {j : Nat} (h : j < l.length) : (l.take (j + 1)).foldl (fun mem p => fillF mem seed p size) mem = fillF ((l.take j).foldl (fun mem p => fillF mem seed p size) mem) seed l[j] size := by
  rw [List.take_succ_eq_append_getElem h, List.foldl_append]; rfl
/-- What is needed of a heap. -/
structure HsOk (c : Cf) (g cl : Nat) (s : Hs) : Prop where
  ok : c.Ok
  gE : g = c.H / c.G
  clE : cl = c.L + 1
  eg : EgOk c.G g cl s.m
  pg : ∀ x n : Nat, 1 ≤ n → x + n ≤ c.H → (x + n - 1) / c.Pg + 1 ≤ s.met.length
  pg1 : 1 ≤ c.Pg
  met : s.met.length = c.H / c.Pg
  mb : ∀ i, -100000 ≤ s.met.getD i 0 ∧ s.met.getD i 0 ≤ 100000
  on : s.on.length = s.met.length
  mem : s.mem.length = c.H
  pH : ∀ p i, p < s.met.length → i < c.Pg → p * c.Pg + i < c.H
  lv : 0 ≤ s.live ∧ s.live ≤ 100000
set_option maxRecDepth 20000 in
set_option maxHeartbeats 8000000 in
theorem hpPuts_told {c : Cf} {g cl : Nat} {s : Hs} (h : HsOk c g cl s) {k : Nat} (hk : k ≤ c.L) (hb : c.G * 2 ^ k ≤ 65536) (q : Int) :
    Told P T heap_Heap_puts (hsL c g cl s) [.ptr 0 0 0, i64 (c.G * 2 ^ k : Nat), i64 q] (.tup [i64 (putsF c g cl s k q).2.1, i64 ((putsF c g cl s k q).2.2 : Nat)]) (hsL c g cl (putsF c g cl s k q).1) := by
  obtain ⟨b, m, live, peak, mark, on, ds, met, mem⟩ := s
  have hg1 := h.eg.g1
  have c1 := classClass_told hg1 hk hb
  have c2 := plPlace_told h.eg (b := b) (k : Nat) (by have := h.ok.lL; omega)
  have hpage := hpPages_told c g cl b m live peak mark on ds met mem (by have := h.met; have := h.ok.h2; have : c.H / c.Pg ≤ c.H := Nat.div_le_self _ _; simp only at *; omega)
  unfold putsF
  cases hlo : lowS g cl b k with
  | none =>
    rw [hlo] at c2
    unfold hsL hpL hpV eC eE at *
    simp only
    refine told_of_ev (fn := heap_Heap_puts_fn) tabOk mixed (by kernel_rfl) (by kernel_rfl) (by kernel_rfl) (by kernel_rfl) ?_
    (refine gw ?_; refine Choice.mk ⟨false, Choice.mk ⟨false, _, _, c1, ?_⟩⟩)
    (refine gw ?_; refine Choice.mk ⟨false, Choice.mk ⟨false, _, _, c2, ?_⟩⟩)
    (refine gw ?_; exact RetN.mk ⟨[], rfl, rfl, rfl⟩)
  | some i =>
    rw [hlo] at c2
    simp only
    obtain ⟨k', ek, hkc, hik, _, _⟩ := lowS_lt h.eg.sl hlo
    have ek : k' = k := by omega
    subst ek
    have hbd := sz_bound h.eg.sl h.eg.gG hkc hik
    have hgH : g * c.G ≤ c.H := by rw [h.gE]; exact Nat.div_mul_le_self _ _
    have hyn : i * 2 ^ k' * c.G + c.G * 2 ^ k' ≤ c.H := by
      have : i * 2 ^ k' * c.G + 2 ^ k' * c.G ≤ g * c.G := by rw [← Nat.add_mul]; exact Nat.mul_le_mul_right _ hbd.1
      rw [Nat.mul_comm c.G]; omega
    have hn1 : 1 ≤ c.G * 2 ^ k' := Nat.mul_pos (by omega) (by omega)
    have hA : placeA c.G g cl b (k' : Nat) = ((i * 2 ^ k' * c.G : Nat) : Int) := by unfold placeA; rw [hlo]; simp only [Int.toNat_natCast]
    rw [hA] at c2
    have hpg := h.pg _ _ hn1 hyn
    have hH := h.ok.h2
    generalize i * 2 ^ k' * c.G = y at *
    generalize c.G * 2 ^ k' = n at *
    have c3 := pinPages_told (pg := c.Pg) (n := n) (y := y) h.pg1 hn1 (by omega)
    have hfb : y / c.Pg ≤ (y + n - 1) / c.Pg + 1 := by
      have : y / c.Pg ≤ (y + n - 1) / c.Pg := Nat.div_le_div_right (by omega)
      omega
    have hmet : met.length = c.H / c.Pg := h.met
    have hmet2 : met.length ≤ 65536 := by have : c.H / c.Pg ≤ c.H := Nat.div_le_self _ _; omega
    have hon : on.length = met.length := h.on
    have hpgl : (pagesF met).length = met.length := by simp [pagesF]
    have c4 := commit_told (on := on) (met := pagesF met) (by omega) (by omega) (f := y / c.Pg) (b := (y + n - 1) / c.Pg + 1) (most := c.P) hfb (by have hpg : (y + n - 1) / c.Pg + 1 ≤ met.length := hpg; omega) h.ok.b
    have hfr := commit_fr on (pagesF met) (y / c.Pg) ((y + n - 1) / c.Pg + 1) c.P
    have hfrl := commit_frl on (pagesF met) (y / c.Pg) ((y + n - 1) / c.Pg + 1) c.P
    have hlv := h.lv
    have hmeml : mem.length = c.H := h.mem
    have hpH := h.pH
    have hback := hpBack_told c g cl b (placeB g cl b (k' : Nat)) m (placeL c.G g cl b m (k' : Nat)) live peak mark
    generalize hco : commitF on (pagesF met) (y / c.Pg) ((y + n - 1) / c.Pg + 1) c.P = co at *
    obtain ⟨on2, fr, ok2⟩ := co
    unfold hsL hpL hpV eC eE lT at *
    simp only at *
    cases ok2 with
    | false =>
      rw [if_pos rfl]
      refine told_of_ev (fn := heap_Heap_puts_fn) tabOk mixed (by kernel_rfl) (by kernel_rfl) (by kernel_rfl) (by kernel_rfl) ?_
      (refine gw ?_; refine Choice.mk ⟨false, Choice.mk ⟨false, _, _, c1, ?_⟩⟩)
      (refine gw ?_; refine Choice.mk ⟨false, Choice.mk ⟨false, _, _, c2, ?_⟩⟩)
      (refine gw ?_; refine Choice.mk ⟨false, Choice.mk ⟨false, _, _, c3, ?_⟩⟩)
      (refine gw ?_; refine Choice.mk ⟨false, Choice.mk ⟨true, _, _, hpage, Need.mk rfl ?_⟩⟩)
      (refine gw ?_; refine Choice.mk ⟨false, Choice.mk ⟨false, _, _, c4, ?_⟩⟩)
      (refine gw ?_; exact RetN.mk ⟨[], rfl, rfl, rfl⟩)
    | true =>
      rw [if_neg (show ¬ (true = false) by decide)]
      simp only
      refine told_of_ev (fn := heap_Heap_puts_fn) tabOk mixed (by kernel_rfl) (by kernel_rfl) (by kernel_rfl) (by kernel_rfl) ?_
      (refine gw ?_; refine Choice.mk ⟨false, Choice.mk ⟨false, _, _, c1, ?_⟩⟩)
      (refine gw ?_; refine Choice.mk ⟨false, Choice.mk ⟨false, _, _, c2, ?_⟩⟩)
      (refine gw ?_; refine Choice.mk ⟨false, Choice.mk ⟨false, _, _, c3, ?_⟩⟩)
      (refine gw ?_; refine Choice.mk ⟨false, Choice.mk ⟨true, _, _, hpage, Need.mk rfl ?_⟩⟩)
      (refine gw ?_; refine Choice.mk ⟨false, Choice.mk ⟨false, _, _, c4, ?_⟩⟩)
      have hfl : ((fr.map fun n => i64 (n : Nat))).length = fr.length := by simp
      have hf0 : ∀ p, fillK mem c.Sd p c.Pg 0 = mem := fun p => fillK_zero _ _ _ _
      (refine gw ?_; refine LoopN.mk ⟨[0,1,2,10,11,15,72,73,74], fun vs L => ∃ j : Nat, vs = [.ptr 0 0 0, i64 n, i64 q, .ptr 4 0 0, i64 y, .lst t_bool (on2.map .bool), .lst t_int (fr.map fun n => i64 (n : Nat)), i64 (fr.map fun n => i64 (n : Nat)).length, i64 j] ∧ L = hpL c g cl b m live peak mark on ds met ((fr.take j).foldl (fun mem p => fillF mem c.Sd p c.Pg) mem) ++ [.var (eE c.G g cl (placeB g cl b (k' : Nat)) (placeL c.G g cl b m (k' : Nat)))] ∧ j ≤ fr.length, fun vs L => match vs with | [_, _, _, _, _, _, _, _, .int _ i] => fr.length - i.toNat | _ => 0, [], [4], rfl, ⟨0, rfl, rfl, by omega⟩, ?_⟩)
      rintro vs L ⟨j, rfl, rfl, hj⟩
      have hmj : ((fr.take j).foldl (fun mem p => fillF mem c.Sd p c.Pg) mem).length = c.H := by rw [fold_len]; exact hmeml
      have hfs := fun h : j < fr.length => fold_suc mem c.Sd c.Pg h
      generalize hMj : (fr.take j).foldl (fun mem p => fillF mem c.Sd p c.Pg) mem = mj at *
      by_cases hjf : j < fr.length
      · have hx : ∀ Q : AV → Prop, Q (i64 (fr[j] : Nat)) → Idx (fr.map fun n => i64 (n : Nat)) ((j : Nat) : Int) Q := fun Q q => idx_map (f := fun n : Nat => i64 (n : Nat)) hjf q
        have hpj : fr[j] < met.length := by have := hfr _ (List.getElem_mem hjf); omega
        have hfs := hfs hjf
        have hk0 := fillK_zero mj c.Sd fr[j] c.Pg
        have hke := fillK_end (mem := mj) (seed := c.Sd) (page := fr[j]) h.pg1
        have hkl := fun k => fillK_len mj c.Sd fr[j] c.Pg k
        have hks := fun k (h : k < c.Pg) => fillK_set (mem := mj) (seed := c.Sd) (page := fr[j]) h
        have hpp := fun i (hi : i < c.Pg) => hpH fr[j] i hpj hi
        generalize fr[j] = pp at *
        unfold hpL hpV
        (refine gw ?_; refine IfB.tt (by rw [hfl]; simp; omega) ?_)
        (refine gw ?_)
        refine hx _ ?_
        (refine gw ?_; refine LoopN.mk ⟨[0,1,2,10,11,15,18,72,73,74,82,83], fun vs L => ∃ i : Nat, vs = [.ptr 0 0 0, i64 n, i64 q, .ptr 4 0 0, i64 y, .lst t_bool (on2.map .bool), i64 pp, .lst t_int (fr.map fun n => i64 (n : Nat)), i64 (fr.map fun n => i64 (n : Nat)).length, i64 j, i64 c.Pg, i64 i] ∧ L = hpL c g cl b m live peak mark on ds met (fillK mj c.Sd pp c.Pg i) ++ [.var (eE c.G g cl (placeB g cl b (k' : Nat)) (placeL c.G g cl b m (k' : Nat)))] ∧ i ≤ c.Pg, fun vs L => match vs with | [_, _, _, _, _, _, _, _, _, _, _, .int _ i] => c.Pg - i.toNat | _ => 0, [], [4], rfl, ⟨0, rfl, by rw [hk0]; rfl, by omega⟩, ?_⟩)
        rintro vs L ⟨i, rfl, rfl, hi⟩
        have hl2 : ((fillK mj c.Sd pp c.Pg i).map u8).length = c.H := by rw [List.length_map, hkl, hmj]
        by_cases hic : i < c.Pg
        · have cj := junkByte_told c.Sd pp i
          have hpp := hpp i hic
          have hks := hks i hic
          have hpm : (pp : Int) * (c.Pg : Int) = ((pp * c.Pg : Nat) : Int) := (Int.natCast_mul _ _).symm
          generalize pp * c.Pg = pc at *
          unfold hpL hpV
          (refine gw ?_; refine IfB.tt (by simp; omega) ?_)
          (refine gw ?_; refine Choice.mk ⟨false, Choice.mk ⟨false, _, _, cj, ?_⟩⟩)
          (refine gw ?_)
          rw [hpm]
          (refine gw ?_; refine ⟨[], [4], rfl, ⟨i + 1, rfl, by rw [← hks, List.map_set]; rfl, by omega⟩, (by omega : c.Pg - ((i : Int) + 1).toNat < c.Pg - (i : Int).toNat)⟩)
        · have hii : i = c.Pg := by omega
          have hfe : fillK mj c.Sd pp c.Pg i = (fr.take (j + 1)).foldl (fun mem p => fillF mem c.Sd p c.Pg) mem := by rw [hii, hke, hfs]
          rw [hfe]
          unfold hpL hpV
          (refine gw ?_; refine IfB.ff (by simp; omega) ?_)
          (refine gw ?_)
          refine ⟨[], [4], rfl, ⟨j + 1, rfl, rfl, hjf⟩, (by omega : fr.length - ((j : Int) + 1).toNat < fr.length - (j : Int).toNat)⟩
      · have hjj : j = fr.length := by omega
        have hMe : fr.foldl (fun mem p => fillF mem c.Sd p c.Pg) mem = mj := by rw [← hMj, hjj, List.take_length]
        have cb := hback on2 ds met mj hmet2 h.pg1 y n q hn1 (by omega) (fun i => by have := h.mb i; simp only at this; omega) hpg (by have : 0 ≤ live ∧ live ≤ 100000 := hlv; omega)
        unfold hpL hpV eE at *
        (refine gw ?_; refine IfB.ff (by rw [hfl]; simp; omega) ?_)
        have hm1 : ∀ a b : Int, (if b > a then b else a) = max a b := fun a b => by split <;> omega
        have hm2 : ∀ a b : Int, (if a < b then b else a) = max a b := fun a b => by split <;> omega
        have hcast : ((y + n : Nat) : Int) = (y : Int) + (n : Int) := by omega
        have hcz : (if true = false then (0 : Int) else 1) = 1 := rfl
        (refine gw ?_; refine Choice.mk ⟨true, Choice.mk ⟨false, _, _, cb, ?_⟩⟩)
        rw [hMe, hcast, ← hm1 peak, ← hm1 mark]
        (refine gw ?_; exact RetN.mk ⟨[], rfl, rfl, rfl⟩)
end Go.Ev.W
namespace Go.Ev.W
open Go.Ev Go.Ev.N

theorem hpAsksE_told {c : Cf} {g cl : Nat} {s : Hs} (n : Int) (q : Int) {e : Nat} (he : 1 ≤ e) (he2 : e ≤ 100) :
    Told P T heap_Heap_asks (hsL c g cl s) [.ptr 0 0 0, i64 n, i64 q, i64 e] (eA (anE e)) (hsL c g cl s) := by
  unfold hsL hpL hpV
  refine told_of_ev (fn := heap_Heap_asks_fn) tabOk mixed (by kernel_rfl) (by kernel_rfl) (by kernel_rfl) (by kernel_rfl) ?_
  (refine gw ?_; refine IfB.tt (by simp; omega) ?_)
  (refine gw ?_; exact RetN.mk ⟨[], rfl, rfl, rfl⟩)
set_option maxRecDepth 20000 in
theorem hpAsks_told {c : Cf} {g cl : Nat} {s : Hs} (h : HsOk c g cl s) {k : Nat} (hk : k ≤ c.L) (hb : c.G * 2 ^ k ≤ 65536) (q : Int) :
    Told P T heap_Heap_asks (hsL c g cl s) [.ptr 0 0 0, i64 (c.G * 2 ^ k : Nat), i64 q, i64 0] (eA { an0 with e := (putsF c g cl s k q).2.2, at' := (putsF c g cl s k q).2.1 }) (hsL c g cl (putsF c g cl s k q).1) := by
  have c1 := hpPuts_told h hk hb q
  generalize putsF c g cl s k q = r at *
  unfold hsL hpL hpV at *
  refine told_of_ev (fn := heap_Heap_asks_fn) tabOk mixed (by kernel_rfl) (by kernel_rfl) (by kernel_rfl) (by kernel_rfl) ?_
  (refine gw ?_; refine Choice.mk ⟨true, Choice.mk ⟨false, _, _, c1, ?_⟩⟩)
  (refine gw ?_; exact RetN.mk ⟨[], rfl, rfl, rfl⟩)
def givH (c : Cf) (g cl : Nat) (s : Hs) (ce : Nat × Nat) (q : Int) : Hs × An :=
  if ce.2 ≠ 0 then (s, anE ce.2)
  else ((putsF c g cl s (Nat.log2 (ce.1 / c.G)) q).1, { an0 with e := (putsF c g cl s (Nat.log2 (ce.1 / c.G)) q).2.2, at' := (putsF c g cl s (Nat.log2 (ce.1 / c.G)) q).2.1 })
theorem hpAsksG_told {c : Cf} {g cl : Nat} {s : Hs} (h : HsOk c g cl s) (ce : Nat × Nat) (he : ce.2 ≤ 100) (hk : ce.2 = 0 → ∃ k, k ≤ c.L ∧ ce.1 = c.G * 2 ^ k) (q : Int) :
    Told P T heap_Heap_asks (hsL c g cl s) [.ptr 0 0 0, i64 (ce.1 : Nat), i64 q, i64 (ce.2 : Nat)] (eA (givH c g cl s ce q).2) (hsL c g cl (givH c g cl s ce q).1) := by
  unfold givH
  by_cases h0 : ce.2 = 0
  · rw [if_neg (by omega)]
    obtain ⟨k, hk1, hk2⟩ := hk h0
    have hg := h.eg.g1
    have hlog : Nat.log2 (ce.1 / c.G) = k := by rw [hk2, Nat.mul_div_cancel_left _ (by omega), Nat.log2_two_pow]
    rw [hlog, hk2, h0]
    refine hpAsks_told h hk1 ?_ q
    have hN := h.ok.n
    have h1 : c.G * 2 ^ k ≤ c.N := by rw [hN]; exact Nat.mul_le_mul_left _ (Nat.pow_le_pow_right (by omega) hk1)
    have h2 := h.ok.nM
    have h3 := h.ok.mH
    omega
  · rw [if_pos h0]
    exact hpAsksE_told _ q (by omega) he
end Go.Ev.W
namespace Go.Ev.W
open Go.Ev Go.Ev.N

theorem newF_e (c : Cf) (live s a : Int) : (newF c live s a).2 ≤ 5 := by
  unfold newF
  split
  · unfold chargeF
    split
    · simp
    · split <;> simp
  · split <;> simp
set_option maxRecDepth 20000 in
set_option maxHeartbeats 1000000 in
theorem hpAligned_told {c : Cf} {g cl : Nat} {s : Hs} (h : HsOk c g cl s) (z a : Int) (ha : a ≤ 9223372036854775807) :
    Told P T heap_Heap_aligned (hsL c g cl s) [.ptr 0 0 0, i64 z, i64 a] (eA (givH c g cl s (newF c s.live z a) z).2) (hsL c g cl (givH c g cl s (newF c s.live z a) z).1) := by
  have c1 := admitNew_told h.ok s.live z a (by have := h.lv; omega) ha
  have c2 := hpAsksG_told h (newF c s.live z a) (by have := newF_e c s.live z a; omega) (fun e => (newF_ok h.ok e).1) z
  generalize givH c g cl s (newF c s.live z a) z = r at *
  generalize newF c s.live z a = ce at *
  unfold hsL hpL hpV eC at *
  refine told_of_ev (fn := heap_Heap_aligned_fn) tabOk mixed (by kernel_rfl) (by kernel_rfl) (by kernel_rfl) (by kernel_rfl) ?_
  (refine gw ?_; refine Choice.mk ⟨false, Choice.mk ⟨false, _, _, c1, ?_⟩⟩)
  (refine gw ?_; refine Choice.mk ⟨true, Choice.mk ⟨false, _, _, c2, ?_⟩⟩)
  (refine gw ?_; exact RetN.mk ⟨[], rfl, rfl, rfl⟩)
end Go.Ev.W
namespace Go.Ev.W
open Go.Ev Go.Ev.N

theorem manyF_e (c : Cf) (live n s : Int) : (manyF c live n s).2 ≤ 5 := by
  unfold manyF
  split
  · unfold prodF
    split
    · simp
    · split <;> simp
  · exact newF_e _ _ _ _
theorem zero_row {mem : List Nat} {a n : Nat} (h : a + n ≤ mem.length) : (mem.map u8).take a ++ (List.replicate n (zeroE T t_uint8) ++ (mem.map u8).drop (a + n)) = (zeroF mem a n).map u8 := by
  have hz : zeroE T t_uint8 = u8 0 := rfl
  rw [hz]
  apply List.ext_getElem?
  intro j
  rw [List.getElem?_map]
  unfold zeroF
  rw [List.getElem?_map]
  by_cases hj : j < mem.length
  · rw [List.getElem?_range hj]
    by_cases h1 : j < a
    · rw [List.getElem?_append_left (by simp; omega), List.getElem?_take_of_lt h1]
      simp [hj, List.getD_eq_getElem?_getD, show ¬ (a ≤ j) by omega]
    · rw [List.getElem?_append_right (by simp; omega)]
      have e1 : ((mem.map u8).take a).length = a := by simp; omega
      rw [e1]
      by_cases h2 : j < a + n
      · rw [List.getElem?_append_left (by simp; omega)]
        simp [show a ≤ j by omega, h2, List.getElem?_replicate, show j - a < n by omega]
      · rw [List.getElem?_append_right (by simp; omega)]
        simp [hj, List.getD_eq_getElem?_getD, show ¬ (j < a + n) by omega, List.getElem?_drop, show a + n + (j - a - n) = j by omega]
  · rw [List.getElem?_eq_none (by simp; omega), List.getElem?_eq_none (by simp; omega)]
    rfl
def callH (c : Cf) (g cl : Nat) (s : Hs) (n z : Int) : Hs × An :=
  let r := givH c g cl s (manyF c s.live n z) (prodF c n z).1
  if r.2.e = 0 then ({ r.1 with mem := zeroF r.1.mem r.2.at'.toNat (manyF c s.live n z).1 }, r.2) else r
set_option maxRecDepth 20000 in
set_option maxHeartbeats 1000000 in
theorem hpCalloc_told {c : Cf} {g cl : Nat} {s : Hs} (h : HsOk c g cl s) (n z : Int) (hn : -9223372036854775808 ≤ n ∧ n ≤ 9223372036854775807) (hz : -9223372036854775808 ≤ z ∧ z ≤ 9223372036854775807)
    (hr : ∀ r, r = givH c g cl s (manyF c s.live n z) (prodF c n z).1 → r.2.e = 0 → 0 ≤ r.2.at' ∧ r.2.at'.toNat + (manyF c s.live n z).1 ≤ r.1.mem.length ∧ r.1.mem.length ≤ 65536) :
    Told P T heap_Heap_calloc (hsL c g cl s) [.ptr 0 0 0, i64 n, i64 z] (eA (callH c g cl s n z).2) (hsL c g cl (callH c g cl s n z).1) := by
  have c1 := admitMany_told h.ok s.live n z (by have := h.lv; omega) hn hz
  have c2 := hpAsksG_told h (manyF c s.live n z) (by have := manyF_e c s.live n z; omega) (fun e => (manyF_ok h.ok e).1) (prodF c n z).1
  have c3 := classProd_told (c := c) (by have := h.ok.nM; have := h.ok.mH; omega) n z hn hz
  have hr := hr _ rfl
  unfold callH
  generalize givH c g cl s (manyF c s.live n z) (prodF c n z).1 = r at *
  generalize manyF c s.live n z = ce at *
  generalize prodF c n z = pr at *
  unfold hsL hpL hpV eC at *
  by_cases he : r.2.e = 0
  · obtain ⟨r1, r2, r3⟩ := hr he
    simp only [if_pos he]
    refine told_of_ev (fn := heap_Heap_calloc_fn) tabOk mixed (by kernel_rfl) (by kernel_rfl) (by kernel_rfl) (by kernel_rfl) ?_
    (refine gw ?_; refine Choice.mk ⟨false, Choice.mk ⟨false, _, _, c1, ?_⟩⟩)
    (refine gw ?_; refine Choice.mk ⟨false, Choice.mk ⟨false, _, _, c3, ?_⟩⟩)
    (refine gw ?_; refine Choice.mk ⟨true, Choice.mk ⟨false, _, _, c2, ?_⟩⟩)
    (refine gw ?_; refine IfB.tt (by simp; omega) ?_)
    have hml : (r.1.mem.map u8).length = r.1.mem.length := by simp
    have hrow := zero_row (mem := r.1.mem) (a := r.2.at'.toNat) (n := ce.1) r2
    rw [show ce.1 = (r.2.at' + (ce.1 : Int)).toNat - r.2.at'.toNat by omega] at hrow
    rw [show zeroF r.1.mem r.2.at'.toNat ce.1 = zeroF r.1.mem r.2.at'.toNat ((r.2.at' + (ce.1 : Int)).toNat - r.2.at'.toNat) by rw [show (r.2.at' + (ce.1 : Int)).toNat - r.2.at'.toNat = ce.1 by omega]]
    rw [← hrow]
    (refine gw ?_)
    refine Cut.mk (by omega) (by omega) (by rw [hml]; omega) ?_
    (refine gw ?_; exact RetN.mk ⟨[], rfl, rfl, rfl⟩)
  · simp only [if_neg he]
    refine told_of_ev (fn := heap_Heap_calloc_fn) tabOk mixed (by kernel_rfl) (by kernel_rfl) (by kernel_rfl) (by kernel_rfl) ?_
    (refine gw ?_; refine Choice.mk ⟨false, Choice.mk ⟨false, _, _, c1, ?_⟩⟩)
    (refine gw ?_; refine Choice.mk ⟨false, Choice.mk ⟨false, _, _, c3, ?_⟩⟩)
    (refine gw ?_; refine Choice.mk ⟨true, Choice.mk ⟨false, _, _, c2, ?_⟩⟩)
    (refine gw ?_; refine IfB.ff (by simp; omega) ?_)
    (refine gw ?_; exact RetN.mk ⟨[], rfl, rfl, rfl⟩)
end Go.Ev.W
namespace Go.Ev.W
open Go.Ev Go.Ev.N

theorem hpRealE_told {c : Cf} {g cl : Nat} {s : Hs} (h : HsOk c g cl s) (y : Int) (old : Int) (q z : Int) (ho : 0 ≤ old ∧ old ≤ s.live) (he : (newF c (s.live - old) z 1).2 ≠ 0) :
    Told P T heap_Heap_realloc (hsL c g cl s) [.ptr 0 0 0, .agg [i64 y, i64 old, i64 q], i64 z] (eA (anE (newF c (s.live - old) z 1).2)) (hsL c g cl s) := by
  have c1 := admitAnew_told h.ok s.live old z (by have := h.lv; omega)
  generalize newF c (s.live - old) z 1 = ce at *
  unfold hsL hpL hpV eC at *
  refine told_of_ev (fn := heap_Heap_realloc_fn) tabOk mixed (by kernel_rfl) (by kernel_rfl) (by kernel_rfl) (by kernel_rfl) ?_
  (refine gw ?_; refine Choice.mk ⟨false, Choice.mk ⟨false, _, _, c1, ?_⟩⟩)
  (refine gw ?_; refine IfB.tt (by simp; omega) ?_)
  (refine gw ?_; exact RetN.mk ⟨[], rfl, rfl, rfl⟩)
end Go.Ev.W
namespace Go.Ev.W
open Go.Ev Go.Ev.N

theorem class_bdH {c : Cf} (hc : c.Ok) : ∀ ch, (∃ k, k ≤ c.L ∧ ch = c.G * 2 ^ k) → 1 ≤ ch ∧ ch ≤ c.N := fun ch ⟨k, h1, h2⟩ => by
  rw [h2, hc.n]
  exact ⟨Nat.mul_pos hc.gpos (Nat.two_pow_pos _), Nat.mul_le_mul_left _ (Nat.pow_le_pow_right (by omega) h1)⟩
def goneF (c : Cf) (s : Hs) (y n : Nat) : Hs := ⟨relB c.G s.b s.m y, relL s.m y, s.live - n, s.peak, s.mark, s.on, delS y s.ds, metA s.met (y / c.Pg) ((y + n - 1) / c.Pg + 1) (-1), s.mem⟩
def backF (c : Cf) (s0 s : Hs) (y n : Nat) (q : Int) : Hs := ⟨s0.b, s0.m, s.live + n, s.peak, s.mark, s.on, setS ⟨y, n, q⟩ s.ds, metA s.met (y / c.Pg) ((y + n - 1) / c.Pg + 1) 1, s.mem⟩
def realH (c : Cf) (g cl : Nat) (s : Hs) (y n : Nat) (q z : Int) : Hs × An :=
  let ce := newF c (s.live - n) z 1
  if ce.2 ≠ 0 then (s, anE ce.2)
  else
    let r := givH c g cl (goneF c s y n) (ce.1, 0) z
    if r.2.e ≠ 0 then (backF c s (goneF c s y n) y n q, r.2)
    else ({ r.1 with mem := r.1.mem.take r.2.at'.toNat ++ (s.mem.drop y).take (min n ce.1) ++ r.1.mem.drop (r.2.at'.toNat + min n ce.1) }, r.2)
theorem putsF_no {c : Cf} {g cl : Nat} {s : Hs} {k : Nat} {q : Int} (h : (putsF c g cl s k q).2.2 ≠ 0) : (putsF c g cl s k q).1 = s := by
  unfold putsF at h ⊢
  split
  · rfl
  · rename_i i hi
    rw [hi] at h
    simp only at h ⊢
    split
    · rfl
    · rename_i h2
      rw [if_neg h2] at h
      exact absurd rfl h
theorem givH_no {c : Cf} {g cl : Nat} {s : Hs} {n : Nat} {q : Int} (h : (givH c g cl s (n, 0) q).2.e ≠ 0) : (givH c g cl s (n, 0) q).1 = s := by
  unfold givH at h ⊢
  rw [if_neg (by simp)] at h ⊢
  exact putsF_no h
theorem copy_row {mem was : List Nat} {y n a : Nat} (h : y + n ≤ was.length) (h2 : a + n ≤ mem.length) :
    (mem.map u8).take a ++ (List.take (min (((was.map u8).drop ((y : Nat) : Int).toNat).take ((((y : Nat) : Int) + ((n : Nat) : Int)).toNat - ((y : Nat) : Int).toNat)).length (((mem.map u8).length : Int).toNat - a)) (((was.map u8).drop ((y : Nat) : Int).toNat).take ((((y : Nat) : Int) + ((n : Nat) : Int)).toNat - ((y : Nat) : Int).toNat)) ++ (mem.map u8).drop (a + min (((was.map u8).drop ((y : Nat) : Int).toNat).take ((((y : Nat) : Int) + ((n : Nat) : Int)).toNat - ((y : Nat) : Int).toNat)).length (((mem.map u8).length : Int).toNat - a))) = (mem.take a ++ (was.drop y).take n ++ mem.drop (a + n)).map u8 := by
  have e1 : (((y : Nat) : Int) + ((n : Nat) : Int)).toNat - ((y : Nat) : Int).toNat = n := by omega
  have e3 : (((mem.map u8).length : Nat) : Int).toNat = mem.length := by simp
  rw [e1, e3, Int.toNat_natCast]
  have e2 : (((was.map u8).drop y).take n).length = n := by simp; omega
  have e4 : min n (mem.length - a) = n := by omega
  rw [e2, e4, show List.take n (((was.map u8).drop y).take n) = ((was.map u8).drop y).take n from List.take_of_length_le (by rw [e2]; exact Nat.le_refl _)]
  simp only [List.map_append, List.map_take, List.map_drop, List.append_assoc]
theorem scal_row (e : Nat) (es : List AV) (h : ∀ x ∈ es, scal2 x = true) : scalRow (.row e es) := h
set_option maxRecDepth 20000 in
set_option maxHeartbeats 4000000 in
theorem hpReal_told {c : Cf} {g cl : Nat} {s : Hs} (h : HsOk c g cl s) {y n : Nat} {q : Int} (h1 : HsOk c g cl (goneF c s y n)) (hn : 1 ≤ n) (hyn : y + n ≤ c.H) (hlv : (n : Int) ≤ s.live) (z : Int)
    (hr : (newF c (s.live - n) z 1).2 = 0 → ∀ r, r = givH c g cl (goneF c s y n) ((newF c (s.live - n) z 1).1, 0) z → r.2.e = 0 → 0 ≤ r.2.at' ∧ r.2.at'.toNat + (newF c (s.live - n) z 1).1 ≤ r.1.mem.length ∧ r.1.mem.length ≤ 65536) :
    Told P T heap_Heap_realloc (hsL c g cl s) [.ptr 0 0 0, .agg [i64 y, i64 n, i64 q], i64 z] (eA (realH c g cl s y n q z).2) (hsL c g cl (realH c g cl s y n q z).1) := by
  by_cases he : (newF c (s.live - n) z 1).2 = 0
  case neg =>
    have := hpRealE_told h y n q z (by omega) he
    unfold realH
    simp only [if_pos he]
    exact this
  have hH := h.ok.h2
  have c1 := admitAnew_told h.ok s.live n z (by have := h.lv; omega)
  have c2 := hpAsksG_told h1 ((newF c (s.live - n) z 1).1, 0) (by simp) (fun _ => (newF_ok h.ok he).1) z
  have hno := givH_no (c := c) (g := g) (cl := cl) (s := goneF c s y n) (n := (newF c (s.live - n) z 1).1) (q := z)
  have hmeml : s.mem.length = c.H := h.mem
  have hml2 : s.met.length ≤ 65536 := by have := h.met; have : c.H / c.Pg ≤ c.H := Nat.div_le_self _ _; omega
  have hmb := h.mb
  have hmb1 := h1.mb
  have c0 := hpGone_told c g cl s.b s.m h.eg s.live s.peak s.mark s.on s.ds s.met s.mem hml2 h.pg1 y n q hn (by omega) (fun i => by have := hmb i; omega) (h.pg _ _ hn hyn) (by have := h.lv; omega)
  have c4 := hpBack_told c g cl (goneF c s y n).b s.b (goneF c s y n).m s.m (goneF c s y n).live s.peak s.mark s.on (goneF c s y n).ds (goneF c s y n).met s.mem (by rw [show (goneF c s y n).met.length = s.met.length from metA_len _ _ _ _]; exact hml2) h.pg1 y n q hn (by omega) (fun i => by have := hmb1 i; omega) (by rw [show (goneF c s y n).met.length = s.met.length from metA_len _ _ _ _]; exact h.pg _ _ hn hyn) (by have := h1.lv; omega)
  unfold realH
  simp only [he]
  replace hr := hr he _ rfl
  have hch := class_bdH h.ok _ (newF_ok h.ok he).1
  generalize givH c g cl (goneF c s y n) ((newF c (s.live - n) z 1).1, 0) z = r at *
  generalize newF c (s.live - n) z 1 = ce at *
  obtain ⟨ch, e⟩ := ce
  simp only at he hr hch c1 c2
  subst he
  have c3 := fun es he => clone_byte es he
  obtain ⟨N, hN, hN1, hN2⟩ : ∃ N : Nat, min n ch = N ∧ N ≤ n ∧ N ≤ ch := ⟨min n ch, rfl, by omega, by omega⟩
  rw [hN]
  have hcut : (if (ch : Int) < (n : Int) then (ch : Int) else (n : Int)) = ((N : Nat) : Int) := by split <;> omega
  by_cases hre : r.2.e = 0
  · obtain ⟨r1, r2, r3⟩ := hr hre
    simp only [ne_eq, not_true_eq_false, if_false, hre]
    unfold goneF hsL hpL hpV eC at *
    refine told_of_ev (fn := heap_Heap_realloc_fn) tabOk mixed (by kernel_rfl) (by kernel_rfl) (by kernel_rfl) (by kernel_rfl) ?_
    (refine gw ?_; refine Choice.mk ⟨false, Choice.mk ⟨false, _, _, c1, ?_⟩⟩)
    (refine gw ?_)
    rw [hcut]
    (refine gw ?_)
    refine Cut.mk (by omega) (by omega) (by simp; omega) ?_
    (refine gw ?_)
    refine Choice.mk ⟨false, Choice.mk ⟨true, ?_⟩⟩
    refine ⟨_, _, c3 _ (by simp; omega), Need.mk ?_ ?_⟩
    · exact scal_row _ _ fun x hx => by
        obtain ⟨v, _, rfl⟩ := List.mem_map.1 (List.mem_of_mem_drop (List.mem_of_mem_take hx))
        rfl
    (refine gw ?_; refine Choice.mk ⟨true, Choice.mk ⟨false, _, _, c0, ?_⟩⟩)
    (refine gw ?_; refine Choice.mk ⟨true, Choice.mk ⟨false, _, _, c2, ?_⟩⟩)
    (refine gw ?_; refine IfB.ff (by simp; omega) ?_)
    (refine gw ?_)
    refine Cut.mk (by omega) (by simp; omega) (by simp) ?_
    have hrow := copy_row (mem := r.1.mem) (was := s.mem) (y := y) (n := N) (a := r.2.at'.toNat) (by omega) (by omega)
    rw [← hrow]
    (refine gw ?_; exact RetN.mk ⟨[], rfl, rfl, rfl⟩)
  · simp only [ne_eq, not_true_eq_false, if_false, hre, not_false_eq_true, if_true]
    unfold goneF hsL hpL hpV eC at *
    refine told_of_ev (fn := heap_Heap_realloc_fn) tabOk mixed (by kernel_rfl) (by kernel_rfl) (by kernel_rfl) (by kernel_rfl) ?_
    (refine gw ?_; refine Choice.mk ⟨false, Choice.mk ⟨false, _, _, c1, ?_⟩⟩)
    (refine gw ?_)
    rw [hcut]
    (refine gw ?_)
    refine Cut.mk (by omega) (by omega) (by simp; omega) ?_
    (refine gw ?_)
    refine Choice.mk ⟨false, Choice.mk ⟨true, ?_⟩⟩
    refine ⟨_, _, c3 _ (by simp; omega), Need.mk ?_ ?_⟩
    · exact scal_row _ _ fun x hx => by
        obtain ⟨v, _, rfl⟩ := List.mem_map.1 (List.mem_of_mem_drop (List.mem_of_mem_take hx))
        rfl
    (refine gw ?_; refine Choice.mk ⟨true, Choice.mk ⟨false, _, _, c0, ?_⟩⟩)
    (refine gw ?_; refine Choice.mk ⟨true, Choice.mk ⟨false, _, _, c2, ?_⟩⟩)
    (refine gw ?_; refine IfB.tt (by simp; omega) ?_)
    rw [hno hre]
    (refine gw ?_; refine Choice.mk ⟨true, Choice.mk ⟨false, _, _, c4, ?_⟩⟩)
    (refine gw ?_; exact RetN.mk ⟨[], rfl, rfl, rfl⟩)
end Go.Ev.W
namespace Go.Ev.W
open Go.Ev Go.Ev.N

/-- A call to a block that was found. -/
def onH (c : Cf) (g cl : Nat) (s : Hs) (o : X.O) (y n : Nat) (q : Int) : Hs × An :=
  if o.k = 4 then realH c g cl s y n q o.s
  else if o.k = 5 then (goneF c s y n, an0)
  else if o.k = 6 then (s, { an0 with n := n })
  else if o.n < 0 ∨ o.n ≥ n then (s, anE 9)
  else if o.k = 7 then (s, { an0 with b := s.mem.getD (y + o.n.toNat) 0 })
  else ({ s with mem := s.mem.set (y + o.n.toNat) o.b.toNat }, an0)
theorem hpBlockN_told {c : Cf} {g cl : Nat} {s : Hs} (o : X.O) (h : getS o.p s.ds = none) :
    Told P T heap_Heap_block (hsL c g cl s) [.ptr 0 0 0, X.encO o] (eA (anE 8)) (hsL c g cl s) := by
  have hg := mget_encS o.p s.ds
  rw [h] at hg
  unfold hsL hpL hpV X.encO at *
  refine told_of_ev (fn := heap_Heap_block_fn) tabOk mixed (by kernel_rfl) (by kernel_rfl) (by kernel_rfl) (by kernel_rfl) ?_
  (refine gw ?_)
  refine Get.of hg ?_
  (refine gw ?_; exact RetN.mk ⟨[], rfl, rfl, rfl⟩)
structure OnOk' (c : Cf) (g cl : Nat) (s : Hs) (o : X.O) (y n : Nat) : Prop where
  h1 : HsOk c g cl (goneF c s y n)
  n1 : 1 ≤ n
  yn : y + n ≤ c.H
  lv : (n : Int) ≤ s.live
  r : (newF c (s.live - n) o.s 1).2 = 0 → ∀ r, r = givH c g cl (goneF c s y n) ((newF c (s.live - n) o.s 1).1, 0) o.s → r.2.e = 0 → 0 ≤ r.2.at' ∧ r.2.at'.toNat + (newF c (s.live - n) o.s 1).1 ≤ r.1.mem.length ∧ r.1.mem.length ≤ 65536
set_option maxRecDepth 20000 in
set_option maxHeartbeats 4000000 in
theorem hpBlock_told {c : Cf} {g cl : Nat} {s : Hs} (h : HsOk c g cl s) {o : X.O} (ho : OpOk o) {y n : Nat} {q : Int} (hs : getS o.p s.ds = some ⟨y, n, q⟩) (h2 : OnOk' c g cl s o y n) :
    Told P T heap_Heap_block (hsL c g cl s) [.ptr 0 0 0, X.encO o] (eA (onH c g cl s o y n q).2) (hsL c g cl (onH c g cl s o y n q).1) := by
  have hg := mget_encS o.p s.ds
  rw [hs] at hg
  have hH := h.ok.h2
  have hmb := h.mb
  have hml2 : s.met.length ≤ 65536 := by have := h.met; have : c.H / c.Pg ≤ c.H := Nat.div_le_self _ _; omega
  have c1 := hpReal_told h (q := q) h2.h1 h2.n1 h2.yn h2.lv o.s h2.r
  have c0 := hpGone_told c g cl s.b s.m h.eg s.live s.peak s.mark s.on s.ds s.met s.mem hml2 h.pg1 y n q h2.n1 (by have := h2.yn; omega) (fun i => by have := hmb i; omega) (h.pg _ _ h2.n1 h2.yn) (by have := h.lv; omega)
  have hyn := h2.yn
  have hn1 := h2.n1
  have hon := ho.n
  have hob := ho.b
  have hmm := h.mem
  unfold onH
  generalize realH c g cl s y n q o.s = R at *
  by_cases h4 : o.k = 4
  · rw [if_pos h4]
    unfold hsL hpL hpV X.encO at *
    refine told_of_ev (fn := heap_Heap_block_fn) tabOk mixed (by kernel_rfl) (by kernel_rfl) (by kernel_rfl) (by kernel_rfl) ?_
    (refine gw ?_)
    refine Get.of hg ?_
    (refine gw ?_; refine IfB.tt (by simpa using h4) ?_)
    (refine gw ?_; refine Choice.mk ⟨true, Choice.mk ⟨false, _, _, c1, ?_⟩⟩)
    (refine gw ?_; exact RetN.mk ⟨[], rfl, rfl, rfl⟩)
  rw [if_neg h4]
  by_cases h5 : o.k = 5
  · rw [if_pos h5]
    unfold goneF hsL hpL hpV X.encO at *
    refine told_of_ev (fn := heap_Heap_block_fn) tabOk mixed (by kernel_rfl) (by kernel_rfl) (by kernel_rfl) (by kernel_rfl) ?_
    (refine gw ?_)
    refine Get.of hg ?_
    (refine gw ?_; refine IfB.ff (by simpa using h4) ?_)
    (refine gw ?_; refine IfB.tt (by simpa using h5) ?_)
    (refine gw ?_; refine Choice.mk ⟨true, Choice.mk ⟨false, _, _, c0, ?_⟩⟩)
    (refine gw ?_; exact RetN.mk ⟨[], rfl, rfl, rfl⟩)
  rw [if_neg h5]
  by_cases h6 : o.k = 6
  · rw [if_pos h6]
    unfold hsL hpL hpV X.encO at *
    refine told_of_ev (fn := heap_Heap_block_fn) tabOk mixed (by kernel_rfl) (by kernel_rfl) (by kernel_rfl) (by kernel_rfl) ?_
    (refine gw ?_)
    refine Get.of hg ?_
    (refine gw ?_; refine IfB.ff (by simpa using h4) ?_)
    (refine gw ?_; refine IfB.ff (by simpa using h5) ?_)
    (refine gw ?_; refine IfB.tt (by simpa using h6) ?_)
    (refine gw ?_; exact RetN.mk ⟨[], rfl, rfl, rfl⟩)
  rw [if_neg h6]
  by_cases hb : o.n < 0 ∨ o.n ≥ n
  · rw [if_pos hb]
    unfold hsL hpL hpV X.encO at *
    refine told_of_ev (fn := heap_Heap_block_fn) tabOk mixed (by kernel_rfl) (by kernel_rfl) (by kernel_rfl) (by kernel_rfl) ?_
    (refine gw ?_)
    refine Get.of hg ?_
    (refine gw ?_; refine IfB.ff (by simpa using h4) ?_)
    (refine gw ?_; refine IfB.ff (by simpa using h5) ?_)
    (refine gw ?_; refine IfB.ff (by simpa using h6) ?_)
    by_cases hb1 : o.n < 0
    · (refine gw ?_; refine IfB.tt (by simpa using hb1) ?_)
      (refine gw ?_; exact RetN.mk ⟨[], rfl, rfl, rfl⟩)
    · (refine gw ?_; refine IfB.ff (by simp; omega) ?_)
      (refine gw ?_; refine IfB.tt (by simp; omega) ?_)
      (refine gw ?_; exact RetN.mk ⟨[], rfl, rfl, rfl⟩)
  rw [if_neg hb]
  have hcast : (y : Int) + o.n = ((y + o.n.toNat : Nat) : Int) := by omega
  have hlt : y + o.n.toNat < s.mem.length := by omega
  by_cases h7 : o.k = 7
  · rw [if_pos h7]
    have hx : ∀ Q : AV → Prop, Q (u8 (s.mem.getD (y + o.n.toNat) 0)) → At (s.mem.map u8) ((y + o.n.toNat : Nat) : Int).toNat Q := fun Q q => at_map (k := y + o.n.toNat) hlt (by rw [show s.mem[y + o.n.toNat] = s.mem.getD (y + o.n.toNat) 0 by simp [List.getD_eq_getElem?_getD, hlt]]; exact q)
    unfold hsL hpL hpV X.encO at *
    refine told_of_ev (fn := heap_Heap_block_fn) tabOk mixed (by kernel_rfl) (by kernel_rfl) (by kernel_rfl) (by kernel_rfl) ?_
    (refine gw ?_)
    refine Get.of hg ?_
    (refine gw ?_; refine IfB.ff (by simpa using h4) ?_)
    (refine gw ?_; refine IfB.ff (by simpa using h5) ?_)
    (refine gw ?_; refine IfB.ff (by simpa using h6) ?_)
    (refine gw ?_; refine IfB.ff (by simp; omega) ?_)
    (refine gw ?_; refine IfB.ff (by simp; omega) ?_)
    (refine gw ?_; refine IfB.tt (by simpa using h7) ?_)
    (refine gw ?_)
    rw [hcast]
    refine fits (wrap64 (by omega) (by omega)) ?_
    (refine gw ?_)
    refine InB.mk (by omega) (by simp; omega) ?_
    (refine gw ?_)
    refine hx _ ?_
    (refine gw ?_; exact RetN.mk ⟨[], rfl, rfl, rfl⟩)
  · rw [if_neg h7]
    unfold hsL hpL hpV X.encO at *
    refine told_of_ev (fn := heap_Heap_block_fn) tabOk mixed (by kernel_rfl) (by kernel_rfl) (by kernel_rfl) (by kernel_rfl) ?_
    (refine gw ?_)
    refine Get.of hg ?_
    (refine gw ?_; refine IfB.ff (by simpa using h4) ?_)
    (refine gw ?_; refine IfB.ff (by simpa using h5) ?_)
    (refine gw ?_; refine IfB.ff (by simpa using h6) ?_)
    (refine gw ?_; refine IfB.ff (by simp; omega) ?_)
    (refine gw ?_; refine IfB.ff (by simp; omega) ?_)
    (refine gw ?_; refine IfB.ff (by simpa using h7) ?_)
    (refine gw ?_)
    rw [hcast]
    refine fits (wrap64 (by omega) (by omega)) ?_
    (refine gw ?_)
    refine InB.mk (by omega) (by simp; omega) ?_
    have hset : (s.mem.map u8).set (y + o.n.toNat) (.int .u8 o.b) = (s.mem.set (y + o.n.toNat) o.b.toNat).map u8 := by
      rw [List.map_set]; congr 1; show AV.int .u8 o.b = .int .u8 ((o.b.toNat : Nat) : Int); congr 1; omega
    rw [← hset]
    (refine gw ?_; exact RetN.mk ⟨[], rfl, rfl, rfl⟩)
end Go.Ev.W
namespace Go.Ev.W
open Go.Ev Go.Ev.N

/-- What a call does to a heap as it lies. -/
def doH (c : Cf) (g cl : Nat) (s : Hs) (o : X.O) : Hs × An :=
  if o.k = 1 then givH c g cl s (newF c s.live o.s 1) o.s
  else if o.k = 2 then callH c g cl s o.n o.s
  else if o.k = 3 then givH c g cl s (newF c s.live o.s o.a) o.s
  else if o.k = 4 ∨ o.k = 5 ∨ o.k = 6 ∨ o.k = 7 ∨ o.k = 8 then
    match getS o.p s.ds with
    | none => (s, anE 8)
    | some x => onH c g cl s o x.a.toNat x.c.toNat x.q
  else if o.k = 9 then ({ s with on := (trimF s.on (pagesF s.met)).1 }, { an0 with n := (trimF s.on (pagesF s.met)).2 })
  else if o.k = 10 then (s, { an0 with live := s.live, peak := s.peak, mark := s.mark, pg := cntB s.on })
  else (s, anE 2)
structure DoOk (c : Cf) (g cl : Nat) (s : Hs) (o : X.O) : Prop where
  h : HsOk c g cl s
  many : ∀ r, r = givH c g cl s (manyF c s.live o.n o.s) (prodF c o.n o.s).1 → r.2.e = 0 → 0 ≤ r.2.at' ∧ r.2.at'.toNat + (manyF c s.live o.n o.s).1 ≤ r.1.mem.length ∧ r.1.mem.length ≤ 65536
  on : ∀ x, getS o.p s.ds = some x → ∃ y n : Nat, x = ⟨y, n, x.q⟩ ∧ OnOk' c g cl s o y n
set_option maxRecDepth 20000 in
set_option maxHeartbeats 4000000 in
theorem hpDo_told {c : Cf} {g cl : Nat} {s : Hs} {o : X.O} (hd : DoOk c g cl s o) (ho : OpOk o) :
    Told P T heap_Heap_Do (hsL c g cl s) [.ptr 0 0 0, X.encO o] (eA (doH c g cl s o).2) (hsL c g cl (doH c g cl s o).1) := by
  have h := hd.h
  have hH := h.ok.h2
  have hml2 : s.met.length ≤ 65536 := by have := h.met; have : c.H / c.Pg ≤ c.H := Nat.div_le_self _ _; omega
  have hon : s.on.length ≤ 65536 := by have := h.on; omega
  unfold doH
  by_cases h1 : o.k = 1
  · rw [if_pos h1]
    have c1 := hpAligned_told h o.s 1 (by omega)
    generalize givH c g cl s (newF c s.live o.s 1) o.s = r at *
    unfold hsL hpL hpV X.encO at *
    refine told_of_ev (fn := heap_Heap_Do_fn) tabOk mixed (by kernel_rfl) (by kernel_rfl) (by kernel_rfl) (by kernel_rfl) ?_
    (refine gw ?_; refine IfB.tt (by simpa using h1) ?_)
    (refine gw ?_; refine Choice.mk ⟨true, Choice.mk ⟨false, _, _, c1, ?_⟩⟩)
    (refine gw ?_; exact RetN.mk ⟨[], rfl, rfl, rfl⟩)
  rw [if_neg h1]
  by_cases h2 : o.k = 2
  · rw [if_pos h2]
    have c1 := hpCalloc_told h o.n o.s ho.n ho.s hd.many
    generalize callH c g cl s o.n o.s = r at *
    unfold hsL hpL hpV X.encO at *
    refine told_of_ev (fn := heap_Heap_Do_fn) tabOk mixed (by kernel_rfl) (by kernel_rfl) (by kernel_rfl) (by kernel_rfl) ?_
    (refine gw ?_; refine IfB.ff (by simpa using h1) ?_)
    (refine gw ?_; refine IfB.tt (by simpa using h2) ?_)
    (refine gw ?_; refine Choice.mk ⟨true, Choice.mk ⟨false, _, _, c1, ?_⟩⟩)
    (refine gw ?_; exact RetN.mk ⟨[], rfl, rfl, rfl⟩)
  rw [if_neg h2]
  by_cases h3 : o.k = 3
  · rw [if_pos h3]
    have c1 := hpAligned_told h o.s o.a ho.a.2
    generalize givH c g cl s (newF c s.live o.s o.a) o.s = r at *
    unfold hsL hpL hpV X.encO at *
    refine told_of_ev (fn := heap_Heap_Do_fn) tabOk mixed (by kernel_rfl) (by kernel_rfl) (by kernel_rfl) (by kernel_rfl) ?_
    (refine gw ?_; refine IfB.ff (by simpa using h1) ?_)
    (refine gw ?_; refine IfB.ff (by simpa using h2) ?_)
    (refine gw ?_; refine IfB.tt (by simpa using h3) ?_)
    (refine gw ?_; refine Choice.mk ⟨true, Choice.mk ⟨false, _, _, c1, ?_⟩⟩)
    (refine gw ?_; exact RetN.mk ⟨[], rfl, rfl, rfl⟩)
  rw [if_neg h3]
  by_cases hb : o.k = 4 ∨ o.k = 5 ∨ o.k = 6 ∨ o.k = 7 ∨ o.k = 8
  · rw [if_pos hb]
    have c1 : ∃ r, r = (match getS o.p s.ds with | none => (s, anE 8) | some x => onH c g cl s o x.a.toNat x.c.toNat x.q) ∧ Told P T heap_Heap_block (hsL c g cl s) [.ptr 0 0 0, X.encO o] (eA r.2) (hsL c g cl r.1) := by
      refine ⟨_, rfl, ?_⟩
      cases hg : getS o.p s.ds with
      | none => exact hpBlockN_told o hg
      | some x =>
        obtain ⟨y, n, hx, hk⟩ := hd.on x hg
        have e1 : x.a.toNat = y := by rw [hx]; simp
        have e2 : x.c.toNat = n := by rw [hx]; simp
        simp only
        rw [e1, e2]
        exact hpBlock_told h ho (by rw [hg, ← hx]) hk
    obtain ⟨r, hr, c1⟩ := c1
    rw [← hr]
    clear hr
    have hk : o.k = 4 ∨ o.k ≠ 4 := by omega
    have hk5 : o.k = 5 ∨ o.k ≠ 5 := by omega
    have hk6 : o.k = 6 ∨ o.k ≠ 6 := by omega
    have hk7 : o.k = 7 ∨ o.k ≠ 7 := by omega
    unfold hsL hpL hpV X.encO at *
    refine told_of_ev (fn := heap_Heap_Do_fn) tabOk mixed (by kernel_rfl) (by kernel_rfl) (by kernel_rfl) (by kernel_rfl) ?_
    (refine gw ?_; refine IfB.ff (by simpa using h1) ?_)
    (refine gw ?_; refine IfB.ff (by simpa using h2) ?_)
    (refine gw ?_; refine IfB.ff (by simpa using h3) ?_)
    rcases hk with hk | hk
    · (refine gw ?_; refine IfB.tt (by simpa using hk) ?_)
      (refine gw ?_; refine IfB.tt (by simpa using hk) ?_)
      (refine gw ?_; refine Choice.mk ⟨true, Choice.mk ⟨false, _, _, c1, ?_⟩⟩)
      (refine gw ?_; exact RetN.mk ⟨[], rfl, rfl, rfl⟩)
    (refine gw ?_; refine IfB.ff (by simpa using hk) ?_)
    rcases hk5 with hk5 | hk5
    · (refine gw ?_; refine IfB.tt (by simpa using hk5) ?_)
      (refine gw ?_; refine IfB.tt (by simpa using hk5) ?_)
      (refine gw ?_; refine Choice.mk ⟨true, Choice.mk ⟨false, _, _, c1, ?_⟩⟩)
      (refine gw ?_; exact RetN.mk ⟨[], rfl, rfl, rfl⟩)
    (refine gw ?_; refine IfB.ff (by simpa using hk5) ?_)
    rcases hk6 with hk6 | hk6
    · (refine gw ?_; refine IfB.tt (by simpa using hk6) ?_)
      (refine gw ?_; refine IfB.tt (by simpa using hk6) ?_)
      (refine gw ?_; refine Choice.mk ⟨true, Choice.mk ⟨false, _, _, c1, ?_⟩⟩)
      (refine gw ?_; exact RetN.mk ⟨[], rfl, rfl, rfl⟩)
    (refine gw ?_; refine IfB.ff (by simpa using hk6) ?_)
    rcases hk7 with hk7 | hk7
    · (refine gw ?_; refine IfB.tt (by simpa using hk7) ?_)
      (refine gw ?_; refine IfB.tt (by simpa using hk7) ?_)
      (refine gw ?_; refine Choice.mk ⟨true, Choice.mk ⟨false, _, _, c1, ?_⟩⟩)
      (refine gw ?_; exact RetN.mk ⟨[], rfl, rfl, rfl⟩)
    (refine gw ?_; refine IfB.ff (by simpa using hk7) ?_)
    (refine gw ?_; refine IfB.tt (by simp; omega) ?_)
    (refine gw ?_; refine Choice.mk ⟨true, Choice.mk ⟨false, _, _, c1, ?_⟩⟩)
    (refine gw ?_; exact RetN.mk ⟨[], rfl, rfl, rfl⟩)
  rw [if_neg hb]
  by_cases h9 : o.k = 9
  · rw [if_pos h9]
    have c1 := hpPages_told c g cl s.b s.m s.live s.peak s.mark s.on s.ds s.met s.mem hml2
    have c2 := trim_told (on := s.on) (met := pagesF s.met) (by rw [show (pagesF s.met).length = s.met.length by simp [pagesF]]; exact h.on.symm) hon
    generalize trimF s.on (pagesF s.met) = t at *
    unfold hsL hpL hpV X.encO lT at *
    refine told_of_ev (fn := heap_Heap_Do_fn) tabOk mixed (by kernel_rfl) (by kernel_rfl) (by kernel_rfl) (by kernel_rfl) ?_
    (refine gw ?_; refine IfB.ff (by simpa using h1) ?_)
    (refine gw ?_; refine IfB.ff (by simpa using h2) ?_)
    (refine gw ?_; refine IfB.ff (by simpa using h3) ?_)
    (refine gw ?_; refine IfB.ff (by simp; omega) ?_)
    (refine gw ?_; refine IfB.ff (by simp; omega) ?_)
    (refine gw ?_; refine IfB.ff (by simp; omega) ?_)
    (refine gw ?_; refine IfB.ff (by simp; omega) ?_)
    (refine gw ?_; refine IfB.ff (by simp; omega) ?_)
    (refine gw ?_; refine IfB.tt (by simpa using h9) ?_)
    (refine gw ?_; refine Choice.mk ⟨false, Choice.mk ⟨true, _, _, c1, Need.mk rfl ?_⟩⟩)
    (refine gw ?_; refine Choice.mk ⟨false, Choice.mk ⟨false, _, _, c2, ?_⟩⟩)
    (refine gw ?_; exact RetN.mk ⟨[], rfl, rfl, rfl⟩)
  rw [if_neg h9]
  by_cases h10 : o.k = 10
  · rw [if_pos h10]
    have c1 := pinCount_told s.on (by omega)
    unfold hsL hpL hpV X.encO lT at *
    refine told_of_ev (fn := heap_Heap_Do_fn) tabOk mixed (by kernel_rfl) (by kernel_rfl) (by kernel_rfl) (by kernel_rfl) ?_
    (refine gw ?_; refine IfB.ff (by simpa using h1) ?_)
    (refine gw ?_; refine IfB.ff (by simpa using h2) ?_)
    (refine gw ?_; refine IfB.ff (by simpa using h3) ?_)
    (refine gw ?_; refine IfB.ff (by simp; omega) ?_)
    (refine gw ?_; refine IfB.ff (by simp; omega) ?_)
    (refine gw ?_; refine IfB.ff (by simp; omega) ?_)
    (refine gw ?_; refine IfB.ff (by simp; omega) ?_)
    (refine gw ?_; refine IfB.ff (by simp; omega) ?_)
    (refine gw ?_; refine IfB.ff (by simpa using h9) ?_)
    (refine gw ?_; refine IfB.tt (by simpa using h10) ?_)
    (refine gw ?_; refine Choice.mk ⟨false, Choice.mk ⟨false, _, _, c1, ?_⟩⟩)
    (refine gw ?_; exact RetN.mk ⟨[], rfl, rfl, rfl⟩)
  rw [if_neg h10]
  unfold hsL hpL hpV X.encO
  refine told_of_ev (fn := heap_Heap_Do_fn) tabOk mixed (by kernel_rfl) (by kernel_rfl) (by kernel_rfl) (by kernel_rfl) ?_
  (refine gw ?_; refine IfB.ff (by simpa using h1) ?_)
  (refine gw ?_; refine IfB.ff (by simpa using h2) ?_)
  (refine gw ?_; refine IfB.ff (by simpa using h3) ?_)
  (refine gw ?_; refine IfB.ff (by simp; omega) ?_)
  (refine gw ?_; refine IfB.ff (by simp; omega) ?_)
  (refine gw ?_; refine IfB.ff (by simp; omega) ?_)
  (refine gw ?_; refine IfB.ff (by simp; omega) ?_)
  (refine gw ?_; refine IfB.ff (by simp; omega) ?_)
  (refine gw ?_; refine IfB.ff (by simpa using h9) ?_)
  (refine gw ?_; refine IfB.ff (by simpa using h10) ?_)
  (refine gw ?_; exact RetN.mk ⟨[], rfl, rfl, rfl⟩)
end Go.Ev.W
