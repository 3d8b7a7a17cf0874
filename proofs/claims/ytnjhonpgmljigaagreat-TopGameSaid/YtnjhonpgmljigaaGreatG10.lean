/- Words and lemmas, part 10, for laws of this seat (a part of their proofs). -/
import Derived.Test.YtnjhonpgmljigaaGreatG1
import Derived.Test.YtnjhonpgmljigaaGreatG2
import Derived.Test.YtnjhonpgmljigaaGreatG3
import Derived.Test.YtnjhonpgmljigaaGreatG9
import Derived.Test.YtnjhonpgmljigaaGreatNm
import Derived.Test.YtnjhonpgmljigaaGreatEvOpen
import Derived.Test.YtnjhonpgmljigaaGreatEvLib
import Derived.Test.YtnjhonpgmljigaaGreatEvGrid
import Derived.Test.YtnjhonpgmljigaaGreatEvTrim
set_option linter.unusedVariables false
set_option linter.unusedSimpArgs false
namespace Go.Ev.W
open Go.Ev Go.Ev.N

def rawF (p : Pk) (bg : Bool) : Rw × Pk :=
  let p1 := p.next 9
  let p2 := p1.next 12
  let p3 := p2.next 150
  let p4 := p3.next 30
  let p5 := p4.next 200
  (⟨1 + p.num 9, (1 + p.num 9) * (1 + p1.num 12), 1 + p2.num 150, 1 + p3.num 30, if bg = true then 5000 else 1 + p5.num 20, p4.num 200⟩, p5.next 20)
structure RwS (r : Rw) : Prop where
  g : 1 ≤ r.g ∧ r.g ≤ 9
  l : r.g ≤ r.l ∧ r.l ≤ 108
  m : 1 ≤ r.m ∧ r.m ≤ 150
  p : 1 ≤ r.p ∧ r.p ≤ 30
  b : 1 ≤ r.b ∧ r.b ≤ 5000
  s : 0 ≤ r.s ∧ r.s ≤ 199
theorem rawF_s (p : Pk) (bg : Bool) : RwS (rawF p bg).1 := by
  have a := p.num_lt (m := 9) (by omega)
  have b := (p.next 9).num_lt (m := 12) (by omega)
  have c := ((p.next 9).next 12).num_lt (m := 150) (by omega)
  have d := (((p.next 9).next 12).next 150).num_lt (m := 30) (by omega)
  have e := ((((p.next 9).next 12).next 150).next 30).num_lt (m := 200) (by omega)
  have f := (((((p.next 9).next 12).next 150).next 30).next 200).num_lt (m := 20) (by omega)
  have g1 : (1 + p.num 9) * 1 ≤ (1 + p.num 9) * (1 + (p.next 9).num 12) := Nat.mul_le_mul_left _ (by omega)
  have g2 : (1 + p.num 9) * (1 + (p.next 9).num 12) ≤ 9 * 12 := Nat.mul_le_mul (by omega) (by omega)
  have e1 : ((1 : Int) + (p.num 9 : Nat)) * (1 + ((p.next 9).num 12 : Nat)) = (((1 + p.num 9) * (1 + (p.next 9).num 12) : Nat) : Int) := by
    rw [Int.natCast_mul, Int.natCast_add, Int.natCast_add]; rfl
  unfold rawF
  refine ⟨⟨?_, ?_⟩, ⟨?_, ?_⟩, ⟨?_, ?_⟩, ⟨?_, ?_⟩, ?_, ⟨?_, ?_⟩⟩
  all_goals simp only
  all_goals try rw [e1]
  all_goals first | omega | (split <;> omega)
/-- There is always something of small ones. -/
theorem small_of {r : Rw} (h : RwS r) : (ofF r).2 = 0 ∧ (ofF r).1 = cfOf r ∧ (cfOf r).Ok ∧ (cfOf r).N ≤ 128 ∧ (cfOf r).M ≤ 405 ∧ (cfOf r).L ≤ 7 ∧ (cfOf r).G ≤ 16 ∧ (cfOf r).Pg ≤ 32 := by
  have g := upN_le (v := r.g.toNat) (k := 4) (by have := h.g; omega)
  have g0 := upN_pos r.g.toNat
  have n := upN_le (v := max r.l.toNat (upN r.g.toNat)) (k := 7) (by have := h.l; omega)
  have pg := upN_le (v := max r.p.toNat (upN r.g.toNat)) (k := 5) (by have := h.p; omega)
  have n1 := upN_pos (max r.l.toNat (upN r.g.toNat))
  obtain ⟨q, q1, q2, q3⟩ := rnd_spec (v := r.m.toNat) (t := 2 * max (upN (max r.l.toNat (upN r.g.toNat))) (upN (max r.p.toNat (upN r.g.toNat)))) (by omega)
  have hm := h.m
  obtain ⟨k, hk⟩ := pow_up (v := r.l.toNat) (upN_pow r.g.toNat)
  have hL := log_of g0 hk
  have k7 : k ≤ 7 := by
    have : 1 * 2 ^ k ≤ upN r.g.toNat * 2 ^ k := Nat.mul_le_mul_right _ g0
    have : 2 ^ k ≤ 2 ^ 7 := by omega
    exact (Nat.pow_le_pow_iff_right (a := 2) (by omega)).1 this
  have hM : (cfOf r).M ≤ 405 := by show rnd _ _ ≤ 405; omega
  have hLL : (cfOf r).L ≤ 7 := by show Nat.log2 _ ≤ 7; rw [hL]; exact k7
  have hH : (cfOf r).H ≤ 65536 := by
    show (cfOf r).M + (cfOf r).L * ((cfOf r).M / 2) ≤ 65536
    have : (cfOf r).L * ((cfOf r).M / 2) ≤ 7 * 405 := Nat.mul_le_mul hLL (by omega)
    omega
  have hok : r.ok = true := by
    simp only [Rw.ok, inR, Bool.and_eq_true, decide_eq_true_eq]
    have := h.g; have := h.l; have := h.m; have := h.p; have := h.b; have := h.s
    omega
  have e : ofF r = (cfOf r, 0) := by unfold ofF; rw [if_pos ⟨hok, hH⟩]
  have h0 : (ofF r).2 = 0 := by rw [e]
  refine ⟨h0, by rw [e], ?_, n, hM, hLL, g, pg⟩
  have := (ofF_ok h0).1
  rw [e] at this; exact this

set_option maxHeartbeats 2000000 in
theorem raw_told (p : Pk) (ok : p.Ok) (bg : Bool) : Told P T mk_Picks_Raw [pkB p] [.ptr 0 0 0, .bool bg] (eR (rawF p bg).1) [pkB (rawF p bg).2] := by
  have k1 := ok.next 9
  have k2 := k1.next 12
  have k3 := k2.next 150
  have k4 := k3.next 30
  have k5 := k4.next 200
  have b1 := p.num_lt (m := 9) (by omega)
  have b2 := (p.next 9).num_lt (m := 12) (by omega)
  have b3 := ((p.next 9).next 12).num_lt (m := 150) (by omega)
  have b4 := (((p.next 9).next 12).next 150).num_lt (m := 30) (by omega)
  have b5 := ((((p.next 9).next 12).next 150).next 30).num_lt (m := 200) (by omega)
  have b6 := (((((p.next 9).next 12).next 150).next 30).next 200).num_lt (m := 20) (by omega)
  have g2 : (1 + p.num 9) * (1 + (p.next 9).num 12) ≤ 9 * 12 := Nat.mul_le_mul (by omega) (by omega)
  have e1 : ((1 : Int) + (p.num 9 : Nat)) * (1 + ((p.next 9).num 12 : Nat)) = (((1 + p.num 9) * (1 + (p.next 9).num 12) : Nat) : Int) := by
    rw [Int.natCast_mul, Int.natCast_add, Int.natCast_add]; rfl
  refine told_of_ev (fn := mk_Picks_Raw_fn) tabOk mixed (by kernel_rfl) (by kernel_rfl) (by kernel_rfl) (by kernel_rfl) ?_
  (refine gw ?_; refine Choice.mk ⟨true, Choice.mk ⟨false, _, _, num_told p ok 9 (by omega), ?_⟩⟩)
  (refine gw ?_; refine Choice.mk ⟨true, Choice.mk ⟨false, _, _, num_told _ k1 12 (by omega), ?_⟩⟩)
  (refine gw ?_; refine Choice.mk ⟨true, Choice.mk ⟨false, _, _, num_told _ k2 150 (by omega), ?_⟩⟩)
  (refine gw ?_; refine Choice.mk ⟨true, Choice.mk ⟨false, _, _, num_told _ k3 30 (by omega), ?_⟩⟩)
  (refine gw ?_; refine Choice.mk ⟨true, Choice.mk ⟨false, _, _, num_told _ k4 200 (by omega), ?_⟩⟩)
  (refine gw ?_; refine Choice.mk ⟨true, Choice.mk ⟨false, _, _, num_told _ k5 20 (by omega), ?_⟩⟩)
  cases bg with
  | true => (refine gw ?_; exact RetN.mk ⟨[], rfl, rfl, rfl⟩)
  | false => (refine gw ?_; exact RetN.mk ⟨[], rfl, rfl, rfl⟩)
end Go.Ev.W
namespace Go.Ev.W
open Go.Ev Go.Ev.N

theorem newM_ok {r : Rw} (h : (newM r).2 = 0) : MoOk (newM r).1 := by
  have hok := ofF_ok (r := r)
  unfold newM at h ⊢
  split at h
  · rename_i h1; exact absurd h h1
  · rename_i h1
    rw [if_neg h1]
    have hc := (hok (Decidable.of_not_not h1)).1
    refine ⟨hc, ApB.nil _, by simp, by simp [totalB], by simp, by simp, by simp, by simp, ?_, by simp, ?_⟩
    · show cntB (List.replicate _ false) ≤ _
      unfold cntB
      rw [List.filter_eq_nil_iff.2 (by intro a ha; rw [List.eq_of_mem_replicate ha]; simp)]
      simp
    · intro x hx
      rw [List.eq_of_mem_replicate hx]; omega
end Go.Ev.W
namespace Go.Ev.W
open Go.Ev Go.Ev.N

theorem newM_of (r : Rw) : (newM r).2 = (ofF r).2 := by
  unfold newM
  split <;> simp_all
theorem hpNewI {r : Rw} (h : (newM r).2 = 0) : ∃ s, Hr (newM r).1 s ∧ Told P T heap_New [] [eR r] (.tup [.ptr 0 0 0, i64 0]) (hsL (newM r).1.c ((newM r).1.c.H / (newM r).1.c.G) ((newM r).1.c.L + 1) s ++ [.fz t_bool ((newM r).1.on.map .bool)]) := by
  have h2 : (ofF r).2 = 0 := by rw [← newM_of]; exact h
  refine ⟨_, newH_rel h2, ?_⟩
  have := hpNew_told r h2
  unfold newM
  rw [if_neg (by simpa using h2)]
  exact this
theorem hpNewE {r : Rw} (h : (newM r).2 ≠ 0) : Told P T heap_New [] [eR r] (.tup [.npt, i64 ((newM r).2 : Nat)]) [] := by
  rw [newM_of] at h ⊢
  exact hpNewE_told r h
abbrev hI (m : Mo) (s : Hs) : List Blk := hsL m.c (m.c.H / m.c.G) (m.c.L + 1) s
end Go.Ev.W
namespace Go.Ev.W
open Go.Ev Go.Ev.N

def setP (p : Nat) (m : Mo) : Mo := { m with c := { m.c with P := p } }
theorem cnt_le {n : Nat} (f : Nat → Bool) : cntB ((List.range n).map f) ≤ n := by
  unfold cntB
  refine Nat.le_trans (List.length_filter_le _ _) ?_
  simp
theorem commit_enough {on met : List Bool} {f b most : Nat} (h : on.length ≤ most) : commitF on met f b most = ((List.range on.length).map (needF on f b), freshL on f b on.length, true) := by
  rw [commitF_eq]
  have h1 := cnt_le (n := on.length) (needF met f b)
  have h2 := cnt_le (n := on.length) (needF on f b)
  rw [if_neg (by omega), if_neg (by omega)]
theorem en_place {m : Mo} {p : Nat} (h1 : m.on.length ≤ m.c.P) (h2 : m.on.length ≤ p) (l : List Bk) (ch : Nat) (q : Int) : placeF (setP p m) l ch q = (setP p (placeF m l ch q).1, (placeF m l ch q).2) ∧ (placeF m l ch q).2.2 ≠ 6 := by
  have e1 : lowF (setP p m).c l ch = lowF m.c l ch := rfl
  unfold placeF
  simp only
  rw [e1]
  by_cases h : (lowF m.c l ch).2 = false
  · rw [if_pos h, if_pos h]
    exact ⟨rfl, by simp⟩
  · rw [if_neg h, if_neg h]
    rw [show (setP p m).on = m.on from rfl, show (setP p m).c.P = p from rfl, show (setP p m).c.Pg = m.c.Pg from rfl, show (setP p m).c.H = m.c.H from rfl, commit_enough h1, commit_enough h2]
    exact ⟨rfl, by simp⟩
end Go.Ev.W
namespace Go.Ev.W
open Go.Ev Go.Ev.N

def bsS (b : Bk) : Sp := ⟨b.a, b.c⟩
theorem total_bs : ∀ l : List Bk, total (l.map bsS) = totalB l
  | [] => rfl
  | b :: l => by
    have := total_bs l
    simp only [total, totalB, List.map_cons, List.sum_cons] at *
    rw [this]; rfl
theorem upN_own (k : Nat) : upN (2 ^ k) = 2 ^ k := by
  have h1 := le_upN (2 ^ k)
  have h2 := upN_le (Nat.le_refl (2 ^ k))
  omega
/-- Who asks for a size is charged that size. -/
theorem newF_own {c : Cf} (hc : c.Ok) {k : Nat} (hk : k ≤ c.L) {live : Int} (h : live + (sz c k : Nat) ≤ c.M) : newF c live (sz c k : Nat) 1 = (sz c k, 0) := by
  obtain ⟨a, ha⟩ := hc.g
  have hs := hc.sz_le hk
  have hp := sz_pos hc k
  have hG : c.G ≤ sz c k := by
    have : sz c 0 ≤ sz c k := sz_mono (by omega)
    have e0 : sz c 0 = c.G := by simp [sz]
    omega
  have hu : upN (sz c k) = sz c k := by
    have : sz c k = 2 ^ (a + k) := by unfold sz; rw [ha, Nat.pow_add]
    rw [this]; exact upN_own _
  have h1 : logF 1 = (0, true) := by
    have := logF_pow 0
    simpa using this
  have hch : chargeF c (sz c k : Nat) 1 = (sz c k, 0) := by
    unfold chargeF
    rw [h1, if_neg (by simp; have := hc.n; have := Nat.mul_pos hc.gpos (Nat.two_pow_pos c.L); omega), if_neg (by omega)]
    rw [show max (max ((sz c k : Nat) : Int).toNat (1 : Int).toNat) c.G = sz c k by rw [Int.toNat_natCast]; show max (max (sz c k) 1) c.G = _; omega, hu]
  unfold newF
  rw [hch]
  simp only
  rw [if_neg (by simp), if_neg (by omega)]
theorem place_mark {m : Mo} {l : List Bk} {n : Nat} {q : Int} (h : (placeF m l n q).2.2 = 0) : (placeF m l n q).1.mark = max m.mark ((placeF m l n q).2.1 + n) ∧ (placeF m l n q).1.on.length = (placeF m l n q).1.on.length := by
  refine ⟨?_, rfl⟩
  unfold placeF at h ⊢
  simp only at h ⊢
  split
  · rename_i h1; rw [if_pos h1] at h; simp at h
  · rename_i h1
    rw [if_neg h1] at h
    split
    · rename_i h2; rw [if_pos h2] at h; simp at h
    · show max m.mark _ = max m.mark _
      congr 1
theorem endF_sub {c : Cf} : ∀ (k : Nat) (r : Rd), (endF c k r).live.Sublist r.live
  | 0, r => List.Sublist.refl _
  | k + 1, r => by
    unfold endF
    split
    · split
      · exact List.Sublist.refl _
      · refine (endF_sub k (nextF c r)).trans ?_
        unfold nextF
        split <;> exact List.filter_sublist
    · exact List.Sublist.refl _
theorem sp_ext : ∀ {l r : List Sp}, l.Pairwise (fun x y => x.a < y.a) → r.Pairwise (fun x y => x.a < y.a) → (∀ z, z ∈ l ↔ z ∈ r) → l = r
  | [], [], _, _, _ => rfl
  | [], b :: r, _, _, h => absurd ((h b).2 (by simp)) (by simp)
  | a :: l, [], _, _, h => absurd ((h a).1 (by simp)) (by simp)
  | a :: l, b :: r, hl, hr, h => by
    have hl1 := (List.pairwise_cons.1 hl).1
    have hr1 := (List.pairwise_cons.1 hr).1
    have hab : a = b := by
      rcases List.mem_cons.1 ((h a).1 (by simp)) with e | e
      · exact e
      · rcases List.mem_cons.1 ((h b).2 (by simp)) with e2 | e2
        · exact e2.symm
        · have h1 := hl1 b e2
          have h2 := hr1 a e
          omega
    subst hab
    congr 1
    refine sp_ext (List.pairwise_cons.1 hl).2 (List.pairwise_cons.1 hr).2 fun z => ?_
    constructor
    · intro hz
      rcases List.mem_cons.1 ((h z).1 (by simp [hz])) with e | e
      · have := hl1 z hz
        rw [e] at this; omega
      · exact e
    · intro hz
      rcases List.mem_cons.1 ((h z).2 (by simp [hz])) with e | e
      · have := hr1 z hz
        rw [e] at this; omega
      · exact e
theorem bs_rise {H : Nat} {l : List Bk} (h : ApB H l) : (l.map bsS).Pairwise (fun x y => x.a < y.a) := by
  rw [List.pairwise_map]
  refine List.Pairwise.imp_of_mem ?_ h.p
  intro x z hx hz e
  have := h.b x hx
  show x.a < z.a
  omega
theorem apart_rise {l : List Sp} (h : Apart l) : l.Pairwise (fun x y => x.a < y.a) := by
  refine List.Pairwise.imp_of_mem ?_ h.2
  intro x z hx hz e
  have := (oneB_iff x).1 (h.1 x hx)
  omega
/-- A heap that plays a game. -/
structure Gi (c : Cf) (r : Rd) (m : Mo) : Prop where
  ok : MoOk m
  ce : m.c = c
  w : WiL c m.bs
  on : c.H / c.Pg ≤ c.P
  bl : m.bs.map bsS = r.live
  mrk : m.mark = r.most
  rk : RdOk c r
  rx : RdX c r
  rh : RdH c r
  wy : r.why = 0 ∨ (r.why = 2 ∧ r.step = c.L ∧ (c.M : Int) < total r.live + sz c c.L)
def mal (n : Nat) : X.O := ⟨1, 0, n, 0, 0, 0⟩
def fre (y : Int) : X.O := ⟨5, y, 0, 0, 0, 0⟩
theorem doF_mal {m : Mo} {n : Nat} (h : newF m.c m.live n 1 = (n, 0)) (h2 : (placeF m m.bs n n).2.2 = 0) : doF m (mal n) = ((placeF m m.bs n n).1, { an0 with at' := (placeF m m.bs n n).2.1 }) := by
  unfold doF giveF mal
  simp only [true_or, if_true, if_neg (show ¬ (1 : Int) = 2 by decide), if_neg (show ¬ (1 : Int) = 3 by decide)]
  rw [h]
  simp only
  rw [if_neg (by simp), if_neg (by simpa using h2)]
/-- What stands between what was told and what is let go. -/
structure Gm' (c : Cf) (r1 : Rd) (m1 : Mo) (ats : List Int) (k : Nat) (m : Mo) : Prop where
  ok : MoOk m
  ce : m.c = c
  w : WiL c m.bs
  mrk : m.mark = m1.mark
  mem : ∀ z, z ∈ m.bs ↔ z ∈ m1.bs ∧ ((∃ x ∈ r1.live, x.a = z.a) ∨ z.a ∉ ats.take k)
/-- A round: what is asked for is let in; what it is told goes on. -/
theorem Gi.ask {c : Cf} {r : Rd} {m : Mo} (h : Gi c r m) (hw : r.why = 0) :
    ∃ (m1 : Mo) (y : Int), doF m (mal (sz c r.step)) = (m1, { an0 with at' := y }) ∧ 0 ≤ y ∧ y ≤ c.H ∧ Gm' c (toldF c r y) m1 (r.live.map (·.a) ++ [y]) 0 m1 ∧ (r.live.map (·.a) ++ [y]).Nodup ∧ (∀ b, b ∈ r.live.map (·.a) ++ [y] ↔ ∃ z ∈ m1.bs, z.a = b) ∧
      RdOk c (toldF c r y) ∧ RdX c (toldF c r y) ∧ RdH c (toldF c r y) ∧ m1.mark = (toldF c r y).most ∧ ((toldF c r y).why = 0 ∨ ((toldF c r y).why = 2 ∧ (toldF c r y).step = c.L ∧ (c.M : Int) < total (toldF c r y).live + sz c c.L)) ∧ (∀ x ∈ (toldF c r y).live, ∃ z ∈ m1.bs, bsS z = x) ∧ (toldF c r y).asked = r.asked + 1 := by
  obtain ⟨hm, rfl, hwi, hon, hbl, hmk, hr, hx, hh, _⟩ := h
  have hc := hm.c
  have hH := hc.h2
  have hs := hr.s
  have ht2 := hr.t2 hw
  have hlive : m.live = total r.live := by rw [hm.l, ← total_bs, hbl]
  have hn := newF_own hc hs (live := m.live) (by rw [hlive]; exact ht2)
  have hpos := sz_pos hc r.step
  have hsn : ((sz m.c r.step : Nat) : Int) ≤ m.c.N := by have := hc.sz_le hs; omega
  have hput0 := wi_put hm hm.a hm.z hwi (n := sz m.c r.step) ⟨r.step, hs, rfl⟩ (sz m.c r.step : Nat) (by rw [← hm.l, hlive]; exact ht2)
  have hen := en_place (p := m.c.P) (m := m) (by rw [hm.o]; exact hon) (by rw [hm.o]; exact hon) m.bs (sz m.c r.step) (sz m.c r.step : Nat)
  have he : (placeF m m.bs (sz m.c r.step) (sz m.c r.step : Nat)).2.2 = 0 := by
    have h7 := hput0.1
    have h6 := hen.2
    have : (placeF m m.bs (sz m.c r.step) (sz m.c r.step : Nat)).2.2 = 0 ∨ (placeF m m.bs (sz m.c r.step) (sz m.c r.step : Nat)).2.2 = 6 ∨ (placeF m m.bs (sz m.c r.step) (sz m.c r.step : Nat)).2.2 = 7 := by
      unfold placeF
      simp only
      split
      · exact .inr (.inr rfl)
      · split
        · exact .inr (.inl rfl)
        · exact .inl rfl
    rcases this with h | h | h
    · exact h
    · exact absurd h h6
    · exact absurd h h7
  have hd := doF_mal hn he
  have hput := placeF_ok hm hm.a hm.z (n := sz m.c r.step) ⟨r.step, hs, rfl⟩ (q := (sz m.c r.step : Nat)) ⟨by omega, by omega⟩ (by rw [← hm.l, hlive]; exact ht2) hm.k.1 he
  have hmark := (place_mark he).1
  have hwi1 := hput0.2 he
  generalize placeF m m.bs (sz m.c r.step) (sz m.c r.step : Nat) = D at *
  obtain ⟨m1, y, e0⟩ := D
  simp only at *
  have hf := freeAt_iff.1 hput.f
  have hgood : GoodAt r.live (sz m.c r.step) y := ⟨hput.y0, fun x hx => by
    rw [← hbl] at hx
    obtain ⟨b, hb, rfl⟩ := List.mem_map.1 hx
    have := hf b hb
    have hbb := hm.a.b b hb
    show b.a + b.c ≤ y ∨ y + _ ≤ b.a
    omega⟩
  have hyH := hput.yH
  have hy0 := hput.y0
  have hth := toldF_h hc hr hx hh hw hgood (by omega)
  have hto := toldF_ok hc hr y
  have htx := toldF_x hc hr hx y
  have hpb := putB_ok hm.a (b := ⟨y, (sz m.c r.step : Nat), (sz m.c r.step : Nat)⟩) hput.f ⟨hy0, by simp only; omega, by simp only; omega⟩
  have hmem1 : ∀ z, z ∈ m1.bs ↔ z = ⟨y, (sz m.c r.step : Nat), (sz m.c r.step : Nat)⟩ ∨ z ∈ m.bs := fun z => by rw [hput.bs]; exact hpb.2.1 z
  have hany : ∀ z ∈ m.bs, z.a ≠ y := fun z hz e => by
    have := hf z hz
    have := hm.a.b z hz
    omega
  refine ⟨m1, y, hd, hy0, by omega, ⟨hput.ok, hput.c, hwi1, rfl, fun z => ?_⟩, ?_, fun b => ?_, hto.1, htx, hth.1, ?_, hth.2.2, fun x hxl => ?_, by rw [hto.2, if_pos hw]⟩
  · simp
  · rw [List.nodup_append]
    refine ⟨?_, by simp, ?_⟩
    · rw [← hbl, List.map_map]
      show (m.bs.map fun b => b.a).Pairwise (· ≠ ·)
      rw [List.pairwise_map]
      refine List.Pairwise.imp_of_mem ?_ hm.a.p
      intro u v hu hv e
      have := hm.a.b u hu
      omega
    · intro u hu v hv
      rw [List.mem_singleton.1 hv]
      rw [← hbl, List.map_map] at hu
      obtain ⟨z, hz, rfl⟩ := List.mem_map.1 hu
      exact hany z hz
  · rw [List.mem_append, List.mem_singleton, ← hbl, List.map_map]
    constructor
    · rintro (hb | rfl)
      · obtain ⟨z, hz, rfl⟩ := List.mem_map.1 hb
        exact ⟨z, (hmem1 z).2 (.inr hz), rfl⟩
      · exact ⟨_, (hmem1 _).2 (.inl rfl), rfl⟩
    · rintro ⟨z, hz, rfl⟩
      rcases (hmem1 z).1 hz with rfl | hz
      · exact .inr rfl
      · exact .inl (List.mem_map.2 ⟨z, hz, rfl⟩)
  · rw [hmark, hth.2.1, hmk]
  · have hsub : ∀ z ∈ (toldF m.c r y).live, z ∈ (putR r.live ⟨y, sz m.c r.step⟩).1 := by
      unfold toldF
      rw [if_neg (by omega)]
      split
      · rename_i hp
        intro z hz
        rcases (put_cases hr.a ⟨y, sz m.c r.step⟩).2 with ⟨_, _, l1, l2, e, e2, _, _⟩ | ⟨_, e2⟩
        · rw [e2] at hp; cases hp
        · rw [e2]; exact hz
      · intro z hz
        exact (endF_sub _ _).subset hz
    have hz := hsub x hxl
    have hz2 : x = ⟨y, sz m.c r.step⟩ ∨ x ∈ r.live := by
      rcases (put_cases hr.a ⟨y, sz m.c r.step⟩).2 with ⟨_, _, l1, l2, e, e2, _, _⟩ | ⟨_, e2⟩
      · rw [e2] at hz
        rw [e]
        simp only [List.mem_append, List.mem_cons] at hz ⊢
        rcases hz with h | h | h
        · exact .inr (.inl h)
        · exact .inl h
        · exact .inr (.inr h)
      · rw [e2] at hz; exact .inr hz
    rcases hz2 with rfl | hz2
    · exact ⟨_, (hmem1 _).2 (.inl rfl), rfl⟩
    · rw [← hbl] at hz2
      obtain ⟨b, hb, rfl⟩ := List.mem_map.1 hz2
      exact ⟨b, (hmem1 b).2 (.inr hb), rfl⟩
theorem mem_dropB' {H : Nat} {l : List Bk} {j : Nat} (hj : j < l.length) (ha : ApB H l) (x : Bk) : x ∈ dropB l j ↔ x ∈ l ∧ x.a ≠ l[j].a := mem_dropB hj ha.inj ha.ne x
theorem posS_iff {l : List Sp} {y : Int} : (cutF l y).2.2 = true ↔ ∃ x ∈ l, x.a = y := by
  unfold cutF
  cases h : posS y l with
  | none =>
    simp only [Bool.false_eq_true, false_iff]
    rintro ⟨x, hx, e⟩
    have : ∀ (l : List Sp), posS y l = none → ∀ x ∈ l, x.a ≠ y := by
      intro l
      induction l with
      | nil => intro _ x hx; simp at hx
      | cons z l ih =>
        intro h x hx
        unfold posS at h
        split at h
        · cases h
        · rename_i hz
          rcases List.mem_cons.1 hx with rfl | hx
          · exact hz
          · cases h2 : posS y l with
            | none => exact ih h2 x hx
            | some i => rw [h2] at h; cases h
    exact this l h x hx e
  | some i =>
    simp only [true_iff]
    have : ∀ (l : List Sp) (i : Nat), posS y l = some i → ∃ x ∈ l, x.a = y := by
      intro l
      induction l with
      | nil => intro i h; cases h
      | cons z l ih =>
        intro i h
        unfold posS at h
        split at h
        · rename_i hz; exact ⟨z, by simp, hz⟩
        · cases h2 : posS y l with
          | none => rw [h2] at h; cases h
          | some j =>
            obtain ⟨x, hx, e⟩ := ih j h2
            exact ⟨x, by simp [hx], e⟩
    exact this l i h
/-- What is held is kept, what is not is freed. -/
theorem Gm'.keep {c : Cf} {r1 : Rd} {m1 : Mo} {ats : List Int} {k : Nat} {m : Mo} (h : Gm' c r1 m1 ats k m) (hk : k < ats.length) (hh : (cutF r1.live ats[k]).2.2 = true) : Gm' c r1 m1 ats (k + 1) m := by
  refine ⟨h.ok, h.ce, h.w, h.mrk, fun z => ?_⟩
  rw [h.mem, List.take_succ_eq_append_getElem hk]
  obtain ⟨x, hx, e⟩ := posS_iff.1 hh
  constructor
  · rintro ⟨h1, h2 | h2⟩
    · exact ⟨h1, .inl h2⟩
    · refine ⟨h1, ?_⟩
      by_cases hz : z.a = ats[k]
      · exact .inl ⟨x, hx, by rw [e, hz]⟩
      · exact .inr (by simp only [List.mem_append, List.mem_singleton, not_or]; exact ⟨h2, hz⟩)
  · rintro ⟨h1, h2 | h2⟩
    · exact ⟨h1, .inl h2⟩
    · exact ⟨h1, .inr fun q => h2 (List.mem_append.2 (.inl q))⟩
theorem Gm'.free {c : Cf} {r1 : Rd} {m1 : Mo} {ats : List Int} {k : Nat} {m : Mo} (h : Gm' c r1 m1 ats k m) (hk : k < ats.length) (hnd : ats.Nodup) (hat : ∀ b, b ∈ ats ↔ ∃ z ∈ m1.bs, z.a = b) (hi1 : ∀ x ∈ m1.bs, ∀ z ∈ m1.bs, x.a = z.a → x = z) (hh : ¬ (cutF r1.live ats[k]).2.2 = true) : (doF m (fre ats[k])).2.e = 0 ∧ Gm' c r1 m1 ats (k + 1) (doF m (fre ats[k])).1 := by
  obtain ⟨z0, hz0, ez0⟩ := (hat ats[k]).1 (List.getElem_mem hk)
  have hnot : ats[k] ∉ ats.take k := fun q => by
    obtain ⟨i, hi, e⟩ := List.getElem_of_mem q
    rw [List.length_take] at hi
    rw [List.getElem_take] at e
    have := List.pairwise_iff_getElem.1 hnd i k (by omega) hk (by omega)
    exact this e
  have hz0m : z0 ∈ m.bs := (h.mem z0).2 ⟨hz0, .inr (by rw [ez0]; exact hnot)⟩
  obtain ⟨i, hf⟩ : ∃ i, findB m.bs ats[k] = some i := by
    cases hf : findB m.bs ats[k] with
    | some i => exact ⟨i, rfl⟩
    | none =>
      unfold findB at hf
      rw [List.findIdx?_eq_none_iff] at hf
      have := hf z0 hz0m
      simp [ez0] at this
  obtain ⟨hi, hia⟩ := findB_lt hf
  have hg : m.bs.getD i bk0 = m.bs[i] := by simp [List.getD_eq_getElem?_getD, hi]
  have hdo : doF m (fre ats[k]) = ({ m with bs := dropB m.bs i, live := m.live - m.bs[i].c }, an0) := by
    unfold doF fre
    simp only [hf]
    unfold ofB
    rw [hg]
    simp
  have hokf : OpOk (fre ats[k]) := by
    have := h.ok.a.b z0 hz0m
    have := h.ok.c.h2
    refine ⟨by simp [fre], ?_, by simp [fre], by simp [fre], by simp [fre], by simp [fre]⟩
    show -9223372036854775808 ≤ ats[k] ∧ ats[k] ≤ 9223372036854775807
    omega
  have hd := doF_ok h.ok hokf
  have hmd := mem_dropB' hi h.ok.a
  rw [hia] at hmd
  rw [hdo] at hd ⊢
  refine ⟨rfl, hd.1, h.ce, fun x hx => h.w x ((dropB_sub m.bs i).subset hx), h.mrk, fun z => ?_⟩
  show z ∈ dropB m.bs i ↔ _
  rw [hmd, h.mem, List.take_succ_eq_append_getElem hk]
  constructor
  · rintro ⟨⟨h1, h2 | h2⟩, h3⟩
    · exact ⟨h1, .inl h2⟩
    · exact ⟨h1, .inr (by simp only [List.mem_append, List.mem_singleton, not_or]; exact ⟨h2, h3⟩)⟩
  · rintro ⟨h1, h2 | h2⟩
    · refine ⟨⟨h1, .inl h2⟩, fun q => hh (posS_iff.2 ?_)⟩
      obtain ⟨x, hx, e⟩ := h2
      exact ⟨x, hx, by rw [e, q]⟩
    · simp only [List.mem_append, List.mem_singleton, not_or] at h2
      exact ⟨⟨h1, .inr h2.1⟩, h2.2⟩
theorem Gm'.done {c : Cf} {r1 : Rd} {m1 m : Mo} {ats : List Int} (h : Gm' c r1 m1 ats ats.length m) (hat : ∀ b, b ∈ ats ↔ ∃ z ∈ m1.bs, z.a = b) (hi1 : ∀ x ∈ m1.bs, ∀ z ∈ m1.bs, x.a = z.a → x = z) (hsub : ∀ x ∈ r1.live, ∃ z ∈ m1.bs, bsS z = x)
    (hon : c.H / c.Pg ≤ c.P) (hr : RdOk c r1) (hx : RdX c r1) (hh : RdH c r1) (hmk : m1.mark = r1.most) (hwy : r1.why = 0 ∨ (r1.why = 2 ∧ r1.step = c.L ∧ (c.M : Int) < total r1.live + sz c c.L)) : Gi c r1 m := by
  refine ⟨h.ok, h.ce, h.w, hon, sp_ext (bs_rise h.ok.a) (apart_rise hr.a) fun z => ?_, by rw [h.mrk, hmk], hr, hx, hh, hwy⟩
  constructor
  · intro hz
    obtain ⟨b, hb, rfl⟩ := List.mem_map.1 hz
    obtain ⟨h1, h2⟩ := (h.mem b).1 hb
    rcases h2 with ⟨x, hx, e⟩ | h2
    · obtain ⟨b', hb', e'⟩ := hsub x hx
      have : b' = b := hi1 b' hb' b h1 (by rw [← e]; show b'.a = x.a; rw [← e']; rfl)
      rw [← this, e']; exact hx
    · rw [List.take_length] at h2
      exact absurd ((hat b.a).2 ⟨b, h1, rfl⟩) h2
  · intro hz
    obtain ⟨b, hb, e⟩ := hsub z hz
    exact List.mem_map.2 ⟨b, (h.mem b).2 ⟨hb, .inl ⟨z, hz, by rw [← e]; rfl⟩⟩, e⟩
end Go.Ev.W
namespace Go.Ev
end Go.Ev
namespace Go.Ev.X
open Go.Ev Go.Ev.N

def fieldsOf (k : Int) : List UInt8 :=
  if k = 1 then [83] else if k = 2 then [78, 83] else if k = 3 then [83, 65] else if k = 4 then [80, 83] else if k = 5 then [80] else if k = 6 then [80] else if k = 7 then [80, 78] else if k = 8 then [80, 78] else []

theorem fields_told (k : Int) : Told P T wire_fields [] [.int .i64 k] (.str ⟨(fieldsOf k).toArray⟩) [] := by
  refine told_of_ev (fn := wire_fields_fn) tabOk mixed (by kernel_rfl) (by kernel_rfl) (by kernel_rfl) (by kernel_rfl) ?_
  refine IfB.mk (fun h1 => ?_) (fun h1 => ?_)
  · refine RetN.mk ⟨[], rfl, ?_, rfl⟩
    simp only [beq_iff_eq] at h1; subst h1; rfl
  refine IfB.mk (fun h2 => ?_) (fun h2 => ?_)
  · refine RetN.mk ⟨[], rfl, ?_, rfl⟩
    simp only [beq_iff_eq] at h2; subst h2; rfl
  refine IfB.mk (fun h3 => ?_) (fun h3 => ?_)
  · refine RetN.mk ⟨[], rfl, ?_, rfl⟩
    simp only [beq_iff_eq] at h3; subst h3; rfl
  refine IfB.mk (fun h4 => ?_) (fun h4 => ?_)
  · refine RetN.mk ⟨[], rfl, ?_, rfl⟩
    simp only [beq_iff_eq] at h4; subst h4; rfl
  refine IfB.mk (fun h5 => ?_) (fun h5 => ?_)
  · refine IfB.tt h5 ?_
    refine RetN.mk ⟨[], rfl, ?_, rfl⟩
    simp only [beq_iff_eq] at h5; subst h5; rfl
  refine IfB.mk (fun h6 => ?_) (fun h6 => ?_)
  · refine RetN.mk ⟨[], rfl, ?_, rfl⟩
    simp only [beq_iff_eq] at h6; subst h6; rfl
  refine IfB.mk (fun h7 => ?_) (fun h7 => ?_)
  · refine IfB.tt h7 ?_
    refine RetN.mk ⟨[], rfl, ?_, rfl⟩
    simp only [beq_iff_eq] at h7; subst h7; rfl
  refine IfB.mk (fun h8 => ?_) (fun h8 => ?_)
  · refine RetN.mk ⟨[], rfl, ?_, rfl⟩
    simp only [beq_iff_eq] at h8; subst h8; rfl
  · refine RetN.mk ⟨[], rfl, ?_, rfl⟩
    show AV.str _ = AV.str _
    simp only [beq_eq_false_iff_ne, ne_eq] at h1 h2 h3 h4 h5 h6 h7 h8
    simp [fieldsOf, *]

/-- Which cell a letter names. -/
def cellOf (b : Int) : Nat := if b = 80 then 1 else if b = 83 then 2 else if b = 65 then 3 else 4

theorem field_told (o : O) (b : Int) : Told P T wire_field [.var (encO o)] [.ptr 0 0 0, .int .u8 b] (.ptr 0 0 (cellOf b)) [.var (encO o)] := by
  refine told_of_ev (fn := wire_field_fn) tabOk mixed (by kernel_rfl) (by kernel_rfl) (by kernel_rfl) (by kernel_rfl) ?_
  refine IfB.mk (fun h1 => ?_) (fun h1 => ?_)
  · refine RetN.mk ⟨[], rfl, ?_, rfl⟩
    simp only [beq_iff_eq] at h1; subst h1; rfl
  refine IfB.mk (fun h2 => ?_) (fun h2 => ?_)
  · refine RetN.mk ⟨[], rfl, ?_, rfl⟩
    simp only [beq_iff_eq] at h2; subst h2; rfl
  refine IfB.mk (fun h3 => ?_) (fun h3 => ?_)
  · refine RetN.mk ⟨[], rfl, ?_, rfl⟩
    simp only [beq_iff_eq] at h3; subst h3; rfl
  · refine RetN.mk ⟨[], rfl, ?_, rfl⟩
    show AV.ptr 0 0 4 = AV.ptr 0 0 _
    simp only [beq_eq_false_iff_ne, ne_eq] at h1 h2 h3
    simp [cellOf, *]

/-- A call's number. -/
def setO (o : O) (b : UInt8) (v : Int) : O := if b = 80 then { o with p := v } else if b = 83 then { o with s := v } else if b = 65 then { o with a := v } else { o with n := v }
def rd3 (a b c : Int) : Int := a * 65536 + b * 256 + c
def fillO : List UInt8 → List Int → O → O × Option (List Int)
  | [], bs, o => (o, some bs)
  | f :: fs, b0 :: b1 :: b2 :: bs, o => fillO fs bs (setO o f (rd3 b0 b1 b2))
  | _ :: _, _, o => (o, none)
def IsB (bs : List Int) : Prop := ∀ b ∈ bs, 0 ≤ b ∧ b < 256
def encB (bs : List Int) : List AV := bs.map fun b => .int .u8 b

/-- What stands behind a kind: the call, how many bytes, is it there? -/
def one (k : Int) (bs : List Int) : O × Nat × Bool :=
  match fillO (fieldsOf k) bs ⟨k, 0, 0, 0, 0, 0⟩ with
  | (o, .none) => (o, 0, false)
  | (o, some r) => if k ≠ 8 then (o, bs.length - r.length, true) else match r with
    | [] => (o, 0, false)
    | b :: _ => ({ o with b := b }, bs.length - r.length + 1, true)

theorem or_add (x y : Nat) (i : Nat) (hy : y < 2 ^ i) (hx : x * 2 ^ i + y < 9223372036854775808) : bitsOp .or .i64 ((x * 2 ^ i : Nat) : Int) (y : Int) = ((x * 2 ^ i + y : Nat) : Int) := by
  generalize hX : x * 2 ^ i = X at hx
  have h1 : X < 2 ^ 64 := by omega
  have h2 : y < 2 ^ 64 := by omega
  have e : (BitVec.ofInt 64 (X : Int) ||| BitVec.ofInt 64 (y : Int)).toNat = X + y := by
    rw [BitVec.toNat_or, BitVec.ofInt_natCast, BitVec.ofInt_natCast, BitVec.toNat_ofNat, BitVec.toNat_ofNat, Nat.mod_eq_of_lt h1, Nat.mod_eq_of_lt h2]
    rw [← hX, ← Nat.shiftLeft_eq, ← Nat.shiftLeft_add_eq_or_of_lt hy]
  show IntKind.i64.wrap ((BitVec.ofInt 64 (X : Int) ||| BitVec.ofInt 64 (y : Int)).toNat : Int) = _
  rw [e]
  exact wrap64 (by omega) (by omega)

theorem rd3_cast (x y z : Nat) : (((x * 256 + y) * 256 + z : Nat) : Int) = rd3 x y z := by
  simp only [rd3]
  omega
theorem rd3_or {a b c : Int} (ha : 0 ≤ a ∧ a < 256) (hb : 0 ≤ b ∧ b < 256) (hc : 0 ≤ c ∧ c < 256) : bitsOp .or .i64 (bitsOp .or .i64 (a * 65536) (b * 256)) c = rd3 a b c := by
  obtain ⟨x, rfl⟩ := Int.eq_ofNat_of_zero_le ha.1
  obtain ⟨y, rfl⟩ := Int.eq_ofNat_of_zero_le hb.1
  obtain ⟨z, rfl⟩ := Int.eq_ofNat_of_zero_le hc.1
  have h1 := or_add x (y * 256) 16 (by omega) (by omega)
  have e1 : ((x * 2 ^ 16 : Nat) : Int) = (x : Int) * 65536 := by simp
  have e2 : ((y * 256 : Nat) : Int) = (y : Int) * 256 := by simp
  rw [e1, e2] at h1
  rw [h1]
  have h2 := or_add (x * 256 + y) z 8 (by omega) (by omega)
  rw [show (2 : Nat) ^ 8 = 256 from rfl] at h2
  rw [show (2 : Nat) ^ 16 = 65536 from rfl]
  rw [show x * 65536 + y * 256 = (x * 256 + y) * 256 by omega, h2]
  exact rd3_cast x y z
end Go.Ev.X
namespace Go.Ev.X
open Go.Ev Go.Ev.N

/-- The letters, as bytes. -/
def encL (fs : List UInt8) : List AV := fs.map fun b => .int .u8 b.toNat

theorem fieldsOf_mem (k : Int) : ∀ f ∈ fieldsOf k, f = 80 ∨ f = 83 ∨ f = 65 ∨ f = 78 := by
  unfold fieldsOf
  repeat' split
  all_goals simp
theorem fieldsOf_len (k : Int) : (fieldsOf k).length ≤ 2 := by
  unfold fieldsOf
  repeat' split
  all_goals simp
theorem encL_len (fs : List UInt8) : (encL fs).length = fs.length := by simp [encL]

theorem fillO_step {fs : List UInt8} {bs : List Int} {o : O} {i : Nat} (hi : i < fs.length) (h3 : 3 * i + 3 ≤ bs.length) :
    fillO (fs.drop i) (bs.drop (3 * i)) o = fillO (fs.drop (i + 1)) (bs.drop (3 * (i + 1))) (setO o fs[i] (rd3 (bs[3 * i]'(by omega)) (bs[3 * i + 1]'(by omega)) (bs[3 * i + 2]'(by omega)))) := by
  rw [List.drop_eq_getElem_cons hi, List.drop_eq_getElem_cons (show 3 * i < bs.length by omega), List.drop_eq_getElem_cons (show 3 * i + 1 < bs.length by omega), List.drop_eq_getElem_cons (show 3 * i + 1 + 1 < bs.length by omega)]
  rfl
theorem fillO_short {fs : List UInt8} {bs : List Int} {o : O} {i : Nat} (hi : i < fs.length) (h3 : ¬ 3 * i + 3 ≤ bs.length) : fillO (fs.drop i) (bs.drop (3 * i)) o = (o, .none) := by
  rw [List.drop_eq_getElem_cons hi]
  have hl : (bs.drop (3 * i)).length < 3 := by simp; omega
  match bs.drop (3 * i), hl with
  | [], _ => rfl
  | [_], _ => rfl
  | [_, _], _ => rfl
  | _ :: _ :: _ :: _, h => simp at h; omega

theorem wrap16 {b : Int} (hb : 0 ≤ b ∧ b < 256) : IntKind.i64.wrap b = b := wrap64 (by omega) (by omega)

theorem fits' {k : IntKind} {n m : Int} {Q : Int → Prop} (h : k.wrap n = n) (e : n = m) (q : Q m) : Fits k n Q := ⟨by rw [h, e]; exact q⟩

set_option maxHeartbeats 4000000 in
theorem one_told (k : Int) (bs : List Int) (hb : IsB bs) (hl : bs.length ≤ 1000000) :
    Told P T wire_one [] [.int .i64 k, .lst t_uint8 (encB bs)] (.tup [encO (one k bs).1, .int .i64 ((one k bs).2.1 : Nat), .bool (one k bs).2.2]) [] := by
  have hbl : (encB bs).length = bs.length := by simp [encB]
  have at' : ∀ i (h : i < bs.length), (encB bs)[i]? = some (.int .u8 bs[i]) := fun i h => by simp [encB, h]
  refine told_of_ev (fn := wire_one_fn) tabOk mixed (by kernel_rfl) (by kernel_rfl) (by kernel_rfl) (by kernel_rfl) ?_
  refine Choice.mk ⟨false, Choice.mk ⟨true, _, _, fields_told k, ?_⟩⟩
  refine Room.mk (Nat.le_trans (fieldsOf_len k) (by decide)) ?_
  refine LoopN.mk ⟨[0, 1, 4, 5, 13, 14, 15], fun vs L => ∃ (i : Nat) (o : O), vs = [.int .i64 k, .lst t_uint8 (encB bs), .ptr 0 0 0, .int .i64 ((3 * i : Nat) : Int), .ref 1, .int .i64 (encL (fieldsOf k)).length, .int .i64 (i : Nat)] ∧ L = [.var (encO o), .row t_uint8 (encL (fieldsOf k))] ∧
      i ≤ (fieldsOf k).length ∧ 3 * i ≤ bs.length ∧ fillO (fieldsOf k) bs ⟨k, 0, 0, 0, 0, 0⟩ = fillO ((fieldsOf k).drop i) (bs.drop (3 * i)) o,
    fun vs L => match vs with | [_, _, _, _, _, _, .int _ i] => (fieldsOf k).length - i.toNat | _ => 0, [], [0, 1], rfl, ⟨0, ⟨k, 0, 0, 0, 0, 0⟩, rfl, rfl, Nat.zero_le _, Nat.zero_le _, rfl⟩, ?_⟩
  rintro vs L ⟨i, o, rfl, rfl, hi, h3, hf⟩
  refine IfB.mk (fun h1 => ?_) (fun h1 => ?_)
  · have hlt : i < (fieldsOf k).length := by simpa [encL_len] using h1
    have hl2 := fieldsOf_len k
    obtain ⟨f, hff, hfm⟩ : ∃ f, (fieldsOf k)[i] = f ∧ (f = 80 ∨ f = 83 ∨ f = 65 ∨ f = 78) := ⟨_, rfl, fieldsOf_mem k _ (List.getElem_mem hlt)⟩
    refine InB.mk (by omega) (by rw [encL_len]; omega) ?_
    refine At.mk ⟨.int .u8 f.toNat, by simp [encL, hlt, hff], ?_⟩
    refine fits (wrap64 (by rw [hbl]; omega) (by rw [hbl]; omega)) ?_
    refine IfB.mk (fun h2 => ?_) (fun h2 => ?_)
    · refine RetN.mk ⟨[], rfl, ?_, rfl⟩
      have h4 : ¬ 3 * i + 3 ≤ bs.length := by
        have := of_decide_eq_true h2; rw [hbl] at this; omega
      have : one k bs = (o, 0, false) := by unfold one; rw [hf, fillO_short hlt h4]
      rw [this]; rfl
    · have h4 : 3 * i + 3 ≤ bs.length := by
        have := of_decide_eq_false h2; rw [hbl] at this; omega
      have b0 := hb _ (List.getElem_mem (show 3 * i < bs.length by omega))
      have b1 := hb _ (List.getElem_mem (show 3 * i + 1 < bs.length by omega))
      have b2 := hb _ (List.getElem_mem (show 3 * i + 2 < bs.length by omega))
      have step := fillO_step (o := o) hlt h4
      have hor := rd3_or b0 b1 b2
      rcases hfm with rfl | rfl | rfl | rfl
      all_goals
        refine Choice.mk ⟨true, Choice.mk ⟨false, _, _, field_told o _, ?_⟩⟩
        refine Idx.mk ⟨_, by omega, at' (3 * i) (by omega), ?_⟩
        refine fits (wrap16 b0) ?_
        refine Need.mk (by decide) ?_
        refine fits' (m := bs[3 * i] * 65536) (wrap64 (by simp [IntKind.bits]; omega) (by simp [IntKind.bits]; omega)) (by simp [IntKind.bits]) ?_
        refine fits (wrap64 (by omega) (by omega)) ?_
        refine Idx.mk ⟨_, by omega, at' (3 * i + 1) (by omega), ?_⟩
        refine fits (wrap16 b1) ?_
        refine Need.mk (by decide) ?_
        refine fits' (m := bs[3 * i + 1] * 256) (wrap64 (by simp [IntKind.bits]; omega) (by simp [IntKind.bits]; omega)) (by simp [IntKind.bits]) ?_
        refine fits (wrap64 (by omega) (by omega)) ?_
        refine Idx.mk ⟨_, by omega, at' (3 * i + 2) (by omega), ?_⟩
        refine fits (wrap16 b2) ?_
        refine Sure.mk (by kernel_rfl) ?_
        rw [hor]
        refine fits (wrap64 (by omega) (by omega)) ?_
        refine fits (wrap64 (by omega) (by omega)) ?_
        refine ⟨[], [0, 1], rfl, ⟨i + 1, setO o (fieldsOf k)[i] (rd3 bs[3 * i] bs[3 * i + 1] bs[3 * i + 2]), ?_, ?_, hlt, by omega, hf.trans step⟩, ?_⟩
        · rw [show (((3 * (i + 1) : Nat)) : Int) = ((3 * i : Nat) : Int) + 3 by omega, show (((i + 1 : Nat)) : Int) = ((i : Nat) : Int) + 1 by omega]
          rfl
        · rw [hff]; rfl
        · show (fieldsOf k).length - (((i : Nat) : Int) + 1).toNat < (fieldsOf k).length - ((i : Nat) : Int).toNat
          omega
  · have hge : i = (fieldsOf k).length := by
      have : ¬ i < (fieldsOf k).length := by simpa [encL_len] using h1
      omega
    have hfin : fillO (fieldsOf k) bs ⟨k, 0, 0, 0, 0, 0⟩ = (o, some (bs.drop (3 * i))) := by
      rw [hf, hge, List.drop_length]; rfl
    have hrest : bs.length - (bs.drop (3 * i)).length = 3 * i := by simp; omega
    refine IfB.mk (fun h5 => ?_) (fun h5 => ?_)
    · refine RetN.mk ⟨[], rfl, ?_, rfl⟩
      have hk : k ≠ 8 := by simpa using h5
      have : one k bs = (o, 3 * i, true) := by unfold one; rw [hfin]; simp only [if_pos hk, hrest]
      rw [this]; rfl
    · have hk : k = 8 := by simpa using h5
      refine IfB.mk (fun h6 => ?_) (fun h6 => ?_)
      · refine RetN.mk ⟨[], rfl, ?_, rfl⟩
        have h7 : bs.length ≤ 3 * i := by have := of_decide_eq_true h6; rw [hbl] at this; omega
        have : one k bs = (o, 0, false) := by
          unfold one; rw [hfin]
          simp only [ne_eq, hk, not_true, if_false, List.drop_eq_nil_of_le h7]
        rw [this]; rfl
      · have h7 : 3 * i < bs.length := by have := of_decide_eq_false h6; rw [hbl] at this; omega
        refine Idx.mk ⟨_, by omega, at' (3 * i) h7, ?_⟩
        refine fits (wrap64 (by omega) (by omega)) ?_
        refine RetN.mk ⟨[], rfl, ?_, rfl⟩
        have : one k bs = ({ o with b := bs[3 * i] }, 3 * i + 1, true) := by
          unfold one; rw [hfin]
          simp only [ne_eq, hk, not_true, if_false, List.drop_eq_getElem_cons h7]
          rw [← List.drop_eq_getElem_cons h7, hrest]
        rw [this]
        show AV.tup [_, .int .i64 (((3 * i : Nat) : Int) + 1), _] = AV.tup [_, .int .i64 ((3 * i + 1 : Nat) : Int), _]
        rw [show ((3 * i + 1 : Nat) : Int) = ((3 * i : Nat) : Int) + 1 by omega]
        rfl
end Go.Ev.X
namespace Go.Ev.X
open Go.Ev Go.Ev.N

def takeF : Nat → List Int → List O
  | 0, _ => []
  | _ + 1, [] => []
  | f + 1, b :: bs => if b % 11 = 0 then takeF f bs else match one (b % 11) bs with
    | (o, n, true) => o :: takeF f (bs.drop n)
    | (_, _, false) => []
def take (bs : List Int) : List O := takeF bs.length bs

theorem takeF_more : ∀ (f : Nat) (bs : List Int), bs.length ≤ f → takeF f bs = take bs := by
  intro f
  induction f using Nat.strongRecOn with
  | _ f ih =>
    intro bs hf
    cases bs with
    | nil => cases f <;> rfl
    | cons b bs =>
      cases f with
      | zero => simp at hf
      | succ f =>
        simp only [List.length_cons] at hf
        have e : ∀ m, m ≤ bs.length → takeF f (bs.drop m) = takeF bs.length (bs.drop m) := fun m hm => by
          rw [ih f (by omega) _ (by simp; omega)]
          rcases Nat.lt_or_ge bs.length (f + 1) with h | h
          · exact (ih bs.length (by omega) _ (by simp)).symm
          · omega
        have e0 := e 0 (Nat.zero_le _)
        simp only [List.drop_zero] at e0
        unfold take
        simp only [List.length_cons, takeF]
        rw [e0]
        split
        · rfl
        · split
          · rename_i o n _
            rcases Nat.lt_or_ge bs.length n with h | h
            · rw [List.drop_eq_nil_of_le (by omega)]; cases f <;> cases bs.length <;> rfl
            · rw [e n h]
          · rfl

theorem take_nil : take [] = [] := rfl
theorem take_cons (b : Int) (bs : List Int) : take (b :: bs) = if b % 11 = 0 then take bs else match one (b % 11) bs with
    | (o, n, true) => o :: take (bs.drop n)
    | (_, _, false) => [] := by
  show takeF (bs.length + 1) (b :: bs) = _
  simp only [takeF]
  split
  · rfl
  · split
    · rename_i o n _
      rw [takeF_more _ _ (by simp)]
    · rfl
end Go.Ev.X
namespace Go.Ev.X
open Go.Ev Go.Ev.N

theorem IsB.tail {b : Int} {bs : List Int} (h : IsB (b :: bs)) : IsB bs := fun x hx => h x (by simp [hx])
theorem IsB.drop {bs : List Int} (h : IsB bs) (n : Nat) : IsB (bs.drop n) := fun x hx => h x (List.mem_of_mem_drop hx)
theorem encB_drop (bs : List Int) (n : Nat) : (encB bs).drop n = encB (bs.drop n) := by simp [encB, List.map_drop]

theorem fillO_len : ∀ (fs : List UInt8) (bs : List Int) (o o' : O) (r : List Int), fillO fs bs o = (o', some r) → r.length ≤ bs.length
  | [], bs, o, o', r, h => by simp [fillO] at h; rw [h.2]; exact Nat.le_refl _
  | f :: fs, [], o, o', r, h => by simp [fillO] at h
  | f :: fs, [_], o, o', r, h => by simp [fillO] at h
  | f :: fs, [_, _], o, o', r, h => by simp [fillO] at h
  | f :: fs, _ :: _ :: _ :: bs, o, o', r, h => by
    have := fillO_len fs bs _ o' r h
    simp only [List.length_cons]; omega
theorem one_len (k : Int) (bs : List Int) : (one k bs).2.1 ≤ bs.length := by
  unfold one
  split
  · exact Nat.zero_le _
  · rename_i o r h
    have := fillO_len _ _ _ _ _ h
    split
    · exact Nat.sub_le _ _
    · split
      · exact Nat.zero_le _
      · simp only [List.length_cons] at this ⊢; omega

set_option maxHeartbeats 4000000 in
theorem take_told (bs : List Int) (hb : IsB bs) (hl : bs.length ≤ 1000000) : Told P T wire_Take [] [.lst t_uint8 (encB bs)] (.ref 0) [.row t_api_Op ((take bs).map encO)] := by
  refine told_of_ev (fn := wire_Take_fn) tabOk mixed (by kernel_rfl) (by kernel_rfl) (by kernel_rfl) (by kernel_rfl) ?_
  refine LoopN.mk ⟨[0, 2], fun vs L => ∃ (r : List Int) (acc : List O), vs = [.lst t_uint8 (encB r), .ref 0] ∧ L = [.row t_api_Op (acc.map encO)] ∧ IsB r ∧ r.length ≤ 1000000 ∧ acc.length + r.length ≤ bs.length ∧ take bs = acc ++ take r,
    fun vs L => match vs with | [.lst _ es, _] => es.length | _ => 0, [], [0], rfl, ⟨bs, [], rfl, rfl, hb, hl, by simp, rfl⟩, ?_⟩
  rintro vs L ⟨r, acc, rfl, rfl, hr, hrl, hacc, ht⟩
  refine IfB.mk (fun h1 => ?_) (fun h1 => ?_)
  · cases r with
    | nil => simp [encB] at h1
    | cons b r =>
      have hb0 := hr b (by simp)
      refine Idx.mk ⟨.int .u8 b, by omega, rfl, ?_⟩
      refine fits (wrap16 hb0) ?_
      refine Need.mk (by decide) ?_
      refine Cut.mk (by decide) (by simp [encB]; omega) (Int.le_refl _) ?_
      have hrem : b.tmod 11 = b % 11 := Int.tmod_eq_emod_of_nonneg hb0.1
      refine IfB.mk (fun h2 => ?_) (fun h2 => ?_)
      · have h0 : b % 11 = 0 := by rw [← hrem]; simpa using h2
        refine ⟨[], [0], rfl, ⟨r, acc, rfl, rfl, hr.tail, by simp at hrl; omega, by simp at hacc; omega, by rw [ht, take_cons, if_pos h0]⟩, ?_⟩
        show (encB r).length < (encB (b :: r)).length
        simp [encB]
      · have h0 : ¬ b % 11 = 0 := by rw [← hrem]; simpa using h2
        refine Choice.mk ⟨false, Choice.mk ⟨true, _, _, one_told (b.tmod 11) r hr.tail (by simp at hrl; omega), ?_⟩⟩
        have hlen := one_len (b.tmod 11) r
        have htake : take (b :: r) = match one (b.tmod 11) r with
            | (o, n, true) => o :: take (r.drop n)
            | (_, _, false) => [] := by
          rw [take_cons, if_neg h0, hrem] <;> (rcases one (b % 11) r with ⟨o, n, ok⟩; cases ok <;> rfl)
        revert hlen htake
        generalize one (b.tmod 11) r = q
        obtain ⟨o, n, ok⟩ := q
        intro hlen htake
        refine IfB.mk (fun h3 => ?_) (fun h3 => ?_)
        · have : ok = false := by simpa using h3
          subst this
          refine RetN.mk ⟨[0], rfl, rfl, ?_⟩
          show [Blk.row t_api_Op (acc.map encO)] = _
          rw [ht, htake]; simp
        · have : ok = true := by simpa using h3
          subst this
          simp only at hlen htake
          refine Room.mk (by simp; simp at hacc; omega) ?_
          refine Cut.mk (by omega) (by simp [encB]; omega) (Int.le_refl _) ?_
          refine Sure.mk (by kernel_rfl) ?_
          refine ⟨[], [3], rfl, ⟨r.drop n, acc ++ [o], ?_, ?_, hr.tail.drop n, by simp at hrl ⊢; omega, by simp at hacc ⊢; omega, by rw [ht, htake]; simp⟩, ?_⟩
          · rw [← encB_drop]; rfl
          · rw [show (acc ++ [o]).map encO = acc.map encO ++ [encO o] by simp]; rfl
          · show ((encB r).drop n).length < (encB (b :: r)).length
            simp [encB]; omega
  · have hr0 : r = [] := by
      cases r with
      | nil => rfl
      | cons b r => simp [encB] at h1
    subst hr0
    refine RetN.mk ⟨[0], rfl, rfl, ?_⟩
    show [Blk.row t_api_Op (acc.map encO)] = _
    rw [ht, take_nil, List.append_nil]
end Go.Ev.X
namespace Go.Ev.X
open Go.Ev Go.Ev.N

def getO (o : O) (b : UInt8) : Int := if b = 80 then o.p else if b = 83 then o.s else if b = 65 then o.a else o.n
def w8 (v : Int) : Int := IntKind.u8.wrap v
def three (v : Int) : List Int := [w8 (v.fdiv (2 ^ min (Int.toNat 16) IntKind.i64.bits)), w8 (v.fdiv (2 ^ min (Int.toNat 8) IntKind.i64.bits)), w8 v]
def putO (o : O) : List Int := w8 o.k :: ((fieldsOf o.k).flatMap fun f => three (getO o f)) ++ (if o.k = 8 then [o.b] else [])

theorem encB_app (a b : List Int) : encB (a ++ b) = encB a ++ encB b := by simp [encB]

set_option maxHeartbeats 8000000 in
theorem put_told (o : O) : Told P T wire_put [] [encO o] (.ref 0) [.row t_uint8 (encB (putO o))] := by
  refine told_of_ev (fn := wire_put_fn) tabOk mixed (by kernel_rfl) (by kernel_rfl) (by kernel_rfl) (by kernel_rfl) ?_
  refine Fits.mk ?_
  refine Choice.mk ⟨false, Choice.mk ⟨true, _, _, fields_told o.k, ?_⟩⟩
  refine Room.mk (Nat.le_trans (fieldsOf_len o.k) (by decide)) ?_
  refine LoopN.mk ⟨[1, 3, 14, 15, 16], fun vs L => ∃ (i : Nat) (bs : List Int), vs = [.ptr 0 0 0, .ref 1, .ref 2, .int .i64 (encL (fieldsOf o.k)).length, .int .i64 (i : Nat)] ∧ L = [.var (encO o), .row t_uint8 (encB bs), .row t_uint8 (encL (fieldsOf o.k))] ∧
      i ≤ (fieldsOf o.k).length ∧ bs = w8 o.k :: ((fieldsOf o.k).take i).flatMap fun f => three (getO o f),
    fun vs L => match vs with | [_, _, _, _, .int _ i] => (fieldsOf o.k).length - i.toNat | _ => 0, [], [0, 2, 3], rfl, ⟨0, [w8 o.k], rfl, rfl, Nat.zero_le _, rfl⟩, ?_⟩
  rintro vs L ⟨i, bs, rfl, rfl, hi, hbs⟩
  have hl2 := fieldsOf_len o.k
  have hbl : bs.length ≤ 100 := by
    rw [hbs]
    have : ((fieldsOf o.k).take i).length ≤ 2 := by simp; omega
    match (fieldsOf o.k).take i, this with
    | [], _ => simp
    | [_], _ => simp [three]
    | [_, _], _ => simp [three]
  refine IfB.mk (fun h1 => ?_) (fun h1 => ?_)
  · have hlt : i < (fieldsOf o.k).length := by simpa [encL_len] using h1
    obtain ⟨f, hff, hfm⟩ : ∃ f, (fieldsOf o.k)[i] = f ∧ (f = 80 ∨ f = 83 ∨ f = 65 ∨ f = 78) := ⟨_, rfl, fieldsOf_mem o.k _ (List.getElem_mem hlt)⟩
    refine InB.mk (by omega) (by rw [encL_len]; omega) ?_
    refine At.mk ⟨.int .u8 f.toNat, by simp [encL, hlt, hff], ?_⟩
    rcases hfm with rfl | rfl | rfl | rfl
    all_goals
      refine Choice.mk ⟨true, Choice.mk ⟨false, _, _, field_told o _, ?_⟩⟩
      refine Need.mk (by decide) ?_
      refine Fits.mk ?_
      refine Need.mk (by decide) ?_
      refine Fits.mk ?_
      refine Fits.mk ?_
      refine Room.mk (by simp [encB]; omega) ?_
      refine fits (wrap64 (by omega) (by omega)) ?_
      refine ⟨[], [0, 4, 2], rfl, ⟨i + 1, bs ++ three (getO o (fieldsOf o.k)[i]), ?_, ?_, hlt, ?_⟩, ?_⟩
      · rw [show (((i + 1 : Nat)) : Int) = ((i : Nat) : Int) + 1 by omega]
        rfl
      · rw [encB_app, hff]; rfl
      · rw [hbs, List.take_succ_eq_append_getElem hlt, List.flatMap_append, List.flatMap_cons, List.flatMap_nil, List.append_nil, List.cons_append]
      · show (fieldsOf o.k).length - (((i : Nat) : Int) + 1).toNat < (fieldsOf o.k).length - ((i : Nat) : Int).toNat
        omega
  · have hge : i = (fieldsOf o.k).length := by
      have : ¬ i < (fieldsOf o.k).length := by simpa [encL_len] using h1
      omega
    rw [hge, List.take_length] at hbs
    refine IfB.mk (fun h2 => ?_) (fun h2 => ?_)
    · refine Room.mk (by simp [encB]; omega) ?_
      refine RetN.mk ⟨[4], rfl, rfl, ?_⟩
      have hk : o.k = 8 := by simpa using h2
      have : putO o = bs ++ [o.b] := by unfold putO; rw [if_pos hk, hbs]
      rw [this, encB_app]; rfl
    · refine RetN.mk ⟨[1], rfl, rfl, ?_⟩
      have hk : ¬ o.k = 8 := by simpa using h2
      have : putO o = bs := by unfold putO; rw [if_neg hk, hbs, List.append_nil]
      rw [this]; rfl
end Go.Ev.X
namespace Go.Ev.X
open Go.Ev Go.Ev.N

def IsO (o : O) : Prop := 0 ≤ o.b ∧ o.b < 256
def putAll (l : List O) : List Int := l.flatMap fun o => if take (putO o) = [o] then putO o else []

theorem w8_range (v : Int) : 0 ≤ w8 v ∧ w8 v < 256 := by
  unfold w8
  rw [IntKind.wrap_u8]
  omega
theorem isB_three (v : Int) : IsB (three v) := by
  intro b hb
  simp only [three, List.mem_cons, List.not_mem_nil, or_false] at hb
  rcases hb with rfl | rfl | rfl <;> exact w8_range _
theorem isB_put {o : O} (h : IsO o) : IsB (putO o) := by
  intro b hb
  unfold putO at hb
  simp only [List.cons_append, List.mem_cons, List.mem_append, List.mem_flatMap] at hb
  rcases hb with rfl | ⟨f, _, hb⟩ | hb
  · exact w8_range _
  · exact isB_three _ b hb
  · split at hb
    · simp at hb; subst hb; exact h
    · simp at hb
theorem put_len (o : O) : (putO o).length ≤ 8 := by
  unfold putO
  have := fieldsOf_len o.k
  have h2 : ((fieldsOf o.k).flatMap fun f => three (getO o f)).length ≤ 6 := by
    match fieldsOf o.k, this with
    | [], _ => simp
    | [_], _ => simp [three]
    | [_, _], _ => simp [three]
  have h3 : (if o.k = 8 then [o.b] else []).length ≤ 1 := by split <;> simp
  rw [List.length_append, List.length_cons]
  omega
theorem encO_inj {x y : O} (h : (((x.k == y.k) && ((x.p == y.p) && ((x.s == y.s) && ((x.a == y.a) && ((x.n == y.n) && ((x.b == y.b) && true))))))) = true) : x = y := by
  cases x; cases y; simp at h ⊢; exact h

set_option maxHeartbeats 8000000 in
theorem putAll_told (l : List O) (hO : ∀ o ∈ l, IsO o) (hl : l.length ≤ 1000000) : Told P T wire_Put [] [.lst t_api_Op (l.map encO)] (.ref 0) [.row t_uint8 (encB (putAll l))] := by
  have hll : (l.map encO).length = l.length := by simp
  refine told_of_ev (fn := wire_Put_fn) tabOk mixed (by kernel_rfl) (by kernel_rfl) (by kernel_rfl) (by kernel_rfl) ?_
  refine LoopN.mk ⟨[2, 7, 8, 9], fun vs L => ∃ i : Nat, vs = [.ref 0, .lst t_api_Op (l.map encO), .int .i64 (l.map encO).length, .int .i64 (i : Nat)] ∧ L = [.row t_uint8 (encB (putAll (l.take i)))] ∧ i ≤ l.length ∧ (putAll (l.take i)).length ≤ 8 * i,
    fun vs L => match vs with | [_, _, _, .int _ i] => l.length - i.toNat | _ => 0, [], [0], rfl, ⟨0, rfl, rfl, Nat.zero_le _, Nat.zero_le _⟩, ?_⟩
  rintro vs L ⟨i, rfl, rfl, hi, hlen⟩
  refine IfB.mk (fun h1 => ?_) (fun h1 => ?_)
  · have hlt : i < l.length := by simpa using h1
    have ho : IsO l[i] := hO _ (List.getElem_mem hlt)
    have hsucc : putAll (l.take (i + 1)) = putAll (l.take i) ++ (if take (putO l[i]) = [l[i]] then putO l[i] else []) := by
      unfold putAll
      rw [List.take_succ_eq_append_getElem hlt, List.flatMap_append, List.flatMap_cons, List.flatMap_nil, List.append_nil]
    have hpl := put_len l[i]
    refine Idx.mk ⟨encO l[i], by omega, by simp [hlt], ?_⟩
    refine Choice.mk ⟨false, Choice.mk ⟨false, _, _, put_told l[i], ?_⟩⟩
    refine Choice.mk ⟨false, Choice.mk ⟨false, _, _, take_told (putO l[i]) (isB_put ho) (by omega), ?_⟩⟩
    refine IfB.mk (fun h2 => ?_) (fun h2 => ?_)
    · have h3 : (take (putO l[i])).length = 1 := by simp at h2; omega
      obtain ⟨x, hx⟩ : ∃ x, take (putO l[i]) = [x] := by
        match take (putO l[i]), h3 with
        | [x], _ => exact ⟨x, rfl⟩
      rw [hx] at hsucc
      rw [hx]
      refine IfB.tt rfl ?_
      refine InB.mk (Int.le_refl _) (by show (0 : Int) < 1; decide) ?_
      refine IfB.tt rfl ?_
      refine At.mk ⟨encO x, rfl, ?_⟩
      refine IfB.tt rfl ?_
      refine IfB.tt rfl ?_
      refine Sure.mk (by kernel_rfl) ?_
      refine IfB.mk (fun h4 => ?_) (fun h4 => ?_)
      · have hxe : x = l[i] := encO_inj (by simpa using h4)
        rw [if_pos (by rw [hxe])] at hsucc
        refine Room.mk (by simp [encB]; omega) ?_
        refine fits (wrap64 (by omega) (by omega)) ?_
        refine ⟨[], [4], rfl, ⟨i + 1, ?_, ?_, hlt, by rw [hsucc, List.length_append]; omega⟩, ?_⟩
        · rw [show (((i + 1 : Nat)) : Int) = ((i : Nat) : Int) + 1 by omega]; rfl
        · rw [hsucc, encB_app]; rfl
        · show l.length - (((i : Nat) : Int) + 1).toNat < l.length - ((i : Nat) : Int).toNat
          omega
      · have hxe : ¬ [x] = [l[i]] := by
          intro e; simp at e; subst e; simp at h4
        rw [if_neg hxe, List.append_nil] at hsucc
        refine fits (wrap64 (by omega) (by omega)) ?_
        refine ⟨[], [0], rfl, ⟨i + 1, ?_, ?_, hlt, by rw [hsucc]; omega⟩, ?_⟩
        · rw [show (((i + 1 : Nat)) : Int) = ((i : Nat) : Int) + 1 by omega]; rfl
        · rw [hsucc]; rfl
        · show l.length - (((i : Nat) : Int) + 1).toNat < l.length - ((i : Nat) : Int).toNat
          omega
    · have h3 : ¬ take (putO l[i]) = [l[i]] := by
        intro e; rw [e] at h2; simp at h2
      rw [if_neg h3, List.append_nil] at hsucc
      rw [h2]
      refine IfB.ff rfl ?_
      refine IfB.ff rfl ?_
      refine IfB.ff rfl ?_
      refine IfB.ff rfl ?_
      refine Sure.mk (by kernel_rfl) ?_
      refine IfB.ff rfl ?_
      refine fits (wrap64 (by omega) (by omega)) ?_
      refine ⟨[], [0], rfl, ⟨i + 1, ?_, ?_, hlt, by rw [hsucc]; omega⟩, ?_⟩
      · rw [show (((i + 1 : Nat)) : Int) = ((i : Nat) : Int) + 1 by omega]; rfl
      · rw [hsucc]; rfl
      · show l.length - (((i : Nat) : Int) + 1).toNat < l.length - ((i : Nat) : Int).toNat
        omega
  · have hge : i = l.length := by
      have : ¬ i < l.length := by simpa using h1
      omega
    subst hge
    refine RetN.mk ⟨[0], rfl, rfl, ?_⟩
    show [Blk.row t_uint8 (encB (putAll (l.take l.length)))] = _
    rw [List.take_length]
end Go.Ev.X
