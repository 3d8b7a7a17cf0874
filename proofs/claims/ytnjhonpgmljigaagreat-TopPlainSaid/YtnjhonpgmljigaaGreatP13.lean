/- Words and lemmas, part 13, for laws of this seat (a part of their proofs). -/
import Derived.Test.YtnjhonpgmljigaaGreatP2
import Derived.Test.YtnjhonpgmljigaaGreatP7
import Derived.Test.YtnjhonpgmljigaaGreatP9
import Derived.Test.YtnjhonpgmljigaaGreatP10
import Derived.Test.YtnjhonpgmljigaaGreatP11
import Derived.Test.YtnjhonpgmljigaaGreatP12
import Derived.Test.YtnjhonpgmljigaaGreatNm
import Derived.Test.YtnjhonpgmljigaaGreatEvOpen
import Derived.Test.YtnjhonpgmljigaaGreatEvLib
import Derived.Test.YtnjhonpgmljigaaGreatEvGrid
import Derived.Test.YtnjhonpgmljigaaGreatEvTrim
set_option linter.unusedVariables false
set_option linter.unusedSimpArgs false
namespace Go.Ev.W
open Go.Ev Go.Ev.N

open Classical in
noncomputable def opO (m : Mo) (p : Pk) : X.O := if h : MoOk m ∧ p.Ok then (op_told h.1.c h.1.a p h.2).choose else ⟨0, 0, 0, 0, 0, 0⟩
open Classical in
noncomputable def opP (m : Mo) (p : Pk) : Pk := if h : MoOk m ∧ p.Ok then (op_told h.1.c h.1.a p h.2).choose_spec.choose else p
theorem opO_spec {m : Mo} (hm : MoOk m) {p : Pk} (ok : p.Ok) : Told P T mk_Picks_Op [pkB p] [.ptr 0 0 0, eC m.c, lK m.bs] (X.encO (opO m p)) [pkB (opP m p)] ∧ (opP m p).Ok ∧ OpG m.c (opO m p) := by
  unfold opO opP
  rw [dif_pos ⟨hm, ok⟩, dif_pos ⟨hm, ok⟩]
  exact (op_told hm.c hm.a p ok).choose_spec.choose_spec
noncomputable def opsF : Nat → Mo → Pk → List X.O × Pk
  | 0, _, p => ([], p)
  | n + 1, m, p => if p.over = true then ([], p) else (opO m p :: (opsF n (doF m (opO m p)).1 (opP m p)).1, (opsF n (doF m (opO m p)).1 (opP m p)).2)
noncomputable def opsA (r : Rw) (n : Nat) (p : Pk) : List X.O × Pk := if (newM r).2 ≠ 0 then ([], p) else opsF n (newM r).1 p
theorem opsF_ok : ∀ (n : Nat) {m : Mo} {p : Pk}, MoOk m → p.Ok → (opsF n m p).2.Ok ∧ (opsF n m p).1.length ≤ n ∧ ∀ o ∈ (opsF n m p).1, OpG m.c o
  | 0, m, p, hm, ok => ⟨ok, by simp [opsF], by simp [opsF]⟩
  | n + 1, m, p, hm, ok => by
    unfold opsF
    split
    · exact ⟨ok, by simp, by simp⟩
    · obtain ⟨_, h2, h3⟩ := opO_spec hm ok
      have hd := doF_ok hm (h3.ok hm.c)
      obtain ⟨a, b, c⟩ := opsF_ok n hd.1 h2
      rw [hd.2] at c
      refine ⟨a, by simp; exact b, fun o ho => ?_⟩
      rcases List.mem_cons.1 ho with rfl | ho
      · exact h3
      · exact c o ho
theorem opsA_ok {r : Rw} (n : Nat) {p : Pk} (ok : p.Ok) : (opsA r n p).2.Ok ∧ (opsA r n p).1.length ≤ n ∧ ∀ o ∈ (opsA r n p).1, ∃ c : Cf, c.Ok ∧ OpG c o := by
  unfold opsA
  split
  · exact ⟨ok, by simp, by simp⟩
  · rename_i h
    have hm := newM_ok (Decidable.of_not_not h)
    obtain ⟨a, b, c⟩ := opsF_ok n hm ok
    exact ⟨a, b, fun o ho => ⟨_, hm.c, c o ho⟩⟩
end Go.Ev.W
namespace Go.Ev.W
open Go.Ev Go.Ev.N

theorem MoOk.bd {m : Mo} (hm : MoOk m) : m.bs.length ≤ 1000000 ∧ m.on.length ≤ 1000000 ∧ m.mem.length ≤ 1000000 ∧ IsB m.mem := by
  have hH := hm.c.h2
  have := hm.a.len; have := hm.o; have := Nat.div_le_self m.c.H m.c.Pg; have := hm.mm
  exact ⟨by omega, by omega, by omega, hm.b⟩
end Go.Ev.W
namespace Go.Ev.W
open Go.Ev Go.Ev.N

theorem allF_ok : ∀ {os : List X.O} {m : Mo}, MoOk m → (∀ o ∈ os, OpOk o) → MoOk (allF m os).1 ∧ (allF m os).1.c = m.c ∧ (allF m os).2.length = os.length
  | [], m, hm, _ => ⟨hm, rfl, rfl⟩
  | o :: os, m, hm, h => by
    have hd := doF_ok hm (h o (by simp))
    have ih := allF_ok (os := os) hd.1 fun x hx => h x (by simp [hx])
    refine ⟨ih.1, ih.2.1.trans hd.2, ?_⟩
    show ((doF m o).2 :: (allF (doF m o).1 os).2).length = _
    rw [List.length_cons, ih.2.2]; rfl
theorem allF_snoc : ∀ (os : List X.O) (m : Mo) (o : X.O), allF m (os ++ [o]) = ((doF (allF m os).1 o).1, (allF m os).2 ++ [(doF (allF m os).1 o).2])
  | [], m, o => rfl
  | x :: os, m, o => by
    show ((allF (doF m x).1 (os ++ [o])).1, (doF m x).2 :: (allF (doF m x).1 (os ++ [o])).2) = _
    rw [allF_snoc os]; rfl
theorem opsA_op {r : Rw} {n : Nat} {p : Pk} (ok : p.Ok) : ∀ o ∈ (opsA r n p).1, OpOk o := fun o ho => by
  obtain ⟨c, hc, hg⟩ := (opsA_ok n ok).2.2 o ho
  exact hg.ok hc
end Go.Ev.W
namespace Go.Ev.W
open Go.Ev Go.Ev.N

/-- A run, so far. -/
theorem allF_at {m : Mo} {os : List X.O} (hm : MoOk m) (ho : ∀ o ∈ os, OpOk o) {k : Nat} (hk : k < os.length) :
    MoOk (allF m (os.take k)).1 ∧ (allF m (os.take k)).2.length = k ∧ (allF m (os.take (k + 1))).1 = (doF (allF m (os.take k)).1 os[k]).1 ∧ (allF m (os.take (k + 1))).2 = (allF m (os.take k)).2 ++ [(doF (allF m (os.take k)).1 os[k]).2] := by
  have h := allF_ok (os := os.take k) hm fun o h => ho o (List.mem_of_mem_take h)
  have hs := allF_snoc (os.take k) m os[k]
  rw [← List.take_succ_eq_append_getElem hk] at hs
  exact ⟨h.1, by rw [h.2.2, List.length_take]; omega, by rw [hs], by rw [hs]⟩
end Go.Ev.W
namespace Go.Ev.W
open Go.Ev Go.Ev.N

theorem shpOp {n : Nat} {x : AV} (h : Shp T (n + 2) t_api_Op x) : ∃ o : X.O, x = X.encO o ∧ OpOk o := by
  unfold Shp at h
  obtain ⟨ys, rfl, hy, hn⟩ := (show ∃ ys : List AV, x = .agg (ys.flatMap cells) ∧ ys.length = 6 ∧ ∀ (i : Nat) (p : Nat × Nat) (y : AV), [((0 : Nat), t_int), (1, t_int), (2, t_int), (3, t_int), (4, t_int), (5, t_uint8)][i]? = some p → ys[i]? = some y → Shp T (n + 1) p.2 y from h)
  match ys, hy, hn with
  | [y0, y1, y2, y3, y4, y5], _, hn =>
    obtain ⟨a0, rfl, b0⟩ := shp_i64 (by kernel_rfl) (hn 0 _ y0 rfl rfl)
    obtain ⟨a1, rfl, b1⟩ := shp_i64 (by kernel_rfl) (hn 1 _ y1 rfl rfl)
    obtain ⟨a2, rfl, b2⟩ := shp_i64 (by kernel_rfl) (hn 2 _ y2 rfl rfl)
    obtain ⟨a3, rfl, b3⟩ := shp_i64 (by kernel_rfl) (hn 3 _ y3 rfl rfl)
    obtain ⟨a4, rfl, b4⟩ := shp_i64 (by kernel_rfl) (hn 4 _ y4 rfl rfl)
    obtain ⟨b, rfl, hb⟩ := shp_u8 (by kernel_rfl) (hn 5 _ y5 rfl rfl)
    exact ⟨⟨a0, a1, a2, a3, a4, (b : Int)⟩, rfl, ⟨b0, b1, b2, b3, b4, by simp, by show (b : Int) < 256; omega⟩⟩
end Go.Ev.W
namespace Go.Ev.W
open Go.Ev Go.Ev.N

/-- What many calls are told. -/
def runF (r : Rw) (os : List X.O) : List An × Nat :=
  if (newM r).2 ≠ 0 then ([], (newM r).2) else if os.length > 5000 then ([], 2) else ((allF (newM r).1 os).2, 0)
def lA (l : List An) : AV := .lst t_api_Ans (l.map eA)
theorem moH1 {m : Mo} (hm : MoOk m) : 1 ≤ m.c.H := hm.c.H1
set_option maxRecDepth 20000 in
set_option maxHeartbeats 4000000 in
theorem runHeap_told (r : Rw) {os : List X.O} (ho : ∀ o ∈ os, OpOk o) : Told P T run_Heap [] [eR r, .lst t_api_Op (os.map X.encO)] (.tup [lA (runF r os).1, i64 ((runF r os).2 : Nat)]) [] := by
  have hom : (os.map X.encO).length = os.length := by simp
  have n1 := hpNewI (r := r)
  have n1e := hpNewE (r := r)
  have hok := newM_ok (r := r)
  unfold runF lA
  generalize newM r = M at *
  obtain ⟨m0, e⟩ := M
  by_cases he : e = 0
  case neg =>
    simp only [ne_eq, he, not_false_eq_true, if_true]
    refine told_of_ev (fn := run_Heap_fn) tabOk mixed (by kernel_rfl) (by kernel_rfl) (by kernel_rfl) (by kernel_rfl) ?_
    (refine gw ?_; refine Choice.mk ⟨false, Choice.mk ⟨false, _, _, n1e he, ?_⟩⟩)
    (refine gw ?_; refine IfB.tt (by simpa using he) ?_)
    (refine gw ?_; exact RetN.fz ⟨[true], [], rfl, rfl, rfl⟩)
  subst he
  have hm0 : MoOk m0 := hok rfl
  obtain ⟨s0, hr0, n1⟩ := n1 rfl
  simp only [ne_eq, not_true_eq_false, if_false]
  by_cases hl : os.length > 5000
  · rw [if_pos hl]
    refine told_of_ev (fn := run_Heap_fn) tabOk mixed (by kernel_rfl) (by kernel_rfl) (by kernel_rfl) (by kernel_rfl) ?_
    (refine gw ?_; refine Choice.mk ⟨false, Choice.mk ⟨false, _, _, n1, ?_⟩⟩)
    (refine gw ?_; refine IfB.tt (by rw [hom]; simp; omega) ?_)
    (refine gw ?_; exact RetN.fz ⟨[true], [], rfl, rfl, rfl⟩)
  rw [if_neg hl]
  refine told_of_ev (fn := run_Heap_fn) tabOk mixed (by kernel_rfl) (by kernel_rfl) (by kernel_rfl) (by kernel_rfl) ?_
  (refine gw ?_; refine Choice.mk ⟨false, Choice.mk ⟨false, _, _, n1, ?_⟩⟩)
  (refine gw ?_; refine IfB.ff (by rw [hom]; simp; omega) ?_)
  (refine gw ?_; refine LoopN.mk ⟨[4,6,22,23,24], fun vs L => ∃ (k : Nat) (s : Hs), vs = [.ref 4, .ptr 0 0 0, .lst t_api_Op (os.map X.encO), i64 (os.map X.encO).length, i64 k] ∧ L = hI (allF m0 (os.take k)).1 s ++ [.row t_api_Ans ((allF m0 (os.take k)).2.map eA)] ∧ k ≤ os.length ∧ Hr (allF m0 (os.take k)).1 s, fun vs L => match vs with | [_, _, _, _, .int _ i] => os.length - i.toNat | _ => 0, [], [2,3,4,5,1], rfl, ⟨0, s0, rfl, rfl, by omega, hr0⟩, ?_⟩)
  rintro vs L ⟨k, s, rfl, rfl, hk, hr⟩
  by_cases hko : k < os.length
  · obtain ⟨g1, g2, g3, g4⟩ := allF_at hm0 ho hko
    obtain ⟨s', hr', d1⟩ := hpDoI hr g1 (ho _ (List.getElem_mem hko))
    rw [← g3] at hr' d1
    have hma : (allF m0 (os.take (k + 1))).2.map eA = (allF m0 (os.take k)).2.map eA ++ [eA (doF (allF m0 (os.take k)).1 os[k]).2] := by rw [g4]; simp
    have hlk : ((allF m0 (os.take k)).2.map eA).length = k := by rw [List.length_map]; exact g2
    generalize (doF (allF m0 (os.take k)).1 os[k]).2 = an at *
    (refine gw ?_; refine IfB.tt (by rw [hom]; simp; omega) ?_)
    (refine gw ?_; refine idx_map (hko) ?_)
    (refine gw ?_; refine Choice.mk ⟨false, Choice.mk ⟨false, _, _, d1, ?_⟩⟩)
    (refine gw ?_; refine Room.mk (by first | omega | (simp; omega) | (simp <;> fail)) ?_)
    (refine gw ?_; refine ⟨[], [0,1,2,3,7], rfl, ⟨k + 1, s', rfl, by rw [hma]; rfl, hko, hr'⟩, (by omega : os.length - ((k : Int) + 1).toNat < os.length - (k : Int).toNat)⟩)
  obtain rfl : k = os.length := by omega
  rw [List.take_length]
  (refine gw ?_)
  (refine gw ?_; exact RetN.fz ⟨[true], [], rfl, rfl, rfl⟩)
end Go.Ev.W
namespace Go.Ev.X
open Go.Ev Go.Ev.N
open Go.Ev.W (i64)

/-- What bytes say. -/
def decF (bs : List Int) : W.Rw × List O × Bool := if bs.length < 16 then (⟨0, 0, 0, 0, 0, 0⟩, [], false) else (rawB bs, take (bs.drop 16), true)
theorem dec_told {bs : List Int} (hb : IsB bs) (hl : bs.length ≤ 1000000) : Told P T play_Decode [] [.lst t_uint8 (encB bs)] (.tup [W.eR (decF bs).1, .lst t_api_Op ((decF bs).2.1.map encO), .bool (decF bs).2.2]) [] := by
  unfold decF
  by_cases h : bs.length < 16
  · rw [if_pos h]; exact decode_short h
  · rw [if_neg h]; exact decode_told hb hl (by omega)
/-- What is taken of bytes may be. -/
structure Sm (o : O) : Prop where
  k : 0 ≤ o.k ∧ o.k ≤ 10
  p : 0 ≤ o.p ∧ o.p < 16777216
  s : 0 ≤ o.s ∧ o.s < 16777216
  a : 0 ≤ o.a ∧ o.a < 16777216
  n : 0 ≤ o.n ∧ o.n < 16777216
  b : 0 ≤ o.b ∧ o.b < 256
theorem Sm.ok {o : O} (h : Sm o) : W.OpOk o := ⟨by have := h.k; omega, by have := h.p; omega, by have := h.s; omega, by have := h.a; omega, by have := h.n; omega, h.b⟩
theorem setO_sm {o : O} (h : Sm o) (f : UInt8) {v : Int} (hv : 0 ≤ v ∧ v < 16777216) : Sm (setO o f v) := by
  obtain ⟨a, b, c, d, e, g⟩ := h
  unfold setO
  split
  · exact ⟨a, hv, c, d, e, g⟩
  · split
    · exact ⟨a, b, hv, d, e, g⟩
    · split
      · exact ⟨a, b, c, hv, e, g⟩
      · exact ⟨a, b, c, d, hv, g⟩
theorem fillO_sm : ∀ (fs : List UInt8) (bs : List Int) (o : O), IsB bs → Sm o → Sm (fillO fs bs o).1 ∧ ∀ r, (fillO fs bs o).2 = some r → IsB r
  | [], bs, o, hb, h => ⟨h, fun r hr => by simp [fillO] at hr; rw [← hr]; exact hb⟩
  | f :: fs, b0 :: b1 :: b2 :: bs, o, hb, h => by
    have h0 := hb b0 (by simp)
    have h1 := hb b1 (by simp)
    have h2 := hb b2 (by simp)
    exact fillO_sm fs bs _ (fun x hx => hb x (by simp [hx])) (setO_sm h f ⟨by unfold rd3; omega, by unfold rd3; omega⟩)
  | f :: fs, [], o, hb, h => ⟨h, fun r hr => by simp [fillO] at hr⟩
  | f :: fs, [_], o, hb, h => ⟨h, fun r hr => by simp [fillO] at hr⟩
  | f :: fs, [_, _], o, hb, h => ⟨h, fun r hr => by simp [fillO] at hr⟩
theorem one_sm {k : Int} (hk : 0 ≤ k ∧ k ≤ 10) {bs : List Int} (hb : IsB bs) : Sm (one k bs).1 := by
  have h := fillO_sm (fieldsOf k) bs ⟨k, 0, 0, 0, 0, 0⟩ hb ⟨hk, by simp, by simp, by simp, by simp, by simp⟩
  unfold one
  generalize fillO (fieldsOf k) bs ⟨k, 0, 0, 0, 0, 0⟩ = R at *
  obtain ⟨o, r⟩ := R
  cases r with
  | none => exact h.1
  | some r =>
    simp only
    split
    · exact h.1
    · cases r with
      | nil => exact h.1
      | cons b r =>
        obtain ⟨a1, a2, a3, a4, a5, a6⟩ := h.1
        exact ⟨a1, a2, a3, a4, a5, h.2 _ rfl b (by simp)⟩
theorem take_sm : ∀ (n : Nat) (bs : List Int), bs.length ≤ n → IsB bs → ∀ o ∈ take bs, Sm o
  | _, [], _, _ => fun o ho => by simp [take_nil] at ho
  | 0, b :: bs, h, _ => by simp at h
  | n + 1, b :: bs, h, hb => by
    have hl : bs.length ≤ n := by simpa using h
    have hb' : IsB bs := fun x hx => hb x (by simp [hx])
    intro o ho
    rw [take_cons] at ho
    split at ho
    · exact take_sm n bs hl hb' o ho
    · have h1 := one_sm (k := b % 11) (by omega) hb'
      generalize one (b % 11) bs = R at *
      obtain ⟨o1, m, ok⟩ := R
      cases ok with
      | false => simp at ho
      | true =>
        simp only [List.mem_cons] at ho
        rcases ho with rfl | ho
        · exact h1
        · exact take_sm n (bs.drop m) (by rw [List.length_drop]; omega) (fun x hx => hb' x (List.mem_of_mem_drop hx)) o ho
theorem take_ok (bs : List Int) (hb : IsB bs) : ∀ o ∈ take bs, W.OpOk o := fun o ho => (take_sm bs.length bs (Nat.le_refl _) hb o ho).ok
def playF (bs : List Int) : List W.An × Nat := if (decF bs).2.2 = false then ([], 2) else W.runF (decF bs).1 (decF bs).2.1
set_option maxRecDepth 20000 in
set_option maxHeartbeats 4000000 in
theorem playRun_told {bs : List Int} (hb : IsB bs) (hl : bs.length ≤ 1000000) : Told P T play_Run [] [.lst t_uint8 (encB bs)] (.tup [W.lA (playF bs).1, i64 ((playF bs).2 : Nat)]) [] := by
  have d1 := dec_told hb hl
  have hok : ∀ o ∈ (decF bs).2.1, W.OpOk o := by
    unfold decF
    split
    · intro o ho; simp at ho
    · exact take_ok _ fun x hx => hb x (List.mem_of_mem_drop hx)
  have r1 := W.runHeap_told (decF bs).1 hok
  unfold playF
  generalize decF bs = D at *
  obtain ⟨r, l, ok⟩ := D
  unfold W.lA at *
  cases ok with
  | false =>
    simp only [if_true]
    refine told_of_ev (fn := play_Run_fn) tabOk mixed (by kernel_rfl) (by kernel_rfl) (by kernel_rfl) (by kernel_rfl) ?_
    (refine gw ?_; refine Choice.mk ⟨false, Choice.mk ⟨false, _, _, d1, ?_⟩⟩)
    (refine gw ?_)
    exact RetN.fz ⟨[true], [], rfl, rfl, rfl⟩
  | true =>
    rw [if_neg (show ¬ (true = false) by decide)]
    refine told_of_ev (fn := play_Run_fn) tabOk mixed (by kernel_rfl) (by kernel_rfl) (by kernel_rfl) (by kernel_rfl) ?_
    (refine gw ?_; refine Choice.mk ⟨false, Choice.mk ⟨false, _, _, d1, ?_⟩⟩)
    (refine gw ?_; refine Choice.mk ⟨false, Choice.mk ⟨false, _, _, r1, ?_⟩⟩)
    (refine gw ?_; exact RetN.mk ⟨[], rfl, rfl, rfl⟩)
end Go.Ev.X
namespace Go.Ev.W
open Go.Ev Go.Ev.N

set_option maxRecDepth 20000 in
set_option maxHeartbeats 1000000 in
theorem hpBlocks_told {c : Cf} {g cl : Nat} {s : Hs} (bs : List Bk) (hl : bs.length = s.m.length) (hl2 : s.m.length ≤ 65536) (hb : ∀ k (h : k < s.m.length) (h2 : k < bs.length), getS (s.m[k]).at' s.ds = some bs[k]) :
    Told P T heap_Heap_Blocks (hsL c g cl s) [.ptr 0 0 0] (lK bs) (hsL c g cl s) := by
  have hml : (s.m.map encM).length = s.m.length := by simp
  unfold hsL hpL hpV lK
  refine told_of_ev (fn := heap_Heap_Blocks_fn) tabOk mixed (by kernel_rfl) (by kernel_rfl) (by kernel_rfl) (by kernel_rfl) ?_
  (refine gw ?_; refine LoopN.mk ⟨[0,2,11,12,13], fun vs L => ∃ k : Nat, vs = [.ptr 0 0 0, .ref 4, .lst t_api_Mark (s.m.map encM), i64 (s.m.map encM).length, i64 k] ∧ L = hpL c g cl s.b s.m s.live s.peak s.mark s.on s.ds s.met s.mem ++ [.row t_api_Block ((bs.take k).map eB)] ∧ k ≤ s.m.length, fun vs L => match vs with | [_, _, _, _, .int _ i] => s.m.length - i.toNat | _ => 0, [], [4], rfl, ⟨0, rfl, rfl, by omega⟩, ?_⟩)
  rintro vs L ⟨k, rfl, rfl, hk⟩
  have hbl : ((bs.take k).map eB).length = k := by rw [List.length_map, List.length_take]; omega
  by_cases hkl : k < s.m.length
  · have hx : ∀ Q : AV → Prop, Q (encM s.m[k]) → Idx (s.m.map encM) ((k : Nat) : Int) Q := fun Q q => idx_map hkl q
    have h2 : k < bs.length := by omega
    have hg := mget_encS (s.m[k]).at' s.ds
    rw [hb k hkl h2] at hg
    have hsu : (bs.take (k + 1)).map eB = (bs.take k).map eB ++ [eB bs[k]] := by rw [List.take_succ_eq_append_getElem h2, List.map_append]; rfl
    unfold hpL hpV
    (refine gw ?_; refine IfB.tt (by rw [hml]; simp; omega) ?_)
    (refine gw ?_)
    refine hx _ ?_
    (refine gw ?_)
    refine Get.of hg ?_
    (refine gw ?_)
    refine Room.mk (by rw [hbl]; simp; omega) ?_
    (refine gw ?_; refine ⟨[], [7], rfl, ⟨k + 1, rfl, by rw [hsu]; rfl, hkl⟩, (by omega : s.m.length - ((k : Int) + 1).toNat < s.m.length - (k : Int).toNat)⟩)
  · have hkk : k = bs.length := by omega
    rw [hkk, List.take_length]
    unfold hpL hpV
    (refine gw ?_; refine IfB.ff (by rw [hml]; simp; omega) ?_)
    (refine gw ?_)
    exact RetN.fz ⟨[true], [], rfl, rfl, rfl⟩
end Go.Ev.W
namespace Go.Ev.W
open Go.Ev Go.Ev.N

theorem Hr.bs {m : Mo} {s : Hs} (h : Hr m s) (hm : MoOk m) : m.bs.length = s.m.length ∧ s.m.length ≤ 65536 ∧ ∀ k (h : k < s.m.length) (h2 : k < m.bs.length), getS (s.m[k]).at' s.ds = some m.bs[k] := by
  have hl : m.bs.length = s.m.length := by rw [h.b.m]; simp
  have := hm.a.len
  have := hm.c.h2
  refine ⟨hl, by omega, fun k h1 h2 => ?_⟩
  have hm1 := h.b.m
  have e : (s.m[k]).at' = m.bs[k].a := by
    simp only [hm1, List.getElem_map]; rfl
  rw [h.b.ds, e]
  exact getS_of hm.a.inj (List.getElem_mem h2) rfl
theorem hpBlocksI {m : Mo} {s : Hs} (h : Hr m s) (hm : MoOk m) : Told P T heap_Heap_Blocks (hsL m.c (m.c.H / m.c.G) (m.c.L + 1) s) [.ptr 0 0 0] (lK m.bs) (hsL m.c (m.c.H / m.c.G) (m.c.L + 1) s) := by
  obtain ⟨h1, h2, h3⟩ := h.bs hm
  exact hpBlocks_told m.bs h1 h2 h3
end Go.Ev.W
namespace Go.Ev.W
open Go.Ev Go.Ev.N
set_option maxHeartbeats 1000000 in
theorem sameBlocksR (l : List Bk) (hl : l.length ≤ 1000000) : Told P T ref17_SameBlocks [] [.lst t_api_Block (l.map eB), .lst t_api_Block (l.map eB)] (.bool true) [] := by
  have hml : (l.map eB).length = l.length := by simp
  refine told_of_ev (fn := ref17_SameBlocks_fn) tabOk mixed (by kernel_rfl) (by kernel_rfl) (by kernel_rfl) (by kernel_rfl) ?_
  refine gw ?_
  (refine gw ?_; refine LoopN.mk ⟨[0,1,5], fun vs L => ∃ i : Nat, vs = [.lst t_api_Block (l.map eB), .lst t_api_Block (l.map eB), i64 i] ∧ i ≤ l.length ∧ L = [], fun vs L => match vs with | [_, _, .int _ i] => l.length - i.toNat | _ => 0, [], [], rfl, ⟨0, rfl, by omega, rfl⟩, ?_⟩)
  rintro vs L ⟨i, rfl, hi, rfl⟩
  (refine gw ?_; first | refine IfB.dec (fun h2 => ?_) (fun h2 => ?_) | refine IfB.eq (fun h2 => ?_) (fun h2 => ?_) | refine IfB.ne (fun h2 => ?_) (fun h2 => ?_) | refine IfB.mk (fun h2 => ?_) (fun h2 => ?_))
  · have hlt : i < l.length := by omega
    (refine gw ?_; refine idx_map (hlt) ?_)
    (refine gw ?_; refine idx_map (hlt) ?_)
    (refine gw ?_)
    first | refine IfB.ff (by simp) ?_ | skip
    (refine gw ?_; refine ⟨[], [], rfl, ⟨i + 1, rfl, hlt, rfl⟩, (by omega : l.length - ((i : Int) + 1).toNat < l.length - (i : Int).toNat)⟩)
  · (refine gw ?_; exact RetN.mk ⟨[], rfl, rfl, rfl⟩)
end Go.Ev.W
namespace Go.Ev.W
open Go.Ev Go.Ev.N

set_option maxRecDepth 20000 in
set_option maxHeartbeats 8000000 in
theorem opsW_told (r : Rw) {n : Nat} (hn : n ≤ 100000) {p : Pk} (ok : p.Ok) : Told P T mk_Picks_Ops [pkB p] [.ptr 0 0 0, eR r, i64 n] (.ref 1) [pkB (opsA r n p).2, .row t_api_Op ((opsA r n p).1.map X.encO)] := by
  have c1 := new17_told r
  have hm0 := newM_ok (r := r)
  unfold opsA
  generalize newM r = M at *
  obtain ⟨m0, e⟩ := M
  by_cases he : e = 0
  · subst he
    have hm0 : MoOk m0 := hm0 rfl
    have c1 : Told P T ref17_New [] [eR r] (.tup [eM m0, i64 ((0 : Nat) : Int)]) [] := c1
    simp only [ne_eq, not_true_eq_false, if_false]
    refine told_of_ev (fn := mk_Picks_Ops_fn) tabOk mixed (by kernel_rfl) (by kernel_rfl) (by kernel_rfl) (by kernel_rfl) ?_
    (refine gw ?_; refine Choice.mk ⟨false, Choice.mk ⟨false, _, _, c1, ?_⟩⟩)
    (refine gw ?_; refine LoopN.mk ⟨[0,2,7,9,10], fun vs L => ∃ (k : Nat) (q : Pk) (m : Mo) (os : List X.O), vs = [.ptr 0 0 0, i64 n, .ptr 1 0 0, .ref 2, i64 k] ∧ L = [pkB q, .var (eM m), .row t_api_Op (os.map X.encO)] ∧ k ≤ n ∧ os.length = k ∧ q.Ok ∧ MoOk m ∧ opsF n m0 p = (os ++ (opsF (n - k) m q).1, (opsF (n - k) m q).2), fun vs L => match vs with | [_, _, _, _, .int _ i] => n - i.toNat | _ => 0, [], [3,7], rfl, ⟨0, p, m0, [], rfl, rfl, by omega, rfl, ok, hm0, rfl⟩, ?_⟩)
    rintro vs L ⟨k, q, m, os, rfl, rfl, hk, hos, okq, hm, he⟩
    have hom : (os.map X.encO).length = k := by rw [List.length_map]; exact hos
    by_cases hkn : k < n
    · obtain ⟨t1, t2, t3⟩ := opO_spec hm okq
      have hd := doF_ok hm (t3.ok hm.c)
      have t4 := do17_told hm (t3.ok hm.c)
      have hsf : opsF (n - k) m q = if q.over = true then ([], q) else (opO m q :: (opsF (n - (k + 1)) (doF m (opO m q)).1 (opP m q)).1, (opsF (n - (k + 1)) (doF m (opO m q)).1 (opP m q)).2) := by
        rw [show n - k = (n - (k + 1)) + 1 by omega]; rfl
      clear c1
      generalize opO m q = o at *
      generalize opP m q = q' at *
      generalize doF m o = D at *
      obtain ⟨m', an'⟩ := D
      have hma : (os ++ [o]).map X.encO = os.map X.encO ++ [X.encO o] := by simp
      simp only at hsf hd t4
      (refine gw ?_; refine IfB.tt (by simp; omega) ?_)
      (refine gw ?_; refine Choice.mk ⟨true, Choice.mk ⟨false, _, _, over_told' q, ?_⟩⟩)
      cases hov : q.over with
      | true =>
        rw [hov, if_pos rfl] at hsf
        rw [hsf, List.append_nil] at he
        rw [he]
        (refine gw ?_)
        exact RetN.mk ⟨[2], rfl, rfl, rfl⟩
      | false =>
        rw [hov, if_neg (by simp)] at hsf
        rw [hsf] at he
        (refine gw ?_; refine Choice.mk ⟨true, Choice.mk ⟨false, _, _, t1, ?_⟩⟩)
        (refine gw ?_; refine Room.mk (by first | omega | (simp; omega) | (simp <;> fail)) ?_)
        (refine gw ?_; refine Choice.mk ⟨false, Choice.mk ⟨false, _, _, t4, ?_⟩⟩)
        (refine gw ?_; refine ⟨[], [1,5], rfl, ⟨k + 1, q', m', os ++ [o], rfl, by rw [hma]; rfl, hkn, by simp [hos], t2, hd.1, by rw [he]; simp⟩, (by omega : n - ((k : Int) + 1).toNat < n - (k : Int).toNat)⟩)
    · have e : k = n := by omega
      subst e
      rw [Nat.sub_self] at he
      have he : opsF k m0 p = (os, q) := by rw [he]; simp [opsF]
      rw [he]
      (refine gw ?_)
      exact RetN.mk ⟨[2], rfl, rfl, rfl⟩
  · simp only [ne_eq, he, not_false_eq_true, if_true]
    have c1 : Told P T ref17_New [] [eR r] (.tup [eM m0, i64 ((e : Nat) : Int)]) [] := c1
    refine told_of_ev (fn := mk_Picks_Ops_fn) tabOk mixed (by kernel_rfl) (by kernel_rfl) (by kernel_rfl) (by kernel_rfl) ?_
    (refine gw ?_; refine Choice.mk ⟨false, Choice.mk ⟨false, _, _, c1, ?_⟩⟩)
    (refine gw ?_; refine IfB.tt (by simpa using he) ?_)
    (refine gw ?_)
    first | exact RetN.mk ⟨[1], rfl, rfl, rfl⟩ | exact RetN.mk ⟨[2], rfl, rfl, rfl⟩ | exact RetN.mk ⟨[3], rfl, rfl, rfl⟩ | exact RetN.mk ⟨[4], rfl, rfl, rfl⟩ | exact RetN.mk ⟨[5], rfl, rfl, rfl⟩ | exact RetN.mk ⟨[6], rfl, rfl, rfl⟩ | exact RetN.mk ⟨[7], rfl, rfl, rfl⟩ | exact RetN.mk ⟨[8], rfl, rfl, rfl⟩ | exact RetN.mk ⟨[9], rfl, rfl, rfl⟩ | exact RetN.mk ⟨[10], rfl, rfl, rfl⟩
end Go.Ev.W
namespace Go.Ev.W
open Go.Ev Go.Ev.N

def rTop : Rw := ⟨1, 4, 8, 4, 6, 0⟩
def oTo1 : X.O := ⟨1, 0, 3, 0, 0, 0⟩
def oTo2 : X.O := ⟨1, 0, 1, 0, 0, 0⟩
def bTop : List Int := [0, 0, 1, 0, 0, 4, 0, 0, 8, 0, 0, 4, 0, 0, 6, 0, 1, 0, 0, 3, 1, 0, 0, 1]
theorem encT : X.encF rTop [oTo1, oTo2] = bTop := by decide +kernel
theorem playT : X.playF bTop = ([an0, { an0 with at' := 4 }], 0) := by decide +kernel
theorem bT_ok : X.IsB bTop := by unfold X.IsB; decide
set_option maxRecDepth 20000 in
set_option maxHeartbeats 4000000 in
theorem begunT_told : Told P T top_begun [] [] (.bool true) [] := by
  have c1 := X.encode_told rTop (l := [oTo1, oTo2]) (fun o ho => by
    simp at ho
    rcases ho with rfl | rfl <;> exact ⟨by decide, by decide⟩) (by simp)
  have c2 := X.playRun_told bT_ok (by decide)
  rw [encT] at c1
  rw [playT] at c2
  refine told_of_ev (fn := top_begun_fn) tabOk mixed (by kernel_rfl) (by kernel_rfl) (by kernel_rfl) (by kernel_rfl) ?_
  (refine gw ?_; refine Choice.mk ⟨false, Choice.mk ⟨false, _, _, c1, ?_⟩⟩)
  (refine gw ?_; refine Choice.mk ⟨false, Choice.mk ⟨false, _, _, c2, ?_⟩⟩)
  (refine gw ?_)
  refine Idx.mk ⟨_, by omega, rfl, ?_⟩
  (refine gw ?_; exact RetN.mk ⟨[], rfl, rfl, rfl⟩)
theorem shpOpsT {n : Nat} {x : AV} (h : Shp T (n + 3) ts_api_Op x) : ∃ l : List X.O, x = .lst t_api_Op (l.map X.encO) ∧ l.length ≤ maxLen ∧ ∀ o ∈ l, OpOk o := shp_list (e := t_api_Op) X.encO OpOk (by kernel_rfl) h fun y hy => shpOp hy
set_option maxRecDepth 20000 in
set_option maxHeartbeats 8000000 in
theorem topPlain_told {a b : List Nat} {l : List X.O} (ha : IsB a) (hla : a.length ≤ maxLen) (hb : IsB b) (hlb : b.length ≤ maxLen) (hll : l.length ≤ maxLen) (hl : ∀ o ∈ l, OpOk o) : Told P T top_TopPlain [] [lB a, lB b, .lst t_api_Op (l.map X.encO)] (.bool true) [] := by
  have hua : (a.map u8).length = a.length := by simp
  have hub : (b.map u8).length = b.length := by simp
  have hul : (l.map X.encO).length = l.length := by simp
  have oka : (⟨a, 0⟩ : Pk).Ok := ⟨ha, Nat.zero_le _, hla⟩
  have okb : (⟨b, 0⟩ : Pk).Ok := ⟨hb, Nat.zero_le _, hlb⟩
  have t1 := raw_told ⟨a, 0⟩ oka false
  generalize rawF ⟨a, 0⟩ false = R at *
  obtain ⟨r, pa⟩ := R
  have o1 := opsW_told r (n := 80) (by omega) okb
  have oo := opsA_op (r := r) (n := 80) okb
  have ol := (opsA_ok (r := r) 80 okb).2.1
  generalize opsA r 80 ⟨b, 0⟩ = A at *
  obtain ⟨os, pb⟩ := A
  have o1 : Told P T mk_Picks_Ops [pkB ⟨b, 0⟩] [.ptr 0 0 0, eR r, i64 80] (.ref 1) [pkB pb, .row t_api_Op (os.map X.encO)] := o1
  have hom : (os.map X.encO).length = os.length := by simp
  have oo : ∀ o ∈ os, OpOk o := oo
  have ol : os.length ≤ 80 := ol
  have n1 := hpNewI (r := r)
  have n1e := hpNewE (r := r)
  have n2 := plainNew_told r
  have hok := newM_ok (r := r)
  generalize newM r = M at *
  obtain ⟨m0, e⟩ := M
  refine told_of_ev (fn := top_TopPlain_fn) tabOk mixed (by kernel_rfl) (by kernel_rfl) (by kernel_rfl) (by kernel_rfl) ?_
  (refine gw ?_; refine Choice.mk ⟨false, Choice.mk ⟨false, _, _, begunT_told, ?_⟩⟩)
  by_cases h6 : a.length > 6
  · (refine gw ?_; refine IfB.tt (by rw [hua]; simp; omega) ?_)
    (refine gw ?_; exact RetN.mk ⟨[], rfl, rfl, rfl⟩)
  (refine gw ?_; refine IfB.ff (by rw [hua]; simp; omega) ?_)
  by_cases h7 : b.length > 250
  · (refine gw ?_; refine IfB.tt (by rw [hub]; simp; omega) ?_)
    (refine gw ?_; exact RetN.mk ⟨[], rfl, rfl, rfl⟩)
  (refine gw ?_; refine IfB.ff (by rw [hub]; simp; omega) ?_)
  by_cases h8 : l.length > 10
  · (refine gw ?_; refine IfB.tt (by rw [hul]; simp; omega) ?_)
    (refine gw ?_; exact RetN.mk ⟨[], rfl, rfl, rfl⟩)
  (refine gw ?_; refine IfB.ff (by rw [hul]; simp; omega) ?_)
  (refine gw ?_; refine Choice.mk ⟨false, Choice.mk ⟨false, _, _, made_told a, ?_⟩⟩)
  (refine gw ?_; refine Choice.mk ⟨true, Choice.mk ⟨false, _, _, t1, ?_⟩⟩)
  by_cases he : e = 0
  case neg =>
    (refine gw ?_; refine Choice.mk ⟨false, Choice.mk ⟨false, _, _, n1e he, ?_⟩⟩)
    (refine gw ?_; refine Choice.mk ⟨false, Choice.mk ⟨false, _, _, n2, ?_⟩⟩)
    (refine gw ?_; refine IfB.ff (by simp [he]) ?_)
    (refine gw ?_; exact RetN.mk ⟨[], rfl, rfl, rfl⟩)
  subst he
  have hm0 : MoOk m0 := hok rfl
  obtain ⟨s0, hr0, n1⟩ := n1 rfl
  (refine gw ?_; refine Choice.mk ⟨false, Choice.mk ⟨false, _, _, n1, ?_⟩⟩)
  (refine gw ?_; refine Choice.mk ⟨false, Choice.mk ⟨false, _, _, n2, ?_⟩⟩)
  (refine gw ?_; refine Choice.mk ⟨false, Choice.mk ⟨false, _, _, made_told b, ?_⟩⟩)
  (refine gw ?_; refine Choice.mk ⟨true, Choice.mk ⟨false, _, _, o1, ?_⟩⟩)
  (refine gw ?_)
  refine Room.mk (by rw [hom, hul]; omega) ?_
  rw [← List.map_append]
  have hall : ∀ o ∈ os ++ l, OpOk o := fun o ho => by
    rcases List.mem_append.1 ho with h | h
    · exact oo o h
    · exact hl o h
  have hlen : (os ++ l).length ≤ 90 := by rw [List.length_append]; omega
  generalize os ++ l = ops at *
  have hop : (ops.map X.encO).length = ops.length := by simp
  (refine gw ?_; refine LoopN.mk ⟨[8,10,12,13], fun vs L => ∃ (k : Nat) (m : Mo) (s : Hs), vs = [.ptr 0 0 0, .ptr 4 0 0, .lst t_api_Op (ops.map X.encO), i64 k] ∧ L = hI m s ++ [.var (eM m)] ∧ k ≤ ops.length ∧ MoOk m ∧ Hr m s, fun vs L => match vs with | [_, _, _, .int _ i] => ops.length - i.toNat | _ => 0, [12], [2,3,4,5,7], rfl, ⟨0, m0, s0, rfl, rfl, by omega, hm0, hr0⟩, ?_⟩)
  rintro vs L ⟨k, m, s, rfl, rfl, hk, hm, hr⟩
  by_cases hko : k < ops.length
  · obtain ⟨s', hr', d1⟩ := hpDoI hr hm (hall _ (List.getElem_mem hko))
    have d2 := plainDo_told hm (moH1 hm) (hall _ (List.getElem_mem hko))
    have hd := doF_ok hm (hall _ (List.getElem_mem hko))
    generalize doF m ops[k] = D at *
    obtain ⟨m', an'⟩ := D
    have hm' : MoOk m' := hd.1
    have hbm := hm'.bd
    have b1 := hpBlocksI hr' hm'
    have s2 := sameBlocksR m'.bs hbm.1
    (refine gw ?_; refine IfB.tt (by rw [hop]; simp; omega) ?_)
    (refine gw ?_; refine idx_map (hko) ?_)
    (refine gw ?_; refine Choice.mk ⟨false, Choice.mk ⟨false, _, _, d2, ?_⟩⟩)
    (refine gw ?_; refine idx_map (hko) ?_)
    (refine gw ?_; refine Choice.mk ⟨false, Choice.mk ⟨false, _, _, d1, ?_⟩⟩)
    (refine gw ?_; refine Choice.mk ⟨false, Choice.mk ⟨true, _, _, b1, Need.mk rfl ?_⟩⟩)
    (refine gw ?_; refine Choice.mk ⟨false, Choice.mk ⟨false, _, _, s2, ?_⟩⟩)
    (refine gw ?_; refine ⟨[], [0,1,2,3,4], rfl, ⟨k + 1, m', s', rfl, rfl, hko, hm', hr'⟩, (by omega : ops.length - ((k : Int) + 1).toNat < ops.length - (k : Int).toNat)⟩)
  (refine gw ?_; refine IfB.ff (by rw [hop]; simp; omega) ?_)
  (refine gw ?_; exact RetN.mk ⟨[], rfl, rfl, rfl⟩)
theorem topPlain {x0 x1 x2 : AV} (h0 : Shp T 8 ts_uint8 x0) (h1 : Shp T 8 ts_uint8 x1) (h2 : Shp T 8 ts_api_Op x2) : Told P T top_TopPlain [] [x0, x1, x2] (.bool true) [] := by
  obtain ⟨a, rfl, ha, hla⟩ := shp_bytes h0
  obtain ⟨b, rfl, hb, hlb⟩ := shp_bytes h1
  obtain ⟨l, rfl, hll, hl⟩ := shpOpsT h2
  exact topPlain_told ha hla hb hlb hll hl
end Go.Ev.W
