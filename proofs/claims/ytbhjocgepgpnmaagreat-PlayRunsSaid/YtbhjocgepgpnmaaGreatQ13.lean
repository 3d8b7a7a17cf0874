/- Words and lemmas, part 13, for laws of this seat (a part of their proofs). -/
import Derived.Test.YtbhjocgepgpnmaaGreatQ1
import Derived.Test.YtbhjocgepgpnmaaGreatQ2
import Derived.Test.YtbhjocgepgpnmaaGreatQ3
import Derived.Test.YtbhjocgepgpnmaaGreatQ8
import Derived.Test.YtbhjocgepgpnmaaGreatQ9
import Derived.Test.YtbhjocgepgpnmaaGreatQ12
import Derived.Test.YtbhjocgepgpnmaaGreatNm
import Derived.Test.YtbhjocgepgpnmaaGreatEvOpen
import Derived.Test.YtbhjocgepgpnmaaGreatEvLib
import Derived.Test.YtbhjocgepgpnmaaGreatEvGrid
import Derived.Test.YtbhjocgepgpnmaaGreatEvTrim
set_option linter.unusedVariables false
set_option linter.unusedSimpArgs false
namespace Go.Ev.W
open Go.Ev Go.Ev.N

theorem allF_ok : ∀ {os : List X.O} {m : Mo}, MoOk m → (∀ o ∈ os, OpOk o) → MoOk (allF m os).1 ∧ (allF m os).1.c = m.c ∧ (allF m os).2.length = os.length
  | [], m, hm, _ => ⟨hm, rfl, rfl⟩
  | o :: os, m, hm, h => by
    have hd := doF_ok hm (h o (by simp))
    have ih := allF_ok (os := os) hd.1 fun x hx => h x (by simp [hx])
    refine ⟨ih.1, ih.2.1.trans hd.2, ?_⟩
    show ((doF m o).2 :: (allF (doF m o).1 os).2).length = _
    rw [List.length_cons, ih.2.2]; rfl
theorem allF_snoc : ∀ (os : List X.O) (m : Mo) (o : X.O), allF m (os ++ [o]) = ((doF (allF m os).1 o).1, (allF m os).2 ++ [(doF (allF m os).1 o).2])
  | [], m, o => rfl
  | x :: os, m, o => by
    show ((allF (doF m x).1 (os ++ [o])).1, (doF m x).2 :: (allF (doF m x).1 (os ++ [o])).2) = _
    rw [allF_snoc os]; rfl
theorem opsA_op {r : Rw} {n : Nat} {p : Pk} (ok : p.Ok) : ∀ o ∈ (opsA r n p).1, OpOk o := fun o ho => by
  obtain ⟨c, hc, hg⟩ := (opsA_ok n ok).2.2 o ho
  exact hg.ok hc
end Go.Ev.W
namespace Go.Ev.W
open Go.Ev Go.Ev.N

set_option maxRecDepth 20000 in
set_option maxHeartbeats 4000000 in
theorem all17_told {m : Mo} (hm : MoOk m) {os : List X.O} (ho : ∀ o ∈ os, OpOk o) (hl : os.length ≤ 100000) : Told P T ref17_All [] [eM m, .lst t_api_Op (os.map X.encO)] (.tup [eM (allF m os).1, .lst t_api_Ans ((allF m os).2.map eA)]) [] := by
  have hmo : (os.map X.encO).length = os.length := by simp
  refine told_of_ev (fn := ref17_All_fn) tabOk mixed (by kernel_rfl) (by kernel_rfl) (by kernel_rfl) (by kernel_rfl) ?_
  (refine gw ?_; refine LoopN.mk ⟨[1,2,4,6,7], fun vs L => ∃ k : Nat, vs = [.lst t_api_Op (os.map X.encO), .ptr 0 0 0, .ptr 1 0 0, .ref 2, i64 k] ∧ L = [.var (eM (allF m (os.take k)).1), .var moU, .row t_api_Ans ((allF m (os.take k)).2.map eA)] ∧ k ≤ os.length, fun vs L => match vs with | [_, _, _, _, .int _ i] => os.length - i.toNat | _ => 0, [], [0,1,6], rfl, ⟨0, rfl, rfl, by omega⟩, ?_⟩)
  rintro vs L ⟨k, rfl, rfl, hk⟩
  (refine gw ?_; first | refine IfB.dec (fun g1 => ?_) (fun g1 => ?_) | refine IfB.eq (fun g1 => ?_) (fun g1 => ?_) | refine IfB.ne (fun g1 => ?_) (fun g1 => ?_) | refine IfB.mk (fun g1 => ?_) (fun g1 => ?_))
  · have hkl : k < os.length := by omega
    have hso := allF_snoc (os.take k) m os[k]
    rw [← List.take_succ_eq_append_getElem hkl] at hso
    have hok := allF_ok (os := os.take k) hm fun o h => ho o (List.mem_of_mem_take h)
    have hlk : ((allF m (os.take k)).2.map eA).length = k := by rw [List.length_map, hok.2.2, List.length_take]; omega
    have d1 := do17_told hok.1 (ho _ (List.getElem_mem hkl))
    have hma : ((allF m (os.take k)).2 ++ [(doF (allF m (os.take k)).1 os[k]).2]).map eA = (allF m (os.take k)).2.map eA ++ [eA (doF (allF m (os.take k)).1 os[k]).2] := by simp
    have hlk2 : (allF m (os.take k)).2.length ≤ 100000 := by rw [List.length_map] at hlk; omega
    (refine gw ?_; refine idx_map (hkl) ?_)
    (refine gw ?_; refine Choice.mk ⟨false, Choice.mk ⟨false, _, _, d1, ?_⟩⟩)
    (refine gw ?_; refine Room.mk (by first | omega | (simp; omega) | (simp <;> fail)) ?_)
    (refine gw ?_; refine ⟨[], [0,1,9], rfl, ⟨k + 1, rfl, by rw [hso]; simp only []; rw [hma]; rfl, hkl⟩, (by omega : os.length - ((k : Int) + 1).toNat < os.length - (k : Int).toNat)⟩)
  · have e : k = os.length := by omega
    subst e
    rw [List.take_length]
    (refine gw ?_; exact RetN.fz ⟨[true, true], [], rfl, rfl, rfl⟩)
end Go.Ev.W
namespace Go.Ev.W
open Go.Ev Go.Ev.N

theorem sameAnsR (l : List An) (hl : l.length ≤ 1000000) : Told P T ref17_SameAns [] [.lst t_api_Ans (l.map eA), .lst t_api_Ans (l.map eA)] (.bool true) [] := by
  have hml : (l.map eA).length = l.length := by simp
  refine told_of_ev (fn := ref17_SameAns_fn) tabOk mixed (by kernel_rfl) (by kernel_rfl) (by kernel_rfl) (by kernel_rfl) ?_
  refine gw ?_
  (refine gw ?_; refine LoopN.mk ⟨[0,1,5], fun vs L => ∃ i : Nat, vs = [.lst t_api_Ans (l.map eA), .lst t_api_Ans (l.map eA), i64 i] ∧ i ≤ l.length ∧ L = [], fun vs L => match vs with | [_, _, .int _ i] => l.length - i.toNat | _ => 0, [], [], rfl, ⟨0, rfl, by omega, rfl⟩, ?_⟩)
  rintro vs L ⟨i, rfl, hi, rfl⟩
  (refine gw ?_; first | refine IfB.dec (fun h2 => ?_) (fun h2 => ?_) | refine IfB.eq (fun h2 => ?_) (fun h2 => ?_) | refine IfB.ne (fun h2 => ?_) (fun h2 => ?_) | refine IfB.mk (fun h2 => ?_) (fun h2 => ?_))
  · have hlt : i < l.length := by omega
    (refine gw ?_; refine idx_map (hlt) ?_)
    (refine gw ?_; refine idx_map (hlt) ?_)
    (refine gw ?_)
    first | refine IfB.ff (by simp) ?_ | skip
    (refine gw ?_; refine ⟨[], [], rfl, ⟨i + 1, rfl, hlt, rfl⟩, (by omega : l.length - ((i : Int) + 1).toNat < l.length - (i : Int).toNat)⟩)
  · (refine gw ?_; exact RetN.mk ⟨[], rfl, rfl, rfl⟩)
/-- A run, so far. -/
theorem allF_at {m : Mo} {os : List X.O} (hm : MoOk m) (ho : ∀ o ∈ os, OpOk o) {k : Nat} (hk : k < os.length) :
    MoOk (allF m (os.take k)).1 ∧ (allF m (os.take k)).2.length = k ∧ (allF m (os.take (k + 1))).1 = (doF (allF m (os.take k)).1 os[k]).1 ∧ (allF m (os.take (k + 1))).2 = (allF m (os.take k)).2 ++ [(doF (allF m (os.take k)).1 os[k]).2] := by
  have h := allF_ok (os := os.take k) hm fun o h => ho o (List.mem_of_mem_take h)
  have hs := allF_snoc (os.take k) m os[k]
  rw [← List.take_succ_eq_append_getElem hk] at hs
  exact ⟨h.1, by rw [h.2.2, List.length_take]; omega, by rw [hs], by rw [hs]⟩
end Go.Ev.W
namespace Go.Ev.W
open Go.Ev Go.Ev.N

theorem shpOp {n : Nat} {x : AV} (h : Shp T (n + 2) t_api_Op x) : ∃ o : X.O, x = X.encO o ∧ OpOk o := by
  unfold Shp at h
  obtain ⟨ys, rfl, hy, hn⟩ := (show ∃ ys : List AV, x = .agg (ys.flatMap cells) ∧ ys.length = 6 ∧ ∀ (i : Nat) (p : Nat × Nat) (y : AV), [((0 : Nat), t_int), (1, t_int), (2, t_int), (3, t_int), (4, t_int), (5, t_uint8)][i]? = some p → ys[i]? = some y → Shp T (n + 1) p.2 y from h)
  match ys, hy, hn with
  | [y0, y1, y2, y3, y4, y5], _, hn =>
    obtain ⟨a0, rfl, b0⟩ := shp_i64 (by kernel_rfl) (hn 0 _ y0 rfl rfl)
    obtain ⟨a1, rfl, b1⟩ := shp_i64 (by kernel_rfl) (hn 1 _ y1 rfl rfl)
    obtain ⟨a2, rfl, b2⟩ := shp_i64 (by kernel_rfl) (hn 2 _ y2 rfl rfl)
    obtain ⟨a3, rfl, b3⟩ := shp_i64 (by kernel_rfl) (hn 3 _ y3 rfl rfl)
    obtain ⟨a4, rfl, b4⟩ := shp_i64 (by kernel_rfl) (hn 4 _ y4 rfl rfl)
    obtain ⟨b, rfl, hb⟩ := shp_u8 (by kernel_rfl) (hn 5 _ y5 rfl rfl)
    exact ⟨⟨a0, a1, a2, a3, a4, (b : Int)⟩, rfl, ⟨b0, b1, b2, b3, b4, by simp, by show (b : Int) < 256; omega⟩⟩
theorem shpRaw {n : Nat} {x : AV} (h : Shp T (n + 2) t_api_Raw x) : ∃ r : Rw, x = eR r := by
  unfold Shp at h
  obtain ⟨ys, rfl, hy, hn⟩ := (show ∃ ys : List AV, x = .agg (ys.flatMap cells) ∧ ys.length = 6 ∧ ∀ (i : Nat) (p : Nat × Nat) (y : AV), [((0 : Nat), t_int), (1, t_int), (2, t_int), (3, t_int), (4, t_int), (5, t_int)][i]? = some p → ys[i]? = some y → Shp T (n + 1) p.2 y from h)
  match ys, hy, hn with
  | [y0, y1, y2, y3, y4, y5], _, hn =>
    obtain ⟨a0, rfl, b0⟩ := shp_i64 (by kernel_rfl) (hn 0 _ y0 rfl rfl)
    obtain ⟨a1, rfl, b1⟩ := shp_i64 (by kernel_rfl) (hn 1 _ y1 rfl rfl)
    obtain ⟨a2, rfl, b2⟩ := shp_i64 (by kernel_rfl) (hn 2 _ y2 rfl rfl)
    obtain ⟨a3, rfl, b3⟩ := shp_i64 (by kernel_rfl) (hn 3 _ y3 rfl rfl)
    obtain ⟨a4, rfl, b4⟩ := shp_i64 (by kernel_rfl) (hn 4 _ y4 rfl rfl)
    obtain ⟨a5, rfl, b5⟩ := shp_i64 (by kernel_rfl) (hn 5 _ y5 rfl rfl)
    exact ⟨⟨a0, a1, a2, a3, a4, a5⟩, rfl⟩
end Go.Ev.W
namespace Go.Ev.W
open Go.Ev Go.Ev.N

/-- What many calls are told. -/
def runF (r : Rw) (os : List X.O) : List An × Nat :=
  if (newM r).2 ≠ 0 then ([], (newM r).2) else if os.length > 5000 then ([], 2) else ((allF (newM r).1 os).2, 0)
def lA (l : List An) : AV := .lst t_api_Ans (l.map eA)
set_option maxRecDepth 20000 in
set_option maxHeartbeats 4000000 in
theorem runHeap_told (r : Rw) {os : List X.O} (ho : ∀ o ∈ os, OpOk o) : Told P T run_Heap [] [eR r, .lst t_api_Op (os.map X.encO)] (.tup [lA (runF r os).1, i64 ((runF r os).2 : Nat)]) [] := by
  have hom : (os.map X.encO).length = os.length := by simp
  have n1 := hpNewI (r := r)
  have n1e := hpNewE (r := r)
  have hok := newM_ok (r := r)
  unfold runF lA
  generalize newM r = M at *
  obtain ⟨m0, e⟩ := M
  by_cases he : e = 0
  case neg =>
    simp only [ne_eq, he, not_false_eq_true, if_true]
    refine told_of_ev (fn := run_Heap_fn) tabOk mixed (by kernel_rfl) (by kernel_rfl) (by kernel_rfl) (by kernel_rfl) ?_
    (refine gw ?_; refine Choice.mk ⟨false, Choice.mk ⟨false, _, _, n1e he, ?_⟩⟩)
    (refine gw ?_; refine IfB.tt (by simpa using he) ?_)
    (refine gw ?_; exact RetN.fz ⟨[true], [], rfl, rfl, rfl⟩)
  subst he
  have hm0 : MoOk m0 := hok rfl
  obtain ⟨s0, hr0, n1⟩ := n1 rfl
  simp only [ne_eq, not_true_eq_false, if_false]
  by_cases hl : os.length > 5000
  · rw [if_pos hl]
    refine told_of_ev (fn := run_Heap_fn) tabOk mixed (by kernel_rfl) (by kernel_rfl) (by kernel_rfl) (by kernel_rfl) ?_
    (refine gw ?_; refine Choice.mk ⟨false, Choice.mk ⟨false, _, _, n1, ?_⟩⟩)
    (refine gw ?_; refine IfB.tt (by rw [hom]; simp; omega) ?_)
    (refine gw ?_; exact RetN.fz ⟨[true], [], rfl, rfl, rfl⟩)
  rw [if_neg hl]
  refine told_of_ev (fn := run_Heap_fn) tabOk mixed (by kernel_rfl) (by kernel_rfl) (by kernel_rfl) (by kernel_rfl) ?_
  (refine gw ?_; refine Choice.mk ⟨false, Choice.mk ⟨false, _, _, n1, ?_⟩⟩)
  (refine gw ?_; refine IfB.ff (by rw [hom]; simp; omega) ?_)
  (refine gw ?_; refine LoopN.mk ⟨[4,6,22,23,24], fun vs L => ∃ (k : Nat) (s : Hs), vs = [.ref 4, .ptr 0 0 0, .lst t_api_Op (os.map X.encO), i64 (os.map X.encO).length, i64 k] ∧ L = hI (allF m0 (os.take k)).1 s ++ [.row t_api_Ans ((allF m0 (os.take k)).2.map eA)] ∧ k ≤ os.length ∧ Hr (allF m0 (os.take k)).1 s, fun vs L => match vs with | [_, _, _, _, .int _ i] => os.length - i.toNat | _ => 0, [], [2,3,4,5,1], rfl, ⟨0, s0, rfl, rfl, by omega, hr0⟩, ?_⟩)
  rintro vs L ⟨k, s, rfl, rfl, hk, hr⟩
  by_cases hko : k < os.length
  · obtain ⟨g1, g2, g3, g4⟩ := allF_at hm0 ho hko
    obtain ⟨s', hr', d1⟩ := hpDoI hr g1 (ho _ (List.getElem_mem hko))
    rw [← g3] at hr' d1
    have hma : (allF m0 (os.take (k + 1))).2.map eA = (allF m0 (os.take k)).2.map eA ++ [eA (doF (allF m0 (os.take k)).1 os[k]).2] := by rw [g4]; simp
    have hlk : ((allF m0 (os.take k)).2.map eA).length = k := by rw [List.length_map]; exact g2
    generalize (doF (allF m0 (os.take k)).1 os[k]).2 = an at *
    (refine gw ?_; refine IfB.tt (by rw [hom]; simp; omega) ?_)
    (refine gw ?_; refine idx_map (hko) ?_)
    (refine gw ?_; refine Choice.mk ⟨false, Choice.mk ⟨false, _, _, d1, ?_⟩⟩)
    (refine gw ?_; refine Room.mk (by first | omega | (simp; omega) | (simp <;> fail)) ?_)
    (refine gw ?_; refine ⟨[], [0,1,2,3,7], rfl, ⟨k + 1, s', rfl, by rw [hma]; rfl, hko, hr'⟩, (by omega : os.length - ((k : Int) + 1).toNat < os.length - (k : Int).toNat)⟩)
  obtain rfl : k = os.length := by omega
  rw [List.take_length]
  (refine gw ?_)
  (refine gw ?_; exact RetN.fz ⟨[true], [], rfl, rfl, rfl⟩)
end Go.Ev.W
namespace Go.Ev.W
open Go.Ev Go.Ev.N

set_option maxRecDepth 20000 in
set_option maxHeartbeats 4000000 in
theorem run17_told (r : Rw) {os : List X.O} (ho : ∀ o ∈ os, OpOk o) (hl : os.length ≤ 100000) : Told P T ref17_Run [] [eR r, .lst t_api_Op (os.map X.encO)] (.tup [lA (runF r os).1, i64 ((runF r os).2 : Nat)]) [] := by
  have hom : (os.map X.encO).length = os.length := by simp
  have n1 := new17_told r
  have hok := newM_ok (r := r)
  unfold runF lA
  generalize newM r = M at *
  obtain ⟨m0, e⟩ := M
  by_cases he : e = 0
  case neg =>
    simp only [ne_eq, he, not_false_eq_true, if_true]
    refine told_of_ev (fn := ref17_Run_fn) tabOk mixed (by kernel_rfl) (by kernel_rfl) (by kernel_rfl) (by kernel_rfl) ?_
    (refine gw ?_; refine Choice.mk ⟨false, Choice.mk ⟨false, _, _, n1, ?_⟩⟩)
    (refine gw ?_; refine IfB.tt (by simpa using he) ?_)
    (refine gw ?_; exact RetN.fz ⟨[true], [], rfl, rfl, rfl⟩)
  subst he
  have hm0 : MoOk m0 := hok rfl
  simp only [ne_eq, not_true_eq_false, if_false]
  by_cases hl2 : os.length > 5000
  · rw [if_pos hl2]
    refine told_of_ev (fn := ref17_Run_fn) tabOk mixed (by kernel_rfl) (by kernel_rfl) (by kernel_rfl) (by kernel_rfl) ?_
    (refine gw ?_; refine Choice.mk ⟨false, Choice.mk ⟨false, _, _, n1, ?_⟩⟩)
    (refine gw ?_; refine IfB.tt (by rw [hom]; simp; omega) ?_)
    (refine gw ?_; exact RetN.fz ⟨[true], [], rfl, rfl, rfl⟩)
  rw [if_neg hl2]
  have a1 := all17_told hm0 ho hl
  refine told_of_ev (fn := ref17_Run_fn) tabOk mixed (by kernel_rfl) (by kernel_rfl) (by kernel_rfl) (by kernel_rfl) ?_
  (refine gw ?_; refine Choice.mk ⟨false, Choice.mk ⟨false, _, _, n1, ?_⟩⟩)
  (refine gw ?_; refine IfB.ff (by rw [hom]; simp; omega) ?_)
  (refine gw ?_; refine Choice.mk ⟨false, Choice.mk ⟨false, _, _, a1, ?_⟩⟩)
  (refine gw ?_)
  first | exact RetN.mk ⟨[], rfl, rfl, rfl⟩ | exact RetN.fz ⟨[true], [], rfl, rfl, rfl⟩
theorem runF_len (r : Rw) {os : List X.O} (ho : ∀ o ∈ os, OpOk o) : (runF r os).1.length ≤ os.length := by
  have hok := newM_ok (r := r)
  unfold runF
  split
  · simp
  · rename_i h
    split
    · simp
    · rw [(allF_ok (hok (by simpa using h)) ho).2.2]; omega
theorem shpOps {n : Nat} {x : AV} (h : Shp T (n + 3) ts_api_Op x) : ∃ l : List X.O, x = .lst t_api_Op (l.map X.encO) ∧ l.length ≤ maxLen ∧ ∀ o ∈ l, OpOk o := shp_list (e := t_api_Op) X.encO OpOk (by kernel_rfl) h fun y hy => shpOp hy
end Go.Ev.W
namespace Go.Ev.X
open Go.Ev Go.Ev.N
open Go.Ev.W (i64)

theorem isO_of {l : List O} (h : ∀ o ∈ l, W.OpOk o) : ∀ o ∈ l, IsO o := fun o ho => (h o ho).b
/-- What bytes say. -/
def decF (bs : List Int) : W.Rw × List O × Bool := if bs.length < 16 then (⟨0, 0, 0, 0, 0, 0⟩, [], false) else (rawB bs, take (bs.drop 16), true)
theorem dec_told {bs : List Int} (hb : IsB bs) (hl : bs.length ≤ 1000000) : Told P T play_Decode [] [.lst t_uint8 (encB bs)] (.tup [W.eR (decF bs).1, .lst t_api_Op ((decF bs).2.1.map encO), .bool (decF bs).2.2]) [] := by
  unfold decF
  by_cases h : bs.length < 16
  · rw [if_pos h]; exact decode_short h
  · rw [if_neg h]; exact decode_told hb hl (by omega)
theorem dec17_told {bs : List Int} (hb : IsB bs) (hl : bs.length ≤ 1000000) : Told P T ref17_Decode [] [.lst t_uint8 (encB bs)] (.tup [W.eR (decF bs).1, .lst t_api_Op ((decF bs).2.1.map encO), .bool (decF bs).2.2]) [] := by
  unfold decF
  by_cases h : bs.length < 16
  · rw [if_pos h]; exact decode17_short hb h
  · rw [if_neg h]; exact decode17_told hb hl (by omega)
/-- What is taken of bytes may be. -/
structure Sm (o : O) : Prop where
  k : 0 ≤ o.k ∧ o.k ≤ 10
  p : 0 ≤ o.p ∧ o.p < 16777216
  s : 0 ≤ o.s ∧ o.s < 16777216
  a : 0 ≤ o.a ∧ o.a < 16777216
  n : 0 ≤ o.n ∧ o.n < 16777216
  b : 0 ≤ o.b ∧ o.b < 256
theorem Sm.ok {o : O} (h : Sm o) : W.OpOk o := ⟨by have := h.k; omega, by have := h.p; omega, by have := h.s; omega, by have := h.a; omega, by have := h.n; omega, h.b⟩
theorem setO_sm {o : O} (h : Sm o) (f : UInt8) {v : Int} (hv : 0 ≤ v ∧ v < 16777216) : Sm (setO o f v) := by
  obtain ⟨a, b, c, d, e, g⟩ := h
  unfold setO
  split
  · exact ⟨a, hv, c, d, e, g⟩
  · split
    · exact ⟨a, b, hv, d, e, g⟩
    · split
      · exact ⟨a, b, c, hv, e, g⟩
      · exact ⟨a, b, c, d, hv, g⟩
theorem fillO_sm : ∀ (fs : List UInt8) (bs : List Int) (o : O), IsB bs → Sm o → Sm (fillO fs bs o).1 ∧ ∀ r, (fillO fs bs o).2 = some r → IsB r
  | [], bs, o, hb, h => ⟨h, fun r hr => by simp [fillO] at hr; rw [← hr]; exact hb⟩
  | f :: fs, b0 :: b1 :: b2 :: bs, o, hb, h => by
    have h0 := hb b0 (by simp)
    have h1 := hb b1 (by simp)
    have h2 := hb b2 (by simp)
    exact fillO_sm fs bs _ (fun x hx => hb x (by simp [hx])) (setO_sm h f ⟨by unfold rd3; omega, by unfold rd3; omega⟩)
  | f :: fs, [], o, hb, h => ⟨h, fun r hr => by simp [fillO] at hr⟩
  | f :: fs, [_], o, hb, h => ⟨h, fun r hr => by simp [fillO] at hr⟩
  | f :: fs, [_, _], o, hb, h => ⟨h, fun r hr => by simp [fillO] at hr⟩
theorem one_sm {k : Int} (hk : 0 ≤ k ∧ k ≤ 10) {bs : List Int} (hb : IsB bs) : Sm (one k bs).1 := by
  have h := fillO_sm (fieldsOf k) bs ⟨k, 0, 0, 0, 0, 0⟩ hb ⟨hk, by simp, by simp, by simp, by simp, by simp⟩
  unfold one
  generalize fillO (fieldsOf k) bs ⟨k, 0, 0, 0, 0, 0⟩ = R at *
  obtain ⟨o, r⟩ := R
  cases r with
  | none => exact h.1
  | some r =>
    simp only
    split
    · exact h.1
    · cases r with
      | nil => exact h.1
      | cons b r =>
        obtain ⟨a1, a2, a3, a4, a5, a6⟩ := h.1
        exact ⟨a1, a2, a3, a4, a5, h.2 _ rfl b (by simp)⟩
theorem take_sm : ∀ (n : Nat) (bs : List Int), bs.length ≤ n → IsB bs → ∀ o ∈ take bs, Sm o
  | _, [], _, _ => fun o ho => by simp [take_nil] at ho
  | 0, b :: bs, h, _ => by simp at h
  | n + 1, b :: bs, h, hb => by
    have hl : bs.length ≤ n := by simpa using h
    have hb' : IsB bs := fun x hx => hb x (by simp [hx])
    intro o ho
    rw [take_cons] at ho
    split at ho
    · exact take_sm n bs hl hb' o ho
    · have h1 := one_sm (k := b % 11) (by omega) hb'
      generalize one (b % 11) bs = R at *
      obtain ⟨o1, m, ok⟩ := R
      cases ok with
      | false => simp at ho
      | true =>
        simp only [List.mem_cons] at ho
        rcases ho with rfl | ho
        · exact h1
        · exact take_sm n (bs.drop m) (by rw [List.length_drop]; omega) (fun x hx => hb' x (List.mem_of_mem_drop hx)) o ho
theorem take_ok (bs : List Int) (hb : IsB bs) : ∀ o ∈ take bs, W.OpOk o := fun o ho => (take_sm bs.length bs (Nat.le_refl _) hb o ho).ok
def playF (bs : List Int) : List W.An × Nat := if (decF bs).2.2 = false then ([], 2) else W.runF (decF bs).1 (decF bs).2.1
set_option maxRecDepth 20000 in
set_option maxHeartbeats 4000000 in
theorem playRun_told {bs : List Int} (hb : IsB bs) (hl : bs.length ≤ 1000000) : Told P T play_Run [] [.lst t_uint8 (encB bs)] (.tup [W.lA (playF bs).1, i64 ((playF bs).2 : Nat)]) [] := by
  have d1 := dec_told hb hl
  have hok : ∀ o ∈ (decF bs).2.1, W.OpOk o := by
    unfold decF
    split
    · intro o ho; simp at ho
    · exact take_ok _ fun x hx => hb x (List.mem_of_mem_drop hx)
  have r1 := W.runHeap_told (decF bs).1 hok
  unfold playF
  generalize decF bs = D at *
  obtain ⟨r, l, ok⟩ := D
  unfold W.lA at *
  cases ok with
  | false =>
    simp only [if_true]
    refine told_of_ev (fn := play_Run_fn) tabOk mixed (by kernel_rfl) (by kernel_rfl) (by kernel_rfl) (by kernel_rfl) ?_
    (refine gw ?_; refine Choice.mk ⟨false, Choice.mk ⟨false, _, _, d1, ?_⟩⟩)
    (refine gw ?_)
    exact RetN.fz ⟨[true], [], rfl, rfl, rfl⟩
  | true =>
    rw [if_neg (show ¬ (true = false) by decide)]
    refine told_of_ev (fn := play_Run_fn) tabOk mixed (by kernel_rfl) (by kernel_rfl) (by kernel_rfl) (by kernel_rfl) ?_
    (refine gw ?_; refine Choice.mk ⟨false, Choice.mk ⟨false, _, _, d1, ?_⟩⟩)
    (refine gw ?_; refine Choice.mk ⟨false, Choice.mk ⟨false, _, _, r1, ?_⟩⟩)
    (refine gw ?_; exact RetN.mk ⟨[], rfl, rfl, rfl⟩)
end Go.Ev.X
namespace Go.Ev.X
open Go.Ev Go.Ev.N
open Go.Ev.W (i64)

def rY : W.Rw := ⟨1, 4, 8, 4, 6, 9⟩
def oY : O := ⟨9, 0, 0, 0, 0, 0⟩
def bY : List Int := [0, 0, 1, 0, 0, 4, 0, 0, 8, 0, 0, 4, 0, 0, 6, 9, 9]
theorem encY : encF rY [oY] = bY := by decide +kernel
theorem decY : decF bY = (rY, [oY], true) := by decide +kernel
theorem playY : playF bY = ([W.an0], 0) := by decide +kernel
theorem bY_ok : IsB bY := by unfold IsB; decide
set_option maxRecDepth 20000 in
set_option maxHeartbeats 4000000 in
theorem begun27_told : Told P T law27_begun [] [] (.bool true) [] := by
  have c1 := encode_told rY (l := [oY]) (fun o ho => by simp at ho; subst ho; exact ⟨by decide, by decide⟩) (by simp)
  have c2 := dec_told bY_ok (by decide)
  have c3 := dec_told (bs := []) (fun x h => by simp at h) (by simp)
  have c4 := playRun_told bY_ok (by decide)
  have c5 := playRun_told (bs := []) (fun x h => by simp at h) (by simp)
  rw [encY] at c1
  rw [decY] at c2
  rw [playY] at c4
  rw [show decF [] = (⟨0, 0, 0, 0, 0, 0⟩, [], false) from rfl] at c3
  rw [show playF [] = ([], 2) from rfl] at c5
  refine told_of_ev (fn := law27_begun_fn) tabOk mixed (by kernel_rfl) (by kernel_rfl) (by kernel_rfl) (by kernel_rfl) ?_
  (refine gw ?_; refine Choice.mk ⟨false, Choice.mk ⟨false, _, _, c1, ?_⟩⟩)
  (refine gw ?_; refine Choice.mk ⟨false, Choice.mk ⟨false, _, _, c2, ?_⟩⟩)
  (refine gw ?_; refine Choice.mk ⟨false, Choice.mk ⟨false, _, _, c3, ?_⟩⟩)
  (refine gw ?_; refine Choice.mk ⟨false, Choice.mk ⟨false, _, _, c4, ?_⟩⟩)
  (refine gw ?_; refine Choice.mk ⟨false, Choice.mk ⟨false, _, _, c5, ?_⟩⟩)
  (refine gw ?_; exact RetN.mk ⟨[], rfl, rfl, rfl⟩)
theorem take_le : ∀ (n : Nat) (bs : List Int), bs.length ≤ n → (take bs).length ≤ n
  | _, [], h => by simp [take_nil]
  | 0, b :: bs, h => by simp at h
  | n + 1, b :: bs, h => by
    have hl : bs.length ≤ n := by simpa using h
    rw [take_cons]
    split
    · exact Nat.le_trans (take_le n bs hl) (by omega)
    · split
      · rename_i o m _
        have := take_le n (bs.drop m) (by rw [List.length_drop]; omega)
        simp; omega
      · simp
theorem bytesOf {bs : List Int} (hb : IsB bs) : ∃ s : ByteArray, encB bs = s.data.toList.map fun b => .int .u8 b.toNat := by
  refine ⟨⟨(bs.map fun b => UInt8.ofNat b.toNat).toArray⟩, ?_⟩
  simp only [encB, List.map_map]
  refine List.map_congr_left fun b h => ?_
  have := hb b h
  simp only [Function.comp]
  congr 1
  rw [UInt8.toNat_ofNat']
  omega
theorem isB_enc (r : W.Rw) {l : List O} (ho : ∀ o ∈ l, IsO o) : IsB (encF r l) := by
  intro x hx
  unfold encF at hx
  rcases List.mem_append.1 hx with h | h
  · simp only [headF, three, List.cons_append, List.nil_append, List.mem_cons, List.not_mem_nil, or_false] at h
    rcases h with h | h | h | h | h | h | h | h | h | h | h | h | h | h | h | h <;> (rw [h]; exact w8_range _)
  · unfold putAll at h
    obtain ⟨o, h1, h2⟩ := List.mem_flatMap.1 h
    split at h2
    · exact isB_put (ho o h1) x h2
    · simp at h2
set_option maxRecDepth 20000 in
set_option maxHeartbeats 8000000 in
theorem playAll_told {bs : List Int} (hb : IsB bs) (hlb : bs.length ≤ maxLen) (r : W.Rw) {l : List O} (ho : ∀ o ∈ l, W.OpOk o) (hl : l.length ≤ maxLen) : Told P T law27_PlayAll [] [.lst t_uint8 (encB bs), W.eR r, .lst t_api_Op (l.map encO)] (.bool true) [] := by
  have hub : (encB bs).length = bs.length := by simp [encB]
  have hul : (l.map encO).length = l.length := by simp
  unfold W.eR
  refine told_of_ev (fn := law27_PlayAll_fn) tabOk mixed (by kernel_rfl) (by kernel_rfl) (by kernel_rfl) (by kernel_rfl) ?_
  (refine gw ?_; refine Choice.mk ⟨false, Choice.mk ⟨false, _, _, begun27_told, ?_⟩⟩)
  by_cases h6 : bs.length > 100
  · (refine gw ?_; refine IfB.tt (by rw [hub]; simp; omega) ?_)
    (refine gw ?_; exact RetN.mk ⟨[], rfl, rfl, rfl⟩)
  (refine gw ?_; refine IfB.ff (by rw [hub]; simp; omega) ?_)
  by_cases h7 : l.length > 6
  · (refine gw ?_; refine IfB.tt (by rw [hul]; simp; omega) ?_)
    (refine gw ?_; exact RetN.mk ⟨[], rfl, rfl, rfl⟩)
  (refine gw ?_; refine IfB.ff (by rw [hul]; simp; omega) ?_)
  have d1 := dec_told hb (by omega)
  have d2 := dec17_told hb (by omega)
  have p1 := playRun_told hb (by omega)
  have hok : ∀ o ∈ (decF bs).2.1, W.OpOk o := by
    unfold decF
    split
    · intro o ho; simp at ho
    · exact take_ok _ fun x hx => hb x (List.mem_of_mem_drop hx)
  have hol : (decF bs).2.1.length ≤ 100 := by
    unfold decF
    split
    · simp
    · exact take_le 100 _ (by rw [List.length_drop]; omega)
  have r2 := W.run17_told (decF bs).1 hok (by omega)
  have hrl := W.runF_len (decF bs).1 hok
  have e1 := encode_told r (isO_of ho) (by omega)
  have e2 := encode17_told r (isO_of ho) (by omega)
  obtain ⟨s, hs⟩ := bytesOf (isB_enc r (isO_of ho))
  have s1 := sameOps (decF bs).2.1 (decF bs).2.1 (by omega)
  rw [decide_eq_true rfl] at s1
  unfold playF at p1
  unfold W.eR W.lA at *
  generalize decF bs = D at *
  obtain ⟨r0, os, ok⟩ := D
  (refine gw ?_; refine Choice.mk ⟨false, Choice.mk ⟨false, _, _, d1, ?_⟩⟩)
  (refine gw ?_; refine Choice.mk ⟨false, Choice.mk ⟨false, _, _, d2, ?_⟩⟩)
  (refine gw ?_; refine Choice.mk ⟨false, Choice.mk ⟨false, _, _, s1, ?_⟩⟩)
  (refine gw ?_; refine Choice.mk ⟨false, Choice.mk ⟨false, _, _, e1, ?_⟩⟩)
  (refine gw ?_)
  refine Bytes.mk ⟨s, hs, ?_⟩
  (refine gw ?_; refine Choice.mk ⟨false, Choice.mk ⟨false, _, _, e2, ?_⟩⟩)
  (refine gw ?_)
  refine Bytes.mk ⟨s, hs, ?_⟩
  (refine gw ?_)
  trace_state
  cases ok with
  | false =>
    rw [if_pos rfl] at p1
    (refine gw ?_; refine Choice.mk ⟨false, Choice.mk ⟨false, _, _, p1, ?_⟩⟩)
    (refine gw ?_; exact RetN.mk ⟨[], rfl, rfl, rfl⟩)
  | true =>
    rw [if_neg (show ¬ (true = false) by decide)] at p1
    have s2 := W.sameAnsR (W.runF r0 os).1 (by simp only at hrl hol; omega)
    (refine gw ?_; refine Choice.mk ⟨false, Choice.mk ⟨false, _, _, p1, ?_⟩⟩)
    (refine gw ?_; refine Choice.mk ⟨false, Choice.mk ⟨false, _, _, r2, ?_⟩⟩)
    (refine gw ?_; refine Choice.mk ⟨false, Choice.mk ⟨false, _, _, s2, ?_⟩⟩)
    (refine gw ?_; exact RetN.mk ⟨[], rfl, rfl, rfl⟩)
theorem encBN (l : List Nat) : encB (l.map fun n : Nat => (n : Int)) = l.map W.u8 := by simp [encB, W.u8]
theorem isBN {l : List Nat} (h : W.IsB l) : IsB (l.map fun n : Nat => (n : Int)) := fun x hx => by
  obtain ⟨n, hn, rfl⟩ := List.mem_map.1 hx
  have := h n hn; omega
theorem playAll {x0 x1 x2 : AV} (h0 : Shp T 8 ts_uint8 x0) (h1 : Shp T 8 t_api_Raw x1) (h2 : Shp T 8 ts_api_Op x2) : Told P T law27_PlayAll [] [x0, x1, x2] (.bool true) [] := by
  obtain ⟨a, rfl, ha, hla⟩ := W.shp_bytes h0
  obtain ⟨r, rfl⟩ := W.shpRaw h1
  obtain ⟨l, rfl, hll, hl⟩ := W.shpOps h2
  have := playAll_told (isBN ha) (by simpa using hla) r hl hll
  rw [encBN] at this
  exact this
end Go.Ev.X
namespace Go.Ev.X
open Go.Ev Go.Ev.N
def rdv (v : Int) : Int := rd3 (v / 65536 % 256) (v / 256 % 256) (v % 256)
theorem rdv_own {v : Int} (h : 0 ≤ v ∧ v < 16777216) : rdv v = v := by unfold rdv rd3; omega
theorem rdv_nonneg (v : Int) : 0 ≤ rdv v := by unfold rdv rd3; omega
def own (o : O) : O := if o.k = 8 then { setAll (getO o) (fieldsOf o.k) ⟨o.k, 0, 0, 0, 0, 0⟩ with b := o.b } else setAll (getO o) (fieldsOf o.k) ⟨o.k, 0, 0, 0, 0, 0⟩
theorem own_eq {o : O} (hk : w8 o.k % 11 = o.k) (h0 : o.k ≠ 0) : take (putO o) = [own o] := by
  have e : putO o = w8 o.k :: (((fieldsOf o.k).flatMap fun f => three (getO o f)) ++ ((if o.k = 8 then [o.b] else []) ++ [])) := by
    unfold putO; rw [List.append_nil]; rfl
  have hw : w8 o.k % 11 ≠ 0 := by rw [hk]; exact h0
  rw [e, take_cons, if_neg hw, hk, one_own]
  simp only [List.append_nil]
  rw [List.drop_of_length_le (by simp), take_nil]
  rfl
theorem own_k {k p s a n b : Int} (h : 1 ≤ k ∧ k ≤ 10) : own ⟨k, p, s, a, n, b⟩ = ⟨k, if 4 ≤ k ∧ k ≤ 8 then rdv p else 0, if k ≤ 4 then rdv s else 0, if k = 3 then rdv a else 0, if k = 2 ∨ k = 7 ∨ k = 8 then rdv n else 0, if k = 8 then b else 0⟩ := by
  rcases (by omega : k = 1 ∨ k = 2 ∨ k = 3 ∨ k = 4 ∨ k = 5 ∨ k = 6 ∨ k = 7 ∨ k = 8 ∨ k = 9 ∨ k = 10) with h | h | h | h | h | h | h | h | h | h <;> subst h <;> rfl
theorem w8_k {k : Int} (h : 1 ≤ k ∧ k ≤ 10) : w8 k = k := by rw [w8_mod]; omega
end Go.Ev.X
namespace Go.Ev.W
open Go.Ev Go.Ev.N
def nnO (o : X.O) : Bool := decide (0 ≤ o.p) && (decide (0 ≤ o.s) && (decide (0 ≤ o.a) && decide (0 ≤ o.n)))
theorem good_iff {c : Cf} (hc : c.Ok) {o : X.O} (h : OpG c o) : X.Good o ↔ nnO o = true := by
  have hN := hc.nM
  have hM := hc.mH
  obtain ⟨hk, hp, hs, ha, hn, hb, p0, s0, a0, n0, b0⟩ := h
  obtain ⟨k, p, s, a, n, b⟩ := o
  simp only at *
  have e := X.own_k (p := p) (s := s) (a := a) (n := n) (b := b) hk
  have h8 := X.w8_k hk
  unfold X.Good nnO
  rw [X.own_eq (o := ⟨k, p, s, a, n, b⟩) (by rw [h8]; show k % 11 = k; omega) (by show k ≠ 0; omega), e]
  simp only [Bool.and_eq_true, decide_eq_true_eq, List.cons.injEq, and_true, X.O.mk.injEq, true_and]
  have r1 := X.rdv_nonneg p
  have r2 := X.rdv_nonneg s
  have r3 := X.rdv_nonneg a
  have r4 := X.rdv_nonneg n
  have q1 := fun h => X.rdv_own (v := p) h
  have q2 := fun h => X.rdv_own (v := s) h
  have q3 := fun h => X.rdv_own (v := a) h
  have q4 := fun h => X.rdv_own (v := n) h
  generalize X.rdv p = rp at *
  generalize X.rdv s = rs at *
  generalize X.rdv a = ra at *
  generalize X.rdv n = rn at *
  constructor
  · rintro ⟨h1, h2, h3, h4, h5⟩
    split at h1 <;> split at h2 <;> split at h3 <;> split at h4 <;> omega
  · rintro ⟨h1, h2, h3, h4⟩
    have q1 := q1 ⟨h1, by omega⟩
    have q2 := q2 ⟨h2, by omega⟩
    have q3 := q3 ⟨h3, by omega⟩
    have q4 := q4 ⟨h4, by omega⟩
    refine ⟨?_, ?_, ?_, ?_, ?_⟩
    all_goals split <;> omega
end Go.Ev.W
namespace Go.Ev.X
open Go.Ev Go.Ev.N
open Go.Ev.W (i64)

theorem rd_three {v : Int} (h : 0 ≤ v ∧ v < 16777216) : rd3 (v / 65536 % 256) (v / 256 % 256) (v % 256) = v := by unfold rd3; omega
theorem enc_dec {r : W.Rw} (h : W.RwS r) (l : List O) : decF (encF r l) = (r, take (putAll l), true) := by
  have hl : ¬ (encF r l).length < 16 := by unfold encF; rw [List.length_append, headF_len]; omega
  unfold decF
  rw [if_neg hl]
  have hd : (encF r l).drop 16 = putAll l := by
    unfold encF
    rw [List.drop_append, headF_len, List.drop_of_length_le (by rw [headF_len]; exact Nat.le_refl _)]; rfl
  rw [hd]
  have hr : rawB (encF r l) = r := by
    obtain ⟨g, gl, m, p, b, s⟩ := r
    obtain ⟨h1, h2, h3, h4, h5, h6⟩ := h
    simp only at h1 h2 h3 h4 h5 h6
    have e : ∀ j, j < 16 → (encF ⟨g, gl, m, p, b, s⟩ l).getD j 0 = (headF ⟨g, gl, m, p, b, s⟩).getD j 0 := fun j hj => by
      unfold encF
      rw [List.getD_eq_getElem?_getD, List.getD_eq_getElem?_getD, List.getElem?_append_left (by rw [headF_len]; exact hj)]
    unfold rawB rw3
    rw [e _ (by omega), e _ (by omega), e _ (by omega), e _ (by omega), e _ (by omega), e _ (by omega), e _ (by omega), e _ (by omega), e _ (by omega), e _ (by omega), e _ (by omega), e _ (by omega), e _ (by omega), e _ (by omega), e _ (by omega), e _ (by omega)]
    unfold headF
    simp only [three_eq, w8_mod]
    simp only [List.cons_append, List.nil_append, W.Rw.mk.injEq]
    exact ⟨rd_three (by omega), rd_three (by omega), rd_three (by omega), rd_three (by omega), rd_three (by omega), by show s % 256 = s; omega⟩
  rw [hr]
theorem enc_len (r : W.Rw) (l : List O) : (encF r l).length ≤ 16 + 8 * l.length := by
  unfold encF
  have := putAll_le l
  rw [List.length_append, headF_len]; omega
theorem put_filter : ∀ {l : List O}, (∀ o ∈ l, ∃ c : W.Cf, c.Ok ∧ W.OpG c o) → putAll l = putAll (l.filter W.nnO) ∧ ∀ o ∈ l.filter W.nnO, Good o
  | [], _ => ⟨rfl, fun o h => by simp at h⟩
  | o :: l, h => by
    obtain ⟨i1, i2⟩ := put_filter (l := l) fun x hx => h x (by simp [hx])
    obtain ⟨c, hc, ho⟩ := h o (by simp)
    have hg := W.good_iff hc ho
    have e2 : putAll (o :: l) = (if take (putO o) = [o] then putO o else []) ++ putAll l := by unfold putAll; rw [List.flatMap_cons]
    by_cases hn : W.nnO o = true
    · have hgo := hg.2 hn
      rw [List.filter_cons_of_pos hn, putAll_cons hgo, putAll_cons hgo, i1]
      exact ⟨rfl, fun x hx => by
        rcases List.mem_cons.1 hx with rfl | hx
        · exact hgo
        · exact i2 x hx⟩
    · rw [List.filter_cons_of_neg hn, e2, if_neg (show ¬ take (putO o) = [o] from fun hh => hn (hg.1 hh)), List.nil_append]
      exact ⟨i1, i2⟩
theorem take_filter {l : List O} (h : ∀ o ∈ l, ∃ c : W.Cf, c.Ok ∧ W.OpG c o) : take (putAll l) = l.filter W.nnO := by
  obtain ⟨h1, h2⟩ := put_filter h
  have := putAll_good h2 []
  rw [List.append_nil, take_nil, List.append_nil] at this
  rw [h1, this]
end Go.Ev.X
namespace Go.Ev.W
open Go.Ev Go.Ev.N
set_option maxRecDepth 20000 in
set_option maxHeartbeats 8000000 in
theorem playRuns_told {a b : List Nat} (ha : IsB a) (hla : a.length ≤ maxLen) (hb : IsB b) (hlb : b.length ≤ maxLen) : Told P T law27_PlayRuns [] [lB a, lB b] (.bool true) [] := by
  have hua : (a.map u8).length = a.length := by simp
  have hub : (b.map u8).length = b.length := by simp
  have oka : (⟨a, 0⟩ : Pk).Ok := ⟨ha, Nat.zero_le _, hla⟩
  have okb : (⟨b, 0⟩ : Pk).Ok := ⟨hb, Nat.zero_le _, hlb⟩
  have t1 := raw_told ⟨a, 0⟩ oka false
  have hrs := rawF_s ⟨a, 0⟩ false
  generalize rawF ⟨a, 0⟩ false = R at *
  obtain ⟨r, pa⟩ := R
  have hrs : RwS r := hrs
  have o1 := ops_told r (n := 40) (by omega) okb
  have oo := opsA_op (r := r) (n := 40) okb
  have ol := (opsA_ok (r := r) 40 okb).2.1
  generalize opsA r 40 ⟨b, 0⟩ = A at *
  obtain ⟨os, pb⟩ := A
  have o1 : Told P T mk_Picks_Ops [pkB ⟨b, 0⟩] [.ptr 0 0 0, eR r, i64 40] (.lst t_api_Op (os.map X.encO)) [pkB pb] := o1
  have hom : (os.map X.encO).length = os.length := by simp
  have oo : ∀ o ∈ os, OpOk o := oo
  have ol : os.length ≤ 40 := ol
  have hio := X.isO_of oo
  have hbe := X.isB_enc r hio
  have hel := X.enc_len r os
  have e1 := X.encode_told r hio (by omega)
  have e2 := X.encode17_told r hio (by omega)
  have p1 := X.playRun_told hbe (by omega)
  have d2 := X.dec17_told hbe (by omega)
  have hok : ∀ o ∈ X.take (X.putAll os), OpOk o := X.take_ok _ fun x hx => hbe x (by unfold X.encF; exact List.mem_append_right _ hx)
  have htl : (X.take (X.putAll os)).length ≤ 400 := X.take_le 400 _ (by have := X.putAll_le os; omega)
  have r2 := run17_told r hok (by omega)
  have hrl := runF_len r hok
  unfold X.playF at p1
  rw [X.enc_dec hrs os] at d2 p1
  rw [if_neg (show ¬ (true = false) by decide)] at p1
  simp only at p1 d2
  have s1 := sameAnsR (runF r (X.take (X.putAll os))).1 (by omega)
  generalize X.encF r os = bs at *
  generalize X.take (X.putAll os) = l2 at *
  generalize runF r l2 = F at *
  unfold lA eR at *
  refine told_of_ev (fn := law27_PlayRuns_fn) tabOk mixed (by kernel_rfl) (by kernel_rfl) (by kernel_rfl) (by kernel_rfl) ?_
  (refine gw ?_; refine Choice.mk ⟨false, Choice.mk ⟨false, _, _, X.begun27_told, ?_⟩⟩)
  by_cases h6 : a.length > 6
  · (refine gw ?_; refine IfB.tt (by rw [hua]; simp; omega) ?_)
    (refine gw ?_; exact RetN.mk ⟨[], rfl, rfl, rfl⟩)
  (refine gw ?_; refine IfB.ff (by rw [hua]; simp; omega) ?_)
  by_cases h7 : b.length > 150
  · (refine gw ?_; refine IfB.tt (by rw [hub]; simp; omega) ?_)
    (refine gw ?_; exact RetN.mk ⟨[], rfl, rfl, rfl⟩)
  (refine gw ?_; refine IfB.ff (by rw [hub]; simp; omega) ?_)
  (refine gw ?_; refine Choice.mk ⟨false, Choice.mk ⟨false, _, _, made_told a, ?_⟩⟩)
  (refine gw ?_; refine Choice.mk ⟨true, Choice.mk ⟨false, _, _, t1, ?_⟩⟩)
  (refine gw ?_; refine Choice.mk ⟨false, Choice.mk ⟨false, _, _, made_told b, ?_⟩⟩)
  (refine gw ?_; refine Choice.mk ⟨true, Choice.mk ⟨false, _, _, o1, ?_⟩⟩)
  (refine gw ?_; refine Choice.mk ⟨false, Choice.mk ⟨false, _, _, e1, ?_⟩⟩)
  (refine gw ?_; refine Choice.mk ⟨false, Choice.mk ⟨false, _, _, p1, ?_⟩⟩)
  (refine gw ?_; refine Choice.mk ⟨false, Choice.mk ⟨false, _, _, e2, ?_⟩⟩)
  (refine gw ?_; refine Choice.mk ⟨false, Choice.mk ⟨false, _, _, d2, ?_⟩⟩)
  (refine gw ?_; refine Choice.mk ⟨false, Choice.mk ⟨false, _, _, r2, ?_⟩⟩)
  (refine gw ?_; refine Choice.mk ⟨false, Choice.mk ⟨false, _, _, s1, ?_⟩⟩)
  (refine gw ?_; exact RetN.mk ⟨[], rfl, rfl, rfl⟩)
theorem playRuns {x0 x1 : AV} (h0 : Shp T 8 ts_uint8 x0) (h1 : Shp T 8 ts_uint8 x1) : Told P T law27_PlayRuns [] [x0, x1] (.bool true) [] := by
  obtain ⟨a, rfl, ha, hla⟩ := shp_bytes h0
  obtain ⟨b, rfl, hb, hlb⟩ := shp_bytes h1
  exact playRuns_told ha hla hb hlb
end Go.Ev.W
namespace Go.Ev.W
open Go.Ev Go.Ev.N
set_option maxRecDepth 20000 in
set_option maxHeartbeats 8000000 in
theorem playBack_told {a b : List Nat} (ha : IsB a) (hla : a.length ≤ maxLen) (hb : IsB b) (hlb : b.length ≤ maxLen) : Told P T law27_PlayBack [] [lB a, lB b] (.bool true) [] := by
  have hua : (a.map u8).length = a.length := by simp
  have hub : (b.map u8).length = b.length := by simp
  have oka : (⟨a, 0⟩ : Pk).Ok := ⟨ha, Nat.zero_le _, hla⟩
  have okb : (⟨b, 0⟩ : Pk).Ok := ⟨hb, Nat.zero_le _, hlb⟩
  have t1 := raw_told ⟨a, 0⟩ oka false
  have hrs := rawF_s ⟨a, 0⟩ false
  generalize rawF ⟨a, 0⟩ false = R at *
  obtain ⟨r, pa⟩ := R
  have hrs : RwS r := hrs
  have o1 := ops_told r (n := 30) (by omega) okb
  have oo := opsA_op (r := r) (n := 30) okb
  have og := (opsA_ok (r := r) 30 okb).2.2
  have ol := (opsA_ok (r := r) 30 okb).2.1
  generalize opsA r 30 ⟨b, 0⟩ = A at *
  obtain ⟨os, pb⟩ := A
  have o1 : Told P T mk_Picks_Ops [pkB ⟨b, 0⟩] [.ptr 0 0 0, eR r, i64 30] (.lst t_api_Op (os.map X.encO)) [pkB pb] := o1
  have hom : (os.map X.encO).length = os.length := by simp
  have oo : ∀ o ∈ os, OpOk o := oo
  have ol : os.length ≤ 30 := ol
  have hio := X.isO_of oo
  have hbe := X.isB_enc r hio
  have hel := X.enc_len r os
  have hel2 : 16 ≤ (X.encF r os).length := by unfold X.encF; rw [List.length_append, X.headF_len]; omega
  have e1 := X.encode_told r hio (by omega)
  have d2 := X.dec_told hbe (by omega)
  have hbt : X.IsB ((X.encF r os).take 15) := fun x hx => hbe x (List.mem_of_mem_take hx)
  have d3 := X.dec_told hbt (by rw [List.length_take]; omega)
  have hd3 : X.decF ((X.encF r os).take 15) = (⟨0, 0, 0, 0, 0, 0⟩, [], false) := by unfold X.decF; rw [if_pos (by rw [List.length_take]; omega)]
  rw [hd3] at d3
  have htf := X.take_filter og
  simp only at htf
  rw [X.enc_dec hrs os, htf] at d2
  have hfl : (os.filter nnO).length ≤ 30 := Nat.le_trans (List.length_filter_le _ _) ol
  have s1 := X.sameOps (os.filter nnO) (os.filter nnO) (by omega)
  rw [decide_eq_true rfl] at s1
  have het : (X.encB (X.encF r os)).length = (X.encF r os).length := by simp [X.encB]
  have hent : X.encB ((X.encF r os).take 15) = (X.encB (X.encF r os)).take 15 := by simp [X.encB, List.map_take]
  rw [hent] at d3
  generalize X.encF r os = bs at *
  unfold eR at *
  refine told_of_ev (fn := law27_PlayBack_fn) tabOk mixed (by kernel_rfl) (by kernel_rfl) (by kernel_rfl) (by kernel_rfl) ?_
  (refine gw ?_; refine Choice.mk ⟨false, Choice.mk ⟨false, _, _, X.begun27_told, ?_⟩⟩)
  by_cases h6 : a.length > 6
  · (refine gw ?_; refine IfB.tt (by rw [hua]; simp; omega) ?_)
    (refine gw ?_; exact RetN.mk ⟨[], rfl, rfl, rfl⟩)
  (refine gw ?_; refine IfB.ff (by rw [hua]; simp; omega) ?_)
  by_cases h7 : b.length > 100
  · (refine gw ?_; refine IfB.tt (by rw [hub]; simp; omega) ?_)
    (refine gw ?_; exact RetN.mk ⟨[], rfl, rfl, rfl⟩)
  (refine gw ?_; refine IfB.ff (by rw [hub]; simp; omega) ?_)
  (refine gw ?_; refine Choice.mk ⟨false, Choice.mk ⟨false, _, _, made_told a, ?_⟩⟩)
  (refine gw ?_; refine Choice.mk ⟨true, Choice.mk ⟨false, _, _, t1, ?_⟩⟩)
  (refine gw ?_; refine Choice.mk ⟨false, Choice.mk ⟨false, _, _, made_told b, ?_⟩⟩)
  (refine gw ?_; refine Choice.mk ⟨true, Choice.mk ⟨false, _, _, o1, ?_⟩⟩)
  (refine gw ?_; refine Choice.mk ⟨false, Choice.mk ⟨false, _, _, e1, ?_⟩⟩)
  (refine gw ?_; refine Choice.mk ⟨false, Choice.mk ⟨false, _, _, d2, ?_⟩⟩)
  (refine gw ?_; refine LoopN.mk ⟨[5,6,7,8,9,10,11,12], fun vs L => ∃ (k : Nat), vs = [.ptr 0 0 0, .lst t_api_Op (os.map X.encO), .lst t_uint8 (X.encB bs), .ptr 1 0 0, .lst t_api_Op ((os.filter nnO).map X.encO), .bool true, .ref 2, i64 k] ∧ L = [.var (eR r), .var (eR r), .row t_api_Op (((os.take k).filter nnO).map X.encO)] ∧ k ≤ os.length, fun vs L => match vs with | [_, _, _, _, _, _, _, .int _ i] => os.length - i.toNat | _ => 0, [], [1,3,4], rfl, ⟨0, rfl, rfl, by omega⟩, ?_⟩)
  rintro vs L ⟨k, rfl, rfl, hk⟩
  by_cases hko : k < os.length
  · have hst : (os.take (k + 1)).filter nnO = (os.take k).filter nnO ++ [os[k]].filter nnO := by rw [List.take_succ_eq_append_getElem hko, List.filter_append]
    have hlk : (((os.take k).filter nnO).map X.encO).length ≤ 30 := by
      rw [List.length_map]
      refine Nat.le_trans (List.length_filter_le _ _) ?_
      rw [List.length_take]; omega
    have hma : nnO os[k] = true → ((os.take (k + 1)).filter nnO).map X.encO = ((os.take k).filter nnO).map X.encO ++ [X.encO os[k]] := fun h => by rw [hst, List.filter_cons_of_pos h]; simp
    have hmb : ¬ nnO os[k] = true → (os.take (k + 1)).filter nnO = (os.take k).filter nnO := fun h => by rw [hst, List.filter_cons_of_neg h]; simp
    (refine gw ?_; refine IfB.tt (by rw [hom]; simp; omega) ?_)
    (refine gw ?_; refine idx_map (hko) ?_)
    generalize os[k] = o at *
    by_cases c1 : o.p ≥ 0
    case neg =>
      have hmb := hmb (by unfold nnO; simp; omega)
      (refine gw ?_; refine IfB.ff (by simp; omega) ?_)
      (refine gw ?_; refine ⟨[], [0,1,2], rfl, ⟨k + 1, rfl, by rw [hmb]; rfl, hko⟩, (by omega : os.length - ((k : Int) + 1).toNat < os.length - (k : Int).toNat)⟩)
    by_cases c2 : o.s ≥ 0
    case neg =>
      have hmb := hmb (by unfold nnO; simp; omega)
      (refine gw ?_; refine IfB.tt (by simp; omega) ?_)
      (refine gw ?_; refine IfB.ff (by simp; omega) ?_)
      (refine gw ?_; refine ⟨[], [0,1,2], rfl, ⟨k + 1, rfl, by rw [hmb]; rfl, hko⟩, (by omega : os.length - ((k : Int) + 1).toNat < os.length - (k : Int).toNat)⟩)
    by_cases c3 : o.a ≥ 0
    case neg =>
      have hmb := hmb (by unfold nnO; simp; omega)
      (refine gw ?_; refine IfB.tt (by simp; omega) ?_)
      (refine gw ?_; refine IfB.tt (by simp; omega) ?_)
      (refine gw ?_; refine IfB.ff (by simp; omega) ?_)
      (refine gw ?_; refine ⟨[], [0,1,2], rfl, ⟨k + 1, rfl, by rw [hmb]; rfl, hko⟩, (by omega : os.length - ((k : Int) + 1).toNat < os.length - (k : Int).toNat)⟩)
    by_cases c4 : o.n ≥ 0
    case neg =>
      have hmb := hmb (by unfold nnO; simp; omega)
      (refine gw ?_; refine IfB.tt (by simp; omega) ?_)
      (refine gw ?_; refine IfB.tt (by simp; omega) ?_)
      (refine gw ?_; refine IfB.tt (by simp; omega) ?_)
      (refine gw ?_; refine IfB.ff (by simp; omega) ?_)
      (refine gw ?_; refine ⟨[], [0,1,2], rfl, ⟨k + 1, rfl, by rw [hmb]; rfl, hko⟩, (by omega : os.length - ((k : Int) + 1).toNat < os.length - (k : Int).toNat)⟩)
    have hma := hma (by unfold nnO; simp; omega)
    (refine gw ?_; refine IfB.tt (by simp; omega) ?_)
    (refine gw ?_; refine IfB.tt (by simp; omega) ?_)
    (refine gw ?_; refine IfB.tt (by simp; omega) ?_)
    (refine gw ?_; refine IfB.tt (by simp; omega) ?_)
    (refine gw ?_; refine Room.mk (by simp at hlk ⊢; omega) ?_)
    (refine gw ?_; refine ⟨[], [0,1,5], rfl, ⟨k + 1, rfl, by rw [hma]; rfl, hko⟩, (by omega : os.length - ((k : Int) + 1).toNat < os.length - (k : Int).toNat)⟩)
  obtain rfl : k = os.length := by omega
  rw [List.take_length]
  (refine gw ?_)
  rw [if_pos (show (15 : Int) < ((X.encB bs).length : Nat) by rw [het]; omega)]
  refine Cut.mk (by omega) (by omega) (by rw [het]; omega) ?_
  (refine gw ?_; refine Choice.mk ⟨false, Choice.mk ⟨false, _, _, d3, ?_⟩⟩)
  (refine gw ?_; refine Choice.mk ⟨false, Choice.mk ⟨false, _, _, s1, ?_⟩⟩)
  (refine gw ?_; exact RetN.mk ⟨[], rfl, rfl, rfl⟩)
theorem playBack {x0 x1 : AV} (h0 : Shp T 8 ts_uint8 x0) (h1 : Shp T 8 ts_uint8 x1) : Told P T law27_PlayBack [] [x0, x1] (.bool true) [] := by
  obtain ⟨a, rfl, ha, hla⟩ := shp_bytes h0
  obtain ⟨b, rfl, hb, hlb⟩ := shp_bytes h1
  exact playBack_told ha hla hb hlb
end Go.Ev.W
