/- Words and lemmas, part 5, for laws of this seat (a part of their proofs). -/
import Derived.Test.YtbhjocgepgpnmaaGreatC4
set_option linter.unusedVariables false
set_option linter.unusedSimpArgs false
namespace Go.Ev.W
open Go.Ev Go.Ev.N

open Classical in
noncomputable def opO (m : Mo) (p : Pk) : X.O := if h : MoOk m ∧ p.Ok then (op_told h.1.c h.1.a p h.2).choose else ⟨0, 0, 0, 0, 0, 0⟩
open Classical in
noncomputable def opP (m : Mo) (p : Pk) : Pk := if h : MoOk m ∧ p.Ok then (op_told h.1.c h.1.a p h.2).choose_spec.choose else p
theorem opO_spec {m : Mo} (hm : MoOk m) {p : Pk} (ok : p.Ok) : Told P T mk_Picks_Op [pkB p] [.ptr 0 0 0, eC m.c, lK m.bs] (X.encO (opO m p)) [pkB (opP m p)] ∧ (opP m p).Ok ∧ OpG m.c (opO m p) := by
  unfold opO opP
  rw [dif_pos ⟨hm, ok⟩, dif_pos ⟨hm, ok⟩]
  exact (op_told hm.c hm.a p ok).choose_spec.choose_spec
noncomputable def opsF : Nat → Mo → Pk → List X.O × Pk
  | 0, _, p => ([], p)
  | n + 1, m, p => if p.over = true then ([], p) else (opO m p :: (opsF n (doF m (opO m p)).1 (opP m p)).1, (opsF n (doF m (opO m p)).1 (opP m p)).2)
noncomputable def opsA (r : Rw) (n : Nat) (p : Pk) : List X.O × Pk := if (newM r).2 ≠ 0 then ([], p) else opsF n (newM r).1 p
theorem opsF_ok : ∀ (n : Nat) {m : Mo} {p : Pk}, MoOk m → p.Ok → (opsF n m p).2.Ok ∧ (opsF n m p).1.length ≤ n ∧ ∀ o ∈ (opsF n m p).1, OpG m.c o
  | 0, m, p, hm, ok => ⟨ok, by simp [opsF], by simp [opsF]⟩
  | n + 1, m, p, hm, ok => by
    unfold opsF
    split
    · exact ⟨ok, by simp, by simp⟩
    · obtain ⟨_, h2, h3⟩ := opO_spec hm ok
      have hd := doF_ok hm (h3.ok hm.c)
      obtain ⟨a, b, c⟩ := opsF_ok n hd.1 h2
      rw [hd.2] at c
      refine ⟨a, by simp; exact b, fun o ho => ?_⟩
      rcases List.mem_cons.1 ho with rfl | ho
      · exact h3
      · exact c o ho
theorem opsA_ok {r : Rw} (n : Nat) {p : Pk} (ok : p.Ok) : (opsA r n p).2.Ok ∧ (opsA r n p).1.length ≤ n ∧ ∀ o ∈ (opsA r n p).1, ∃ c : Cf, c.Ok ∧ OpG c o := by
  unfold opsA
  split
  · exact ⟨ok, by simp, by simp⟩
  · rename_i h
    have hm := newM_ok (Decidable.of_not_not h)
    obtain ⟨a, b, c⟩ := opsF_ok n hm ok
    exact ⟨a, b, fun o ho => ⟨_, hm.c, c o ho⟩⟩
set_option maxRecDepth 20000 in
set_option maxHeartbeats 8000000 in
theorem ops_told (r : Rw) {n : Nat} (hn : n ≤ 100000) {p : Pk} (ok : p.Ok) : Told P T mk_Picks_Ops [pkB p] [.ptr 0 0 0, eR r, i64 n] (.lst t_api_Op ((opsA r n p).1.map X.encO)) [pkB (opsA r n p).2] := by
  have c1 := new17_told r
  have hm0 := newM_ok (r := r)
  unfold opsA
  generalize newM r = M at *
  obtain ⟨m0, e⟩ := M
  by_cases he : e = 0
  · subst he
    have hm0 : MoOk m0 := hm0 rfl
    have c1 : Told P T ref17_New [] [eR r] (.tup [eM m0, i64 ((0 : Nat) : Int)]) [] := c1
    simp only [ne_eq, not_true_eq_false, if_false]
    refine told_of_ev (fn := mk_Picks_Ops_fn) tabOk mixed (by kernel_rfl) (by kernel_rfl) (by kernel_rfl) (by kernel_rfl) ?_
    (refine gw ?_; refine Choice.mk ⟨false, Choice.mk ⟨false, _, _, c1, ?_⟩⟩)
    (refine gw ?_; refine LoopN.mk ⟨[0,2,7,9,10], fun vs L => ∃ (k : Nat) (q : Pk) (m : Mo) (os : List X.O), vs = [.ptr 0 0 0, i64 n, .ptr 1 0 0, .ref 2, i64 k] ∧ L = [pkB q, .var (eM m), .row t_api_Op (os.map X.encO)] ∧ k ≤ n ∧ os.length = k ∧ q.Ok ∧ MoOk m ∧ opsF n m0 p = (os ++ (opsF (n - k) m q).1, (opsF (n - k) m q).2), fun vs L => match vs with | [_, _, _, _, .int _ i] => n - i.toNat | _ => 0, [], [3,7], rfl, ⟨0, p, m0, [], rfl, rfl, by omega, rfl, ok, hm0, rfl⟩, ?_⟩)
    rintro vs L ⟨k, q, m, os, rfl, rfl, hk, hos, okq, hm, he⟩
    have hom : (os.map X.encO).length = k := by rw [List.length_map]; exact hos
    by_cases hkn : k < n
    · obtain ⟨t1, t2, t3⟩ := opO_spec hm okq
      have hd := doF_ok hm (t3.ok hm.c)
      have t4 := do17_told hm (t3.ok hm.c)
      have hsf : opsF (n - k) m q = if q.over = true then ([], q) else (opO m q :: (opsF (n - (k + 1)) (doF m (opO m q)).1 (opP m q)).1, (opsF (n - (k + 1)) (doF m (opO m q)).1 (opP m q)).2) := by
        rw [show n - k = (n - (k + 1)) + 1 by omega]; rfl
      clear c1
      generalize opO m q = o at *
      generalize opP m q = q' at *
      generalize doF m o = D at *
      obtain ⟨m', an'⟩ := D
      have hma : (os ++ [o]).map X.encO = os.map X.encO ++ [X.encO o] := by simp
      simp only at hsf hd t4
      (refine gw ?_; refine IfB.tt (by simp; omega) ?_)
      (refine gw ?_; refine Choice.mk ⟨true, Choice.mk ⟨false, _, _, over_told' q, ?_⟩⟩)
      cases hov : q.over with
      | true =>
        rw [hov, if_pos rfl] at hsf
        rw [hsf, List.append_nil] at he
        rw [he]
        (refine gw ?_; exact RetN.fz ⟨[true], [], rfl, rfl, rfl⟩)
      | false =>
        rw [hov, if_neg (by simp)] at hsf
        rw [hsf] at he
        (refine gw ?_; refine Choice.mk ⟨true, Choice.mk ⟨false, _, _, t1, ?_⟩⟩)
        (refine gw ?_; refine Room.mk (by first | omega | (simp; omega) | (simp <;> fail)) ?_)
        (refine gw ?_; refine Choice.mk ⟨false, Choice.mk ⟨false, _, _, t4, ?_⟩⟩)
        (refine gw ?_; refine ⟨[], [1,5], rfl, ⟨k + 1, q', m', os ++ [o], rfl, by rw [hma]; rfl, hkn, by simp [hos], t2, hd.1, by rw [he]; simp⟩, (by omega : n - ((k : Int) + 1).toNat < n - (k : Int).toNat)⟩)
    · have e : k = n := by omega
      subst e
      rw [Nat.sub_self] at he
      have he : opsF k m0 p = (os, q) := by rw [he]; simp [opsF]
      rw [he]
      (refine gw ?_; exact RetN.fz ⟨[true], [], rfl, rfl, rfl⟩)
  · simp only [ne_eq, he, not_false_eq_true, if_true]
    have c1 : Told P T ref17_New [] [eR r] (.tup [eM m0, i64 ((e : Nat) : Int)]) [] := c1
    refine told_of_ev (fn := mk_Picks_Ops_fn) tabOk mixed (by kernel_rfl) (by kernel_rfl) (by kernel_rfl) (by kernel_rfl) ?_
    (refine gw ?_; refine Choice.mk ⟨false, Choice.mk ⟨false, _, _, c1, ?_⟩⟩)
    (refine gw ?_; refine IfB.tt (by simpa using he) ?_)
    (refine gw ?_; exact RetN.fz ⟨[true], [], rfl, rfl, rfl⟩)
end Go.Ev.W
namespace Go.Ev.W
open Go.Ev Go.Ev.N

theorem newM_bd (r : Rw) : (newM r).1.bs.length ≤ 1000000 ∧ (newM r).1.on.length ≤ 1000000 ∧ (newM r).1.mem.length ≤ 1000000 ∧ IsB (newM r).1.mem := by
  by_cases h : (newM r).2 = 0
  · have hm := newM_ok h
    have hH := hm.c.h2
    have := hm.a.len; have := hm.o; have := Nat.div_le_self (newM r).1.c.H (newM r).1.c.Pg; have := hm.mm
    exact ⟨by omega, by omega, by omega, hm.b⟩
  · have : (newM r).1 = ⟨cf0, [], 0, 0, 0, [], []⟩ := by
      unfold newM at h ⊢
      split
      · rfl
      · rename_i h2; rw [if_neg h2] at h; exact absurd rfl h
    rw [this]
    exact ⟨by simp, by simp, by simp, fun x hx => by simp at hx⟩
theorem MoOk.bd {m : Mo} (hm : MoOk m) : m.bs.length ≤ 1000000 ∧ m.on.length ≤ 1000000 ∧ m.mem.length ≤ 1000000 ∧ IsB m.mem := by
  have hH := hm.c.h2
  have := hm.a.len; have := hm.o; have := Nat.div_le_self m.c.H m.c.Pg; have := hm.mm
  exact ⟨by omega, by omega, by omega, hm.b⟩
end Go.Ev.W
namespace Go.Ev.W
open Go.Ev Go.Ev.N

theorem allF_ok : ∀ {os : List X.O} {m : Mo}, MoOk m → (∀ o ∈ os, OpOk o) → MoOk (allF m os).1 ∧ (allF m os).1.c = m.c ∧ (allF m os).2.length = os.length
  | [], m, hm, _ => ⟨hm, rfl, rfl⟩
  | o :: os, m, hm, h => by
    have hd := doF_ok hm (h o (by simp))
    have ih := allF_ok (os := os) hd.1 fun x hx => h x (by simp [hx])
    refine ⟨ih.1, ih.2.1.trans hd.2, ?_⟩
    show ((doF m o).2 :: (allF (doF m o).1 os).2).length = _
    rw [List.length_cons, ih.2.2]; rfl
theorem allF_snoc : ∀ (os : List X.O) (m : Mo) (o : X.O), allF m (os ++ [o]) = ((doF (allF m os).1 o).1, (allF m os).2 ++ [(doF (allF m os).1 o).2])
  | [], m, o => rfl
  | x :: os, m, o => by
    show ((allF (doF m x).1 (os ++ [o])).1, (doF m x).2 :: (allF (doF m x).1 (os ++ [o])).2) = _
    rw [allF_snoc os]; rfl
theorem opsA_op {r : Rw} {n : Nat} {p : Pk} (ok : p.Ok) : ∀ o ∈ (opsA r n p).1, OpOk o := fun o ho => by
  obtain ⟨c, hc, hg⟩ := (opsA_ok n ok).2.2 o ho
  exact hg.ok hc
end Go.Ev.W
namespace Go.Ev.W
open Go.Ev Go.Ev.N

set_option maxRecDepth 20000 in
set_option maxHeartbeats 4000000 in
theorem all17_told {m : Mo} (hm : MoOk m) {os : List X.O} (ho : ∀ o ∈ os, OpOk o) (hl : os.length ≤ 100000) : Told P T ref17_All [] [eM m, .lst t_api_Op (os.map X.encO)] (.tup [eM (allF m os).1, .lst t_api_Ans ((allF m os).2.map eA)]) [] := by
  have hmo : (os.map X.encO).length = os.length := by simp
  refine told_of_ev (fn := ref17_All_fn) tabOk mixed (by kernel_rfl) (by kernel_rfl) (by kernel_rfl) (by kernel_rfl) ?_
  (refine gw ?_; refine LoopN.mk ⟨[1,2,4,6,7], fun vs L => ∃ k : Nat, vs = [.lst t_api_Op (os.map X.encO), .ptr 0 0 0, .ptr 1 0 0, .ref 2, i64 k] ∧ L = [.var (eM (allF m (os.take k)).1), .var moU, .row t_api_Ans ((allF m (os.take k)).2.map eA)] ∧ k ≤ os.length, fun vs L => match vs with | [_, _, _, _, .int _ i] => os.length - i.toNat | _ => 0, [], [0,1,6], rfl, ⟨0, rfl, rfl, by omega⟩, ?_⟩)
  rintro vs L ⟨k, rfl, rfl, hk⟩
  (refine gw ?_; first | refine IfB.dec (fun g1 => ?_) (fun g1 => ?_) | refine IfB.eq (fun g1 => ?_) (fun g1 => ?_) | refine IfB.ne (fun g1 => ?_) (fun g1 => ?_) | refine IfB.mk (fun g1 => ?_) (fun g1 => ?_))
  · have hkl : k < os.length := by omega
    have hso := allF_snoc (os.take k) m os[k]
    rw [← List.take_succ_eq_append_getElem hkl] at hso
    have hok := allF_ok (os := os.take k) hm fun o h => ho o (List.mem_of_mem_take h)
    have hlk : ((allF m (os.take k)).2.map eA).length = k := by rw [List.length_map, hok.2.2, List.length_take]; omega
    have d1 := do17_told hok.1 (ho _ (List.getElem_mem hkl))
    have hma : ((allF m (os.take k)).2 ++ [(doF (allF m (os.take k)).1 os[k]).2]).map eA = (allF m (os.take k)).2.map eA ++ [eA (doF (allF m (os.take k)).1 os[k]).2] := by simp
    have hlk2 : (allF m (os.take k)).2.length ≤ 100000 := by rw [List.length_map] at hlk; omega
    (refine gw ?_; refine idx_map (hkl) ?_)
    (refine gw ?_; refine Choice.mk ⟨false, Choice.mk ⟨false, _, _, d1, ?_⟩⟩)
    (refine gw ?_; refine Room.mk (by first | omega | (simp; omega) | (simp <;> fail)) ?_)
    (refine gw ?_; refine ⟨[], [0,1,9], rfl, ⟨k + 1, rfl, by rw [hso]; simp only []; rw [hma]; rfl, hkl⟩, (by omega : os.length - ((k : Int) + 1).toNat < os.length - (k : Int).toNat)⟩)
  · have e : k = os.length := by omega
    subst e
    rw [List.take_length]
    (refine gw ?_; exact RetN.fz ⟨[true, true], [], rfl, rfl, rfl⟩)
end Go.Ev.W
namespace Go.Ev.W
open Go.Ev Go.Ev.N

theorem sameAnsR (l : List An) (hl : l.length ≤ 1000000) : Told P T ref17_SameAns [] [.lst t_api_Ans (l.map eA), .lst t_api_Ans (l.map eA)] (.bool true) [] := by
  have hml : (l.map eA).length = l.length := by simp
  refine told_of_ev (fn := ref17_SameAns_fn) tabOk mixed (by kernel_rfl) (by kernel_rfl) (by kernel_rfl) (by kernel_rfl) ?_
  refine gw ?_
  (refine gw ?_; refine LoopN.mk ⟨[0,1,5], fun vs L => ∃ i : Nat, vs = [.lst t_api_Ans (l.map eA), .lst t_api_Ans (l.map eA), i64 i] ∧ i ≤ l.length ∧ L = [], fun vs L => match vs with | [_, _, .int _ i] => l.length - i.toNat | _ => 0, [], [], rfl, ⟨0, rfl, by omega, rfl⟩, ?_⟩)
  rintro vs L ⟨i, rfl, hi, rfl⟩
  (refine gw ?_; first | refine IfB.dec (fun h2 => ?_) (fun h2 => ?_) | refine IfB.eq (fun h2 => ?_) (fun h2 => ?_) | refine IfB.ne (fun h2 => ?_) (fun h2 => ?_) | refine IfB.mk (fun h2 => ?_) (fun h2 => ?_))
  · have hlt : i < l.length := by omega
    (refine gw ?_; refine idx_map (hlt) ?_)
    (refine gw ?_; refine idx_map (hlt) ?_)
    (refine gw ?_)
    first | refine IfB.ff (by simp) ?_ | skip
    (refine gw ?_; refine ⟨[], [], rfl, ⟨i + 1, rfl, hlt, rfl⟩, (by omega : l.length - ((i : Int) + 1).toNat < l.length - (i : Int).toNat)⟩)
  · (refine gw ?_; exact RetN.mk ⟨[], rfl, rfl, rfl⟩)
/-- A run, so far. -/
theorem allF_at {m : Mo} {os : List X.O} (hm : MoOk m) (ho : ∀ o ∈ os, OpOk o) {k : Nat} (hk : k < os.length) :
    MoOk (allF m (os.take k)).1 ∧ (allF m (os.take k)).2.length = k ∧ (allF m (os.take (k + 1))).1 = (doF (allF m (os.take k)).1 os[k]).1 ∧ (allF m (os.take (k + 1))).2 = (allF m (os.take k)).2 ++ [(doF (allF m (os.take k)).1 os[k]).2] := by
  have h := allF_ok (os := os.take k) hm fun o h => ho o (List.mem_of_mem_take h)
  have hs := allF_snoc (os.take k) m os[k]
  rw [← List.take_succ_eq_append_getElem hk] at hs
  exact ⟨h.1, by rw [h.2.2, List.length_take]; omega, by rw [hs], by rw [hs]⟩
end Go.Ev.W
namespace Go.Ev.W
open Go.Ev Go.Ev.N

theorem shpOp {n : Nat} {x : AV} (h : Shp T (n + 2) t_api_Op x) : ∃ o : X.O, x = X.encO o ∧ OpOk o := by
  unfold Shp at h
  obtain ⟨ys, rfl, hy, hn⟩ := (show ∃ ys : List AV, x = .agg (ys.flatMap cells) ∧ ys.length = 6 ∧ ∀ (i : Nat) (p : Nat × Nat) (y : AV), [((0 : Nat), t_int), (1, t_int), (2, t_int), (3, t_int), (4, t_int), (5, t_uint8)][i]? = some p → ys[i]? = some y → Shp T (n + 1) p.2 y from h)
  match ys, hy, hn with
  | [y0, y1, y2, y3, y4, y5], _, hn =>
    obtain ⟨a0, rfl, b0⟩ := shp_i64 (by kernel_rfl) (hn 0 _ y0 rfl rfl)
    obtain ⟨a1, rfl, b1⟩ := shp_i64 (by kernel_rfl) (hn 1 _ y1 rfl rfl)
    obtain ⟨a2, rfl, b2⟩ := shp_i64 (by kernel_rfl) (hn 2 _ y2 rfl rfl)
    obtain ⟨a3, rfl, b3⟩ := shp_i64 (by kernel_rfl) (hn 3 _ y3 rfl rfl)
    obtain ⟨a4, rfl, b4⟩ := shp_i64 (by kernel_rfl) (hn 4 _ y4 rfl rfl)
    obtain ⟨b, rfl, hb⟩ := shp_u8 (by kernel_rfl) (hn 5 _ y5 rfl rfl)
    exact ⟨⟨a0, a1, a2, a3, a4, (b : Int)⟩, rfl, ⟨b0, b1, b2, b3, b4, by simp, by show (b : Int) < 256; omega⟩⟩
theorem shpRaw {n : Nat} {x : AV} (h : Shp T (n + 2) t_api_Raw x) : ∃ r : Rw, x = eR r := by
  unfold Shp at h
  obtain ⟨ys, rfl, hy, hn⟩ := (show ∃ ys : List AV, x = .agg (ys.flatMap cells) ∧ ys.length = 6 ∧ ∀ (i : Nat) (p : Nat × Nat) (y : AV), [((0 : Nat), t_int), (1, t_int), (2, t_int), (3, t_int), (4, t_int), (5, t_int)][i]? = some p → ys[i]? = some y → Shp T (n + 1) p.2 y from h)
  match ys, hy, hn with
  | [y0, y1, y2, y3, y4, y5], _, hn =>
    obtain ⟨a0, rfl, b0⟩ := shp_i64 (by kernel_rfl) (hn 0 _ y0 rfl rfl)
    obtain ⟨a1, rfl, b1⟩ := shp_i64 (by kernel_rfl) (hn 1 _ y1 rfl rfl)
    obtain ⟨a2, rfl, b2⟩ := shp_i64 (by kernel_rfl) (hn 2 _ y2 rfl rfl)
    obtain ⟨a3, rfl, b3⟩ := shp_i64 (by kernel_rfl) (hn 3 _ y3 rfl rfl)
    obtain ⟨a4, rfl, b4⟩ := shp_i64 (by kernel_rfl) (hn 4 _ y4 rfl rfl)
    obtain ⟨a5, rfl, b5⟩ := shp_i64 (by kernel_rfl) (hn 5 _ y5 rfl rfl)
    exact ⟨⟨a0, a1, a2, a3, a4, a5⟩, rfl⟩
end Go.Ev.W
namespace Go.Ev.W
open Go.Ev Go.Ev.N

/-- What many calls are told. -/
def runF (r : Rw) (os : List X.O) : List An × Nat :=
  if (newM r).2 ≠ 0 then ([], (newM r).2) else if os.length > 5000 then ([], 2) else ((allF (newM r).1 os).2, 0)
def lA (l : List An) : AV := .lst t_api_Ans (l.map eA)
theorem moH1 {m : Mo} (hm : MoOk m) : 1 ≤ m.c.H := hm.c.H1
set_option maxRecDepth 20000 in
set_option maxHeartbeats 4000000 in
theorem runHeap_told (r : Rw) {os : List X.O} (ho : ∀ o ∈ os, OpOk o) : Told P T run_Heap [] [eR r, .lst t_api_Op (os.map X.encO)] (.tup [lA (runF r os).1, i64 ((runF r os).2 : Nat)]) [] := by
  have hom : (os.map X.encO).length = os.length := by simp
  have n1 := hpNewI (r := r)
  have n1e := hpNewE (r := r)
  have hok := newM_ok (r := r)
  unfold runF lA
  generalize newM r = M at *
  obtain ⟨m0, e⟩ := M
  by_cases he : e = 0
  case neg =>
    simp only [ne_eq, he, not_false_eq_true, if_true]
    refine told_of_ev (fn := run_Heap_fn) tabOk mixed (by kernel_rfl) (by kernel_rfl) (by kernel_rfl) (by kernel_rfl) ?_
    (refine gw ?_; refine Choice.mk ⟨false, Choice.mk ⟨false, _, _, n1e he, ?_⟩⟩)
    (refine gw ?_; refine IfB.tt (by simpa using he) ?_)
    (refine gw ?_; exact RetN.fz ⟨[true], [], rfl, rfl, rfl⟩)
  subst he
  have hm0 : MoOk m0 := hok rfl
  obtain ⟨s0, hr0, n1⟩ := n1 rfl
  simp only [ne_eq, not_true_eq_false, if_false]
  by_cases hl : os.length > 5000
  · rw [if_pos hl]
    refine told_of_ev (fn := run_Heap_fn) tabOk mixed (by kernel_rfl) (by kernel_rfl) (by kernel_rfl) (by kernel_rfl) ?_
    (refine gw ?_; refine Choice.mk ⟨false, Choice.mk ⟨false, _, _, n1, ?_⟩⟩)
    (refine gw ?_; refine IfB.tt (by rw [hom]; simp; omega) ?_)
    (refine gw ?_; exact RetN.fz ⟨[true], [], rfl, rfl, rfl⟩)
  rw [if_neg hl]
  refine told_of_ev (fn := run_Heap_fn) tabOk mixed (by kernel_rfl) (by kernel_rfl) (by kernel_rfl) (by kernel_rfl) ?_
  (refine gw ?_; refine Choice.mk ⟨false, Choice.mk ⟨false, _, _, n1, ?_⟩⟩)
  (refine gw ?_; refine IfB.ff (by rw [hom]; simp; omega) ?_)
  (refine gw ?_; refine LoopN.mk ⟨[4,6,22,23,24], fun vs L => ∃ (k : Nat) (s : Hs), vs = [.ref 4, .ptr 0 0 0, .lst t_api_Op (os.map X.encO), i64 (os.map X.encO).length, i64 k] ∧ L = hI (allF m0 (os.take k)).1 s ++ [.row t_api_Ans ((allF m0 (os.take k)).2.map eA)] ∧ k ≤ os.length ∧ Hr (allF m0 (os.take k)).1 s, fun vs L => match vs with | [_, _, _, _, .int _ i] => os.length - i.toNat | _ => 0, [], [2,3,4,5,1], rfl, ⟨0, s0, rfl, rfl, by omega, hr0⟩, ?_⟩)
  rintro vs L ⟨k, s, rfl, rfl, hk, hr⟩
  by_cases hko : k < os.length
  · obtain ⟨g1, g2, g3, g4⟩ := allF_at hm0 ho hko
    obtain ⟨s', hr', d1⟩ := hpDoI hr g1 (ho _ (List.getElem_mem hko))
    rw [← g3] at hr' d1
    have hma : (allF m0 (os.take (k + 1))).2.map eA = (allF m0 (os.take k)).2.map eA ++ [eA (doF (allF m0 (os.take k)).1 os[k]).2] := by rw [g4]; simp
    have hlk : ((allF m0 (os.take k)).2.map eA).length = k := by rw [List.length_map]; exact g2
    generalize (doF (allF m0 (os.take k)).1 os[k]).2 = an at *
    (refine gw ?_; refine IfB.tt (by rw [hom]; simp; omega) ?_)
    (refine gw ?_; refine idx_map (hko) ?_)
    (refine gw ?_; refine Choice.mk ⟨false, Choice.mk ⟨false, _, _, d1, ?_⟩⟩)
    (refine gw ?_; refine Room.mk (by first | omega | (simp; omega) | (simp <;> fail)) ?_)
    (refine gw ?_; refine ⟨[], [0,1,2,3,7], rfl, ⟨k + 1, s', rfl, by rw [hma]; rfl, hko, hr'⟩, (by omega : os.length - ((k : Int) + 1).toNat < os.length - (k : Int).toNat)⟩)
  obtain rfl : k = os.length := by omega
  rw [List.take_length]
  (refine gw ?_)
  (refine gw ?_; exact RetN.fz ⟨[true], [], rfl, rfl, rfl⟩)
set_option maxRecDepth 20000 in
set_option maxHeartbeats 4000000 in
theorem runPlain_told (r : Rw) {os : List X.O} (ho : ∀ o ∈ os, OpOk o) : Told P T run_Plain [] [eR r, .lst t_api_Op (os.map X.encO)] (.tup [lA (runF r os).1, i64 ((runF r os).2 : Nat)]) [] := by
  have hom : (os.map X.encO).length = os.length := by simp
  have n1 := plainNew_told r
  have hok := newM_ok (r := r)
  unfold runF lA
  generalize newM r = M at *
  obtain ⟨m0, e⟩ := M
  by_cases he : e = 0
  case neg =>
    simp only [ne_eq, he, not_false_eq_true, if_true]
    refine told_of_ev (fn := run_Plain_fn) tabOk mixed (by kernel_rfl) (by kernel_rfl) (by kernel_rfl) (by kernel_rfl) ?_
    (refine gw ?_; refine Choice.mk ⟨false, Choice.mk ⟨false, _, _, n1, ?_⟩⟩)
    (refine gw ?_; refine IfB.tt (by simpa using he) ?_)
    (refine gw ?_; exact RetN.fz ⟨[true], [], rfl, rfl, rfl⟩)
  subst he
  have hm0 : MoOk m0 := hok rfl
  simp only [ne_eq, not_true_eq_false, if_false]
  by_cases hl : os.length > 5000
  · rw [if_pos hl]
    refine told_of_ev (fn := run_Plain_fn) tabOk mixed (by kernel_rfl) (by kernel_rfl) (by kernel_rfl) (by kernel_rfl) ?_
    (refine gw ?_; refine Choice.mk ⟨false, Choice.mk ⟨false, _, _, n1, ?_⟩⟩)
    (refine gw ?_; refine IfB.tt (by rw [hom]; simp; omega) ?_)
    (refine gw ?_; exact RetN.fz ⟨[true], [], rfl, rfl, rfl⟩)
  rw [if_neg hl]
  refine told_of_ev (fn := run_Plain_fn) tabOk mixed (by kernel_rfl) (by kernel_rfl) (by kernel_rfl) (by kernel_rfl) ?_
  (refine gw ?_; refine Choice.mk ⟨false, Choice.mk ⟨false, _, _, n1, ?_⟩⟩)
  (refine gw ?_; refine IfB.ff (by rw [hom]; simp; omega) ?_)
  (refine gw ?_; refine LoopN.mk ⟨[4,6,24,25,26], fun vs L => ∃ (k : Nat), vs = [.ref 1, .ptr 0 0 0, .lst t_api_Op (os.map X.encO), i64 (os.map X.encO).length, i64 k] ∧ L = [.var (eM (allF m0 (os.take k)).1), .row t_api_Ans ((allF m0 (os.take k)).2.map eA)] ∧ k ≤ os.length, fun vs L => match vs with | [_, _, _, _, .int _ i] => os.length - i.toNat | _ => 0, [], [2,1], rfl, ⟨0, rfl, rfl, by omega⟩, ?_⟩)
  rintro vs L ⟨k, rfl, rfl, hk⟩
  by_cases hko : k < os.length
  · obtain ⟨g1, g2, g3, g4⟩ := allF_at hm0 ho hko
    have d1 := plainDo_told g1 (moH1 g1) (ho _ (List.getElem_mem hko))
    rw [← g3] at d1
    have hma : (allF m0 (os.take (k + 1))).2.map eA = (allF m0 (os.take k)).2.map eA ++ [eA (doF (allF m0 (os.take k)).1 os[k]).2] := by rw [g4]; simp
    have hlk : ((allF m0 (os.take k)).2.map eA).length = k := by rw [List.length_map]; exact g2
    generalize (doF (allF m0 (os.take k)).1 os[k]).2 = an at *
    (refine gw ?_; refine IfB.tt (by rw [hom]; simp; omega) ?_)
    (refine gw ?_; refine idx_map (hko) ?_)
    (refine gw ?_; refine Choice.mk ⟨false, Choice.mk ⟨false, _, _, d1, ?_⟩⟩)
    (refine gw ?_; refine Room.mk (by first | omega | (simp; omega) | (simp <;> fail)) ?_)
    (refine gw ?_; refine ⟨[], [0,9], rfl, ⟨k + 1, rfl, by rw [hma]; rfl, hko⟩, (by omega : os.length - ((k : Int) + 1).toNat < os.length - (k : Int).toNat)⟩)
  obtain rfl : k = os.length := by omega
  rw [List.take_length]
  (refine gw ?_)
  (refine gw ?_; exact RetN.fz ⟨[true], [], rfl, rfl, rfl⟩)
end Go.Ev.W
namespace Go.Ev.W
open Go.Ev Go.Ev.N

set_option maxRecDepth 20000 in
set_option maxHeartbeats 8000000 in
theorem opsW_told (r : Rw) {n : Nat} (hn : n ≤ 100000) {p : Pk} (ok : p.Ok) : Told P T mk_Picks_Ops [pkB p] [.ptr 0 0 0, eR r, i64 n] (.ref 1) [pkB (opsA r n p).2, .row t_api_Op ((opsA r n p).1.map X.encO)] := by
  have c1 := new17_told r
  have hm0 := newM_ok (r := r)
  unfold opsA
  generalize newM r = M at *
  obtain ⟨m0, e⟩ := M
  by_cases he : e = 0
  · subst he
    have hm0 : MoOk m0 := hm0 rfl
    have c1 : Told P T ref17_New [] [eR r] (.tup [eM m0, i64 ((0 : Nat) : Int)]) [] := c1
    simp only [ne_eq, not_true_eq_false, if_false]
    refine told_of_ev (fn := mk_Picks_Ops_fn) tabOk mixed (by kernel_rfl) (by kernel_rfl) (by kernel_rfl) (by kernel_rfl) ?_
    (refine gw ?_; refine Choice.mk ⟨false, Choice.mk ⟨false, _, _, c1, ?_⟩⟩)
    (refine gw ?_; refine LoopN.mk ⟨[0,2,7,9,10], fun vs L => ∃ (k : Nat) (q : Pk) (m : Mo) (os : List X.O), vs = [.ptr 0 0 0, i64 n, .ptr 1 0 0, .ref 2, i64 k] ∧ L = [pkB q, .var (eM m), .row t_api_Op (os.map X.encO)] ∧ k ≤ n ∧ os.length = k ∧ q.Ok ∧ MoOk m ∧ opsF n m0 p = (os ++ (opsF (n - k) m q).1, (opsF (n - k) m q).2), fun vs L => match vs with | [_, _, _, _, .int _ i] => n - i.toNat | _ => 0, [], [3,7], rfl, ⟨0, p, m0, [], rfl, rfl, by omega, rfl, ok, hm0, rfl⟩, ?_⟩)
    rintro vs L ⟨k, q, m, os, rfl, rfl, hk, hos, okq, hm, he⟩
    have hom : (os.map X.encO).length = k := by rw [List.length_map]; exact hos
    by_cases hkn : k < n
    · obtain ⟨t1, t2, t3⟩ := opO_spec hm okq
      have hd := doF_ok hm (t3.ok hm.c)
      have t4 := do17_told hm (t3.ok hm.c)
      have hsf : opsF (n - k) m q = if q.over = true then ([], q) else (opO m q :: (opsF (n - (k + 1)) (doF m (opO m q)).1 (opP m q)).1, (opsF (n - (k + 1)) (doF m (opO m q)).1 (opP m q)).2) := by
        rw [show n - k = (n - (k + 1)) + 1 by omega]; rfl
      clear c1
      generalize opO m q = o at *
      generalize opP m q = q' at *
      generalize doF m o = D at *
      obtain ⟨m', an'⟩ := D
      have hma : (os ++ [o]).map X.encO = os.map X.encO ++ [X.encO o] := by simp
      simp only at hsf hd t4
      (refine gw ?_; refine IfB.tt (by simp; omega) ?_)
      (refine gw ?_; refine Choice.mk ⟨true, Choice.mk ⟨false, _, _, over_told' q, ?_⟩⟩)
      cases hov : q.over with
      | true =>
        rw [hov, if_pos rfl] at hsf
        rw [hsf, List.append_nil] at he
        rw [he]
        (refine gw ?_)
        exact RetN.mk ⟨[2], rfl, rfl, rfl⟩
      | false =>
        rw [hov, if_neg (by simp)] at hsf
        rw [hsf] at he
        (refine gw ?_; refine Choice.mk ⟨true, Choice.mk ⟨false, _, _, t1, ?_⟩⟩)
        (refine gw ?_; refine Room.mk (by first | omega | (simp; omega) | (simp <;> fail)) ?_)
        (refine gw ?_; refine Choice.mk ⟨false, Choice.mk ⟨false, _, _, t4, ?_⟩⟩)
        (refine gw ?_; refine ⟨[], [1,5], rfl, ⟨k + 1, q', m', os ++ [o], rfl, by rw [hma]; rfl, hkn, by simp [hos], t2, hd.1, by rw [he]; simp⟩, (by omega : n - ((k : Int) + 1).toNat < n - (k : Int).toNat)⟩)
    · have e : k = n := by omega
      subst e
      rw [Nat.sub_self] at he
      have he : opsF k m0 p = (os, q) := by rw [he]; simp [opsF]
      rw [he]
      (refine gw ?_)
      exact RetN.mk ⟨[2], rfl, rfl, rfl⟩
  · simp only [ne_eq, he, not_false_eq_true, if_true]
    have c1 : Told P T ref17_New [] [eR r] (.tup [eM m0, i64 ((e : Nat) : Int)]) [] := c1
    refine told_of_ev (fn := mk_Picks_Ops_fn) tabOk mixed (by kernel_rfl) (by kernel_rfl) (by kernel_rfl) (by kernel_rfl) ?_
    (refine gw ?_; refine Choice.mk ⟨false, Choice.mk ⟨false, _, _, c1, ?_⟩⟩)
    (refine gw ?_; refine IfB.tt (by simpa using he) ?_)
    (refine gw ?_)
    first | exact RetN.mk ⟨[1], rfl, rfl, rfl⟩ | exact RetN.mk ⟨[2], rfl, rfl, rfl⟩ | exact RetN.mk ⟨[3], rfl, rfl, rfl⟩ | exact RetN.mk ⟨[4], rfl, rfl, rfl⟩ | exact RetN.mk ⟨[5], rfl, rfl, rfl⟩ | exact RetN.mk ⟨[6], rfl, rfl, rfl⟩ | exact RetN.mk ⟨[7], rfl, rfl, rfl⟩ | exact RetN.mk ⟨[8], rfl, rfl, rfl⟩ | exact RetN.mk ⟨[9], rfl, rfl, rfl⟩ | exact RetN.mk ⟨[10], rfl, rfl, rfl⟩
end Go.Ev.W
namespace Go.Ev.W
open Go.Ev Go.Ev.N

def rR : Rw := ⟨1, 4, 8, 4, 6, 0⟩
def oR1 : X.O := ⟨1, 0, 1, 0, 0, 0⟩
def oR2 : X.O := ⟨5, 3, 0, 0, 0, 0⟩
theorem oR1_ok : ∀ o ∈ [oR1], OpOk o := fun o ho => by
  simp at ho; subst ho
  exact ⟨by decide, by decide, by decide, by decide, by decide, by decide⟩
theorem oR2_ok : ∀ o ∈ [oR2], OpOk o := fun o ho => by
  simp at ho; subst ho
  exact ⟨by decide, by decide, by decide, by decide, by decide, by decide⟩
theorem runB1 : runF rR [oR1] = ([an0], 0) := by decide +kernel
theorem runB2 : runF rR [oR2] = ([anE 8], 0) := by decide +kernel
theorem runB3 : runF ⟨0, 0, 0, 0, 0, 0⟩ [] = ([], 1) := by decide +kernel
set_option maxRecDepth 20000 in
set_option maxHeartbeats 4000000 in
theorem begun26_told : Told P T law26_begun [] [] (.bool true) [] := by
  have c1 := runHeap_told rR oR1_ok
  have c2 := runPlain_told rR oR2_ok
  have c3 := runHeap_told ⟨0, 0, 0, 0, 0, 0⟩ (os := []) (fun o ho => by simp at ho)
  rw [runB1] at c1
  rw [runB2] at c2
  rw [runB3] at c3
  refine told_of_ev (fn := law26_begun_fn) tabOk mixed (by kernel_rfl) (by kernel_rfl) (by kernel_rfl) (by kernel_rfl) ?_
  (refine gw ?_; refine Choice.mk ⟨false, Choice.mk ⟨false, _, _, c1, ?_⟩⟩)
  (refine gw ?_; refine Choice.mk ⟨false, Choice.mk ⟨false, _, _, c2, ?_⟩⟩)
  (refine gw ?_; refine Choice.mk ⟨false, Choice.mk ⟨false, _, _, c3, ?_⟩⟩)
  (refine gw ?_)
  refine Idx.mk ⟨_, by omega, rfl, ?_⟩
  (refine gw ?_)
  refine Idx.mk ⟨_, by omega, rfl, ?_⟩
  (refine gw ?_; exact RetN.mk ⟨[], rfl, rfl, rfl⟩)
set_option maxRecDepth 20000 in
set_option maxHeartbeats 4000000 in
theorem run17_told (r : Rw) {os : List X.O} (ho : ∀ o ∈ os, OpOk o) (hl : os.length ≤ 100000) : Told P T ref17_Run [] [eR r, .lst t_api_Op (os.map X.encO)] (.tup [lA (runF r os).1, i64 ((runF r os).2 : Nat)]) [] := by
  have hom : (os.map X.encO).length = os.length := by simp
  have n1 := new17_told r
  have hok := newM_ok (r := r)
  unfold runF lA
  generalize newM r = M at *
  obtain ⟨m0, e⟩ := M
  by_cases he : e = 0
  case neg =>
    simp only [ne_eq, he, not_false_eq_true, if_true]
    refine told_of_ev (fn := ref17_Run_fn) tabOk mixed (by kernel_rfl) (by kernel_rfl) (by kernel_rfl) (by kernel_rfl) ?_
    (refine gw ?_; refine Choice.mk ⟨false, Choice.mk ⟨false, _, _, n1, ?_⟩⟩)
    (refine gw ?_; refine IfB.tt (by simpa using he) ?_)
    (refine gw ?_; exact RetN.fz ⟨[true], [], rfl, rfl, rfl⟩)
  subst he
  have hm0 : MoOk m0 := hok rfl
  simp only [ne_eq, not_true_eq_false, if_false]
  by_cases hl2 : os.length > 5000
  · rw [if_pos hl2]
    refine told_of_ev (fn := ref17_Run_fn) tabOk mixed (by kernel_rfl) (by kernel_rfl) (by kernel_rfl) (by kernel_rfl) ?_
    (refine gw ?_; refine Choice.mk ⟨false, Choice.mk ⟨false, _, _, n1, ?_⟩⟩)
    (refine gw ?_; refine IfB.tt (by rw [hom]; simp; omega) ?_)
    (refine gw ?_; exact RetN.fz ⟨[true], [], rfl, rfl, rfl⟩)
  rw [if_neg hl2]
  have a1 := all17_told hm0 ho hl
  refine told_of_ev (fn := ref17_Run_fn) tabOk mixed (by kernel_rfl) (by kernel_rfl) (by kernel_rfl) (by kernel_rfl) ?_
  (refine gw ?_; refine Choice.mk ⟨false, Choice.mk ⟨false, _, _, n1, ?_⟩⟩)
  (refine gw ?_; refine IfB.ff (by rw [hom]; simp; omega) ?_)
  (refine gw ?_; refine Choice.mk ⟨false, Choice.mk ⟨false, _, _, a1, ?_⟩⟩)
  (refine gw ?_)
  first | exact RetN.mk ⟨[], rfl, rfl, rfl⟩ | exact RetN.fz ⟨[true], [], rfl, rfl, rfl⟩
theorem runF_len (r : Rw) {os : List X.O} (ho : ∀ o ∈ os, OpOk o) : (runF r os).1.length ≤ os.length := by
  have hok := newM_ok (r := r)
  unfold runF
  split
  · simp
  · rename_i h
    split
    · simp
    · rw [(allF_ok (hok (by simpa using h)) ho).2.2]; omega
theorem shpRawO {n : Nat} {x : AV} (h : Shp T (n + 2) t_api_Raw x) : ∃ r : Rw, x = eR r := shpRaw h
theorem shpOps {n : Nat} {x : AV} (h : Shp T (n + 3) ts_api_Op x) : ∃ l : List X.O, x = .lst t_api_Op (l.map X.encO) ∧ l.length ≤ maxLen ∧ ∀ o ∈ l, OpOk o := shp_list (e := t_api_Op) X.encO OpOk (by kernel_rfl) h fun y hy => shpOp hy
set_option maxRecDepth 20000 in
set_option maxHeartbeats 8000000 in
theorem runAll_told {w : Rw} {a b : List Nat} {l : List X.O} (ha : IsB a) (hla : a.length ≤ maxLen) (hb : IsB b) (hlb : b.length ≤ maxLen) (hll : l.length ≤ maxLen) (hl : ∀ o ∈ l, OpOk o) : Told P T law26_RunAll [] [eR w, lB a, lB b, .lst t_api_Op (l.map X.encO)] (.bool true) [] := by
  have hua : (a.map u8).length = a.length := by simp
  have hub : (b.map u8).length = b.length := by simp
  have hul : (l.map X.encO).length = l.length := by simp
  have oka : (⟨a, 0⟩ : Pk).Ok := ⟨ha, Nat.zero_le _, hla⟩
  have okb : (⟨b, 0⟩ : Pk).Ok := ⟨hb, Nat.zero_le _, hlb⟩
  have t1 := raw_told ⟨a, 0⟩ oka false
  generalize rawF ⟨a, 0⟩ false = R at *
  obtain ⟨r, pa⟩ := R
  have o1 := opsW_told r (n := 60) (by omega) okb
  have oo := opsA_op (r := r) (n := 60) okb
  have ol := (opsA_ok (r := r) 60 okb).2.1
  generalize opsA r 60 ⟨b, 0⟩ = A at *
  obtain ⟨os, pb⟩ := A
  have o1 : Told P T mk_Picks_Ops [pkB ⟨b, 0⟩] [.ptr 0 0 0, eR r, i64 60] (.ref 1) [pkB pb, .row t_api_Op (os.map X.encO)] := o1
  have hom : (os.map X.encO).length = os.length := by simp
  have oo : ∀ o ∈ os, OpOk o := oo
  have ol : os.length ≤ 60 := ol
  refine told_of_ev (fn := law26_RunAll_fn) tabOk mixed (by kernel_rfl) (by kernel_rfl) (by kernel_rfl) (by kernel_rfl) ?_
  (refine gw ?_; refine Choice.mk ⟨false, Choice.mk ⟨false, _, _, begun26_told, ?_⟩⟩)
  by_cases h6 : a.length > 6
  · (refine gw ?_; refine IfB.tt (by rw [hua]; simp; omega) ?_)
    (refine gw ?_; exact RetN.mk ⟨[], rfl, rfl, rfl⟩)
  (refine gw ?_; refine IfB.ff (by rw [hua]; simp; omega) ?_)
  by_cases h7 : b.length > 200
  · (refine gw ?_; refine IfB.tt (by rw [hub]; simp; omega) ?_)
    (refine gw ?_; exact RetN.mk ⟨[], rfl, rfl, rfl⟩)
  (refine gw ?_; refine IfB.ff (by rw [hub]; simp; omega) ?_)
  by_cases h8 : l.length > 10
  · (refine gw ?_; refine IfB.tt (by rw [hul]; simp; omega) ?_)
    (refine gw ?_; exact RetN.mk ⟨[], rfl, rfl, rfl⟩)
  (refine gw ?_; refine IfB.ff (by rw [hul]; simp; omega) ?_)
  (refine gw ?_; refine Choice.mk ⟨false, Choice.mk ⟨false, _, _, made_told a, ?_⟩⟩)
  (refine gw ?_; refine Choice.mk ⟨true, Choice.mk ⟨false, _, _, t1, ?_⟩⟩)
  (refine gw ?_; refine Choice.mk ⟨false, Choice.mk ⟨false, _, _, made_told b, ?_⟩⟩)
  (refine gw ?_; refine Choice.mk ⟨true, Choice.mk ⟨false, _, _, o1, ?_⟩⟩)
  (refine gw ?_)
  refine Room.mk (by rw [hom, hul]; omega) ?_
  rw [← List.map_append]
  have hall : ∀ o ∈ os ++ l, OpOk o := fun o ho => by
    rcases List.mem_append.1 ho with h | h
    · exact oo o h
    · exact hl o h
  have hlen : (os ++ l).length ≤ 70 := by rw [List.length_append]; omega
  generalize os ++ l = ops at *
  (refine gw ?_; refine LoopN.mk ⟨[10,11,12], fun vs L => ∃ (k : Nat), vs = [.lst t_api_Op (ops.map X.encO), .lst t_api_Raw ([r, w].map eR), i64 k] ∧ L = [] ∧ k ≤ 2, fun vs L => match vs with | [_, _, .int _ i] => 2 - i.toNat | _ => 0, [10,11], [], rfl, ⟨0, rfl, rfl, by omega⟩, ?_⟩)
  rintro vs L ⟨k, rfl, rfl, hk⟩
  by_cases hk2 : k < 2
  · have hkl : k < [r, w].length := hk2
    have c1 := runHeap_told [r, w][k] hall
    have c2 := runPlain_told [r, w][k] hall
    have c3 := run17_told [r, w][k] hall (by omega)
    have hrl := runF_len [r, w][k] hall
    generalize runF [r, w][k] ops = F at *
    obtain ⟨an, e⟩ := F
    have s1 := sameAnsR an (by simp only at hrl; omega)
    unfold lA at *
    (refine gw ?_; refine IfB.tt (by simp; omega) ?_)
    (refine gw ?_; refine idx_map (hkl) ?_)
    (refine gw ?_; refine Choice.mk ⟨false, Choice.mk ⟨false, _, _, c1, ?_⟩⟩)
    (refine gw ?_; refine idx_map (hkl) ?_)
    (refine gw ?_; refine Choice.mk ⟨false, Choice.mk ⟨false, _, _, c2, ?_⟩⟩)
    (refine gw ?_; refine idx_map (hkl) ?_)
    (refine gw ?_; refine Choice.mk ⟨false, Choice.mk ⟨false, _, _, c3, ?_⟩⟩)
    (refine gw ?_; refine Choice.mk ⟨false, Choice.mk ⟨false, _, _, s1, ?_⟩⟩)
    (refine gw ?_; refine Choice.mk ⟨false, Choice.mk ⟨false, _, _, s1, ?_⟩⟩)
    (refine gw ?_; refine ⟨[], [], rfl, ⟨k + 1, rfl, rfl, hk2⟩, (by omega : 2 - ((k : Int) + 1).toNat < 2 - (k : Int).toNat)⟩)
  · (refine gw ?_; refine IfB.ff (by simp; omega) ?_)
    (refine gw ?_; exact RetN.mk ⟨[], rfl, rfl, rfl⟩)
theorem runAll {x0 x1 x2 x3 : AV} (h0 : Shp T 8 t_api_Raw x0) (h1 : Shp T 8 ts_uint8 x1) (h2 : Shp T 8 ts_uint8 x2) (h3 : Shp T 8 ts_api_Op x3) : Told P T law26_RunAll [] [x0, x1, x2, x3] (.bool true) [] := by
  obtain ⟨w, rfl⟩ := shpRawO h0
  obtain ⟨a, rfl, ha, hla⟩ := shp_bytes h1
  obtain ⟨b, rfl, hb, hlb⟩ := shp_bytes h2
  obtain ⟨l, rfl, hll, hl⟩ := shpOps h3
  exact runAll_told ha hla hb hlb hll hl
end Go.Ev.W
namespace Go.Ev.W
open Go.Ev Go.Ev.N

theorem runF_ok0 {r : Rw} (h : (newM r).2 = 0) {os : List X.O} (ho : ∀ o ∈ os, OpOk o) (hl : os.length ≤ 5000) : runF r os = ((allF (newM r).1 os).2, 0) ∧ (allF (newM r).1 os).2.length = os.length := by
  refine ⟨?_, (allF_ok (newM_ok h) ho).2.2⟩
  unfold runF
  rw [if_neg (by simpa using h), if_neg (by omega)]
theorem runF_no {r : Rw} (h : (newM r).2 ≠ 0) (os : List X.O) : runF r os = ([], (newM r).2) := by
  unfold runF
  rw [if_pos h]
theorem allF_take (m : Mo) (os : List X.O) (k : Nat) : (allF m (os.take k)).2 = (allF m os).2.take k := by
  induction os generalizing m k with
  | nil => simp [allF]
  | cons o os ih =>
    cases k with
    | zero => simp [allF]
    | succ k =>
      show (doF m o).2 :: (allF (doF m o).1 (os.take k)).2 = ((doF m o).2 :: (allF (doF m o).1 os).2).take (k + 1)
      rw [ih, List.take_succ_cons]
set_option maxRecDepth 20000 in
set_option maxHeartbeats 8000000 in
theorem runParts_told {a b : List Nat} {cut : Nat} (ha : IsB a) (hla : a.length ≤ maxLen) (hb : IsB b) (hlb : b.length ≤ maxLen) (hcut : cut < 256) : Told P T law26_RunParts [] [lB a, lB b, u8 cut] (.bool true) [] := by
  have hua : (a.map u8).length = a.length := by simp
  have hub : (b.map u8).length = b.length := by simp
  have oka : (⟨a, 0⟩ : Pk).Ok := ⟨ha, Nat.zero_le _, hla⟩
  have okb : (⟨b, 0⟩ : Pk).Ok := ⟨hb, Nat.zero_le _, hlb⟩
  have t1 := raw_told ⟨a, 0⟩ oka false
  generalize rawF ⟨a, 0⟩ false = R at *
  obtain ⟨r, pa⟩ := R
  have o1 := ops_told r (n := 60) (by omega) okb
  have oo := opsA_op (r := r) (n := 60) okb
  have ol := (opsA_ok (r := r) 60 okb).2.1
  generalize opsA r 60 ⟨b, 0⟩ = A at *
  obtain ⟨os, pb⟩ := A
  have o1 : Told P T mk_Picks_Ops [pkB ⟨b, 0⟩] [.ptr 0 0 0, eR r, i64 60] (.lst t_api_Op (os.map X.encO)) [pkB pb] := o1
  have hom : (os.map X.encO).length = os.length := by simp
  have oo : ∀ o ∈ os, OpOk o := oo
  have ol : os.length ≤ 60 := ol
  have ek : ((cut : Nat) : Int).tmod (((os.map X.encO).length : Int) + 1) = ((cut % (os.length + 1) : Nat) : Int) := by
    rw [hom, show ((os.length : Int) + 1) = ((os.length + 1 : Nat) : Int) by omega]
    exact (Int.ofNat_tmod _ _).symm
  have hkl : cut % (os.length + 1) < os.length + 1 := Nat.mod_lt _ (by omega)
  generalize hK : cut % (os.length + 1) = K at *
  have c1 := runHeap_told r oo
  have oo2 : ∀ o ∈ os.take K, OpOk o := fun o ho => oo o (List.mem_of_mem_take ho)
  have c2 := runHeap_told r oo2
  refine told_of_ev (fn := law26_RunParts_fn) tabOk mixed (by kernel_rfl) (by kernel_rfl) (by kernel_rfl) (by kernel_rfl) ?_
  (refine gw ?_; refine Choice.mk ⟨false, Choice.mk ⟨false, _, _, begun26_told, ?_⟩⟩)
  by_cases h6 : a.length > 6
  · (refine gw ?_; refine IfB.tt (by rw [hua]; simp; omega) ?_)
    (refine gw ?_; exact RetN.mk ⟨[], rfl, rfl, rfl⟩)
  (refine gw ?_; refine IfB.ff (by rw [hua]; simp; omega) ?_)
  by_cases h7 : b.length > 200
  · (refine gw ?_; refine IfB.tt (by rw [hub]; simp; omega) ?_)
    (refine gw ?_; exact RetN.mk ⟨[], rfl, rfl, rfl⟩)
  (refine gw ?_; refine IfB.ff (by rw [hub]; simp; omega) ?_)
  (refine gw ?_; refine Choice.mk ⟨false, Choice.mk ⟨false, _, _, made_told a, ?_⟩⟩)
  (refine gw ?_; refine Choice.mk ⟨true, Choice.mk ⟨false, _, _, t1, ?_⟩⟩)
  (refine gw ?_; refine Choice.mk ⟨false, Choice.mk ⟨false, _, _, made_told b, ?_⟩⟩)
  (refine gw ?_; refine Choice.mk ⟨true, Choice.mk ⟨false, _, _, o1, ?_⟩⟩)
  (refine gw ?_)
  rw [ek]
  by_cases he : (newM r).2 = 0
  case neg =>
    rw [runF_no he] at c1 c2
    unfold lA at *
    (refine gw ?_; refine Choice.mk ⟨false, Choice.mk ⟨false, _, _, c1, ?_⟩⟩)
    (refine gw ?_)
    refine Cut.mk (by omega) (by omega) (by simp; omega) ?_
    (refine gw ?_)
    rw [Int.toNat_natCast, ← List.map_take]
    (refine gw ?_; refine Choice.mk ⟨false, Choice.mk ⟨false, _, _, c2, ?_⟩⟩)
    (refine gw ?_; refine Choice.mk ⟨false, Choice.mk ⟨false, _, _, c1, ?_⟩⟩)
    (refine gw ?_; refine IfB.tt (by simpa using he) ?_)
    (refine gw ?_)
    refine fits (wrap64 (by simp) (by simp)) ?_
    (refine gw ?_; exact RetN.mk ⟨[], rfl, rfl, rfl⟩)
  obtain ⟨e1, l1⟩ := runF_ok0 he oo (by omega)
  obtain ⟨e2, l2⟩ := runF_ok0 he oo2 (by rw [List.length_take]; omega)
  rw [e1] at c1
  rw [e2, allF_take] at c2
  rw [allF_take] at l2
  generalize (allF (newM r).1 os).2 = an at *
  have s1 := sameAnsR an (by omega)
  have s2 := sameAnsR (an.take K) (by rw [l2, List.length_take]; omega)
  have hal : (an.map eA).length = os.length := by simp [l1]
  have hal2 : ((an.take K).map eA).length = K := by rw [List.length_map, l2, List.length_take]; omega
  unfold lA at *
  (refine gw ?_; refine Choice.mk ⟨false, Choice.mk ⟨false, _, _, c1, ?_⟩⟩)
  (refine gw ?_)
  refine Cut.mk (by omega) (by omega) (by simp; omega) ?_
  (refine gw ?_)
  rw [Int.toNat_natCast, ← List.map_take]
  (refine gw ?_; refine Choice.mk ⟨false, Choice.mk ⟨false, _, _, c2, ?_⟩⟩)
  (refine gw ?_; refine Choice.mk ⟨false, Choice.mk ⟨false, _, _, c1, ?_⟩⟩)
  (refine gw ?_; refine IfB.tt (by rw [hal, hom]; simp) ?_)
  (refine gw ?_; refine IfB.tt (by rw [hal2]; simp) ?_)
  (refine gw ?_)
  refine Cut.mk (by omega) (by omega) (by rw [hal]; omega) ?_
  (refine gw ?_)
  rw [Int.toNat_natCast, ← List.map_take]
  (refine gw ?_; refine Choice.mk ⟨false, Choice.mk ⟨false, _, _, s2, ?_⟩⟩)
  (refine gw ?_; refine Choice.mk ⟨false, Choice.mk ⟨false, _, _, s1, ?_⟩⟩)
  (refine gw ?_; exact RetN.mk ⟨[], rfl, rfl, rfl⟩)
theorem runParts {x0 x1 x2 : AV} (h0 : Shp T 8 ts_uint8 x0) (h1 : Shp T 8 ts_uint8 x1) (h2 : Shp T 8 t_uint8 x2) : Told P T law26_RunParts [] [x0, x1, x2] (.bool true) [] := by
  obtain ⟨a, rfl, ha, hla⟩ := shp_bytes h0
  obtain ⟨b, rfl, hb, hlb⟩ := shp_bytes h1
  obtain ⟨c, rfl, hc⟩ := shp_u8 (by kernel_rfl) h2
  exact runParts_told ha hla hb hlb hc
end Go.Ev.W
namespace Go.Ev.W
open Go.Ev Go.Ev.N

def rM : Rw := ⟨1, 1, 4, 4, 9, 0⟩
def oZ : X.O := ⟨0, 0, 0, 0, 0, 0⟩
def oT : X.O := ⟨9, 0, 0, 0, 0, 0⟩
theorem oZ_ok : OpOk oZ := ⟨by decide, by decide, by decide, by decide, by decide, by decide⟩
theorem oT_ok : OpOk oT := ⟨by decide, by decide, by decide, by decide, by decide, by decide⟩
theorem rM_ok : (newM rM).2 = 0 := by decide +kernel
set_option maxRecDepth 20000 in
set_option maxHeartbeats 8000000 in
theorem runMany_told {n : Nat} (hn : n < 256) : Told P T law26_RunMany [] [u8 n] (.bool true) [] := by
  have em : ((n : Nat) : Int).tmod 7 = ((n % 7 : Nat) : Int) := (Int.ofNat_tmod _ _).symm
  have h7 : n % 7 < 7 := Nat.mod_lt _ (by omega)
  refine told_of_ev (fn := law26_RunMany_fn) tabOk mixed (by kernel_rfl) (by kernel_rfl) (by kernel_rfl) (by kernel_rfl) ?_
  (refine gw ?_; refine Choice.mk ⟨false, Choice.mk ⟨false, _, _, begun26_told, ?_⟩⟩)
  (refine gw ?_)
  rw [em]
  generalize n % 7 = j at *
  have ek : (4997 : Int) + ((j : Nat) : Int) = ((4997 + j : Nat) : Int) := by omega
  (refine gw ?_)
  rw [ek]
  generalize hK : 4997 + j = K at *
  have hz : List.replicate ((K : Nat) : Int).toNat (zeroE T t_api_Op) = (List.replicate K oZ).map X.encO := by rw [Int.toNat_natCast, List.map_replicate]; rfl
  (refine gw ?_)
  refine Room.mk (by omega) ?_
  (refine gw ?_)
  (refine gw ?_; refine LoopN.mk ⟨[3,4,5,6], fun vs L => ∃ (i : Nat) (l : List X.O), vs = [.ptr 0 0 0, i64 K, .ref 1, i64 i] ∧ L = [.var (eR rM), .row t_api_Op (l.map X.encO)] ∧ l.length = K ∧ (∀ o ∈ l, OpOk o) ∧ i ≤ K, fun vs L => match vs with | [_, _, _, .int _ i] => K - i.toNat | _ => 0, [], [0,1], rfl, ⟨0, List.replicate K oZ, rfl, by rw [← hz]; rfl, by simp, fun o ho => by rw [List.eq_of_mem_replicate ho]; exact oZ_ok, by omega⟩, ?_⟩)
  rintro vs L ⟨i, l, rfl, rfl, hl, ho, hi⟩
  have hml : (l.map X.encO).length = K := by rw [List.length_map]; exact hl
  by_cases hik : i < K
  · have hset : (l.map X.encO).set i (X.encO oT) = (l.set i oT).map X.encO := by rw [List.map_set]
    (refine gw ?_; refine IfB.tt (by simp; omega) ?_)
    have hos : ∀ o ∈ l.set i oT, OpOk o := fun o h => by
      rcases List.mem_or_eq_of_mem_set h with h | h
      · exact ho o h
      · rw [h]; exact oT_ok
    (refine gw ?_; refine ⟨[], [0,1], rfl, ⟨i + 1, l.set i oT, rfl, by rw [← hset]; rfl, by rw [List.length_set]; exact hl, hos, hik⟩, (by omega : K - ((i : Int) + 1).toNat < K - (i : Int).toNat)⟩)
  have c1 := runHeap_told rM ho
  have c2 := runPlain_told rM ho
  (refine gw ?_; refine IfB.ff (by simp; omega) ?_)
  by_cases hK5 : K > 5000
  · have e1 : runF rM l = ([], 2) := by
      unfold runF
      rw [if_neg (by rw [rM_ok]; simp), if_pos (by omega)]
    rw [e1] at c1 c2
    unfold lA at *
    (refine gw ?_; refine Choice.mk ⟨false, Choice.mk ⟨false, _, _, c1, ?_⟩⟩)
    (refine gw ?_; refine Choice.mk ⟨false, Choice.mk ⟨false, _, _, c2, ?_⟩⟩)
    (refine gw ?_; refine IfB.tt (by simp; omega) ?_)
    (refine gw ?_)
    refine fits (wrap64 (by simp) (by simp)) ?_
    (refine gw ?_; exact RetN.mk ⟨[], rfl, rfl, rfl⟩)
  · obtain ⟨e1, l1⟩ := runF_ok0 rM_ok ho (by omega)
    rw [e1] at c1 c2
    generalize (allF (newM rM).1 l).2 = an at *
    have hal : (an.map eA).length = K := by rw [List.length_map, l1]; exact hl
    unfold lA at *
    (refine gw ?_; refine Choice.mk ⟨false, Choice.mk ⟨false, _, _, c1, ?_⟩⟩)
    (refine gw ?_; refine Choice.mk ⟨false, Choice.mk ⟨false, _, _, c2, ?_⟩⟩)
    (refine gw ?_; refine IfB.ff (by simp; omega) ?_)
    (refine gw ?_)
    rw [hal]
    (refine gw ?_; refine RetN.mk ⟨[], rfl, ?_, rfl⟩)
    show AV.bool _ = _
    simp
    simp at hal
    omega
theorem runMany {x0 : AV} (h0 : Shp T 8 t_uint8 x0) : Told P T law26_RunMany [] [x0] (.bool true) [] := by
  obtain ⟨c, rfl, hc⟩ := shp_u8 (by kernel_rfl) h0
  exact runMany_told hc
end Go.Ev.W
namespace Go.Ev.W
open Go.Ev Go.Ev.N

set_option maxRecDepth 20000 in
set_option maxHeartbeats 8000000 in
theorem runBoth_told {a b : List Nat} (ha : IsB a) (hla : a.length ≤ maxLen) (hb : IsB b) (hlb : b.length ≤ maxLen) : Told P T law26_RunBoth [] [lB a, lB b] (.bool true) [] := by
  have hua : (a.map u8).length = a.length := by simp
  have hub : (b.map u8).length = b.length := by simp
  have oka : (⟨a, 0⟩ : Pk).Ok := ⟨ha, Nat.zero_le _, hla⟩
  have t1 := raw_told ⟨a, 0⟩ oka false
  have hsm := (small_of (rawF_s ⟨a, 0⟩ false)).1
  rw [← newM_of] at hsm
  generalize rawF ⟨a, 0⟩ false = R at *
  obtain ⟨r, pa⟩ := R
  have hsm : (newM r).2 = 0 := hsm
  refine told_of_ev (fn := law26_RunBoth_fn) tabOk mixed (by kernel_rfl) (by kernel_rfl) (by kernel_rfl) (by kernel_rfl) ?_
  (refine gw ?_; refine Choice.mk ⟨false, Choice.mk ⟨false, _, _, begun26_told, ?_⟩⟩)
  by_cases h6 : a.length > 6
  · (refine gw ?_; refine IfB.tt (by rw [hua]; simp; omega) ?_)
    (refine gw ?_; exact RetN.mk ⟨[], rfl, rfl, rfl⟩)
  (refine gw ?_; refine IfB.ff (by rw [hua]; simp; omega) ?_)
  by_cases h7 : b.length > 150
  · (refine gw ?_; refine IfB.tt (by rw [hub]; simp; omega) ?_)
    (refine gw ?_; exact RetN.mk ⟨[], rfl, rfl, rfl⟩)
  (refine gw ?_; refine IfB.ff (by rw [hub]; simp; omega) ?_)
  (refine gw ?_; refine Choice.mk ⟨false, Choice.mk ⟨false, _, _, made_told a, ?_⟩⟩)
  (refine gw ?_; refine Choice.mk ⟨true, Choice.mk ⟨false, _, _, t1, ?_⟩⟩)
  (refine gw ?_; refine LoopN.mk ⟨[1,5,6,7], fun vs L => ∃ (k : Nat) (l : List X.O), vs = [lB b, .ptr 0 0 0, .ref 1, i64 ((3 * k : Nat) : Int)] ∧ L = [.var (eR r), .row t_api_Op (l.map X.encO)] ∧ l.length = k ∧ (∀ o ∈ l, OpOk o) ∧ 3 * k ≤ b.length, fun vs L => match vs with | [_, _, _, .int _ i] => b.length + 1 - i.toNat | _ => 0, [], [1,2], rfl, ⟨0, [], rfl, rfl, rfl, fun o h => by simp at h, by omega⟩, ?_⟩)
  rintro vs L ⟨k, l, rfl, rfl, hl, ho, hk⟩
  have hml : (l.map X.encO).length = k := by rw [List.length_map]; exact hl
  by_cases hik : 3 * k + 2 < b.length
  · have h0 : 3 * k < b.length := by omega
    have h1 : 3 * k + 1 < b.length := by omega
    have hb0 := hb _ (List.getElem_mem h0)
    have hb1 := hb _ (List.getElem_mem h1)
    have hb2 := hb _ (List.getElem_mem hik)
    have x0 : ∀ Q : AV → Prop, Q (u8 b[3 * k]) → Idx (b.map u8) ((3 * k : Nat) : Int) Q := fun Q q => idx_map (f := u8) h0 q
    have x1 : ∀ Q : AV → Prop, Q (u8 b[3 * k + 1]) → Idx (b.map u8) (((3 * k : Nat) : Int) + 1) Q := fun Q q => idx_map' (f := u8) (3 * k + 1) (by omega) h1 q
    have x2 : ∀ Q : AV → Prop, Q (u8 b[3 * k + 2]) → Idx (b.map u8) (((3 * k : Nat) : Int) + 2) Q := fun Q q => idx_map' (f := u8) (3 * k + 2) (by omega) hik q
    generalize b[3 * k] = y0 at *
    generalize b[3 * k + 1] = y1 at *
    generalize b[3 * k + 2] = y2 at *
    have m12 : ((y0 : Nat) : Int).tmod 12 = ((y0 % 12 : Nat) : Int) := (Int.ofNat_tmod _ _).symm
    have m40 : ((y2 : Nat) : Int).tmod 40 = ((y2 % 40 : Nat) : Int) := (Int.ofNat_tmod _ _).symm
    have m6 : ((y1 : Nat) : Int).tmod 6 = ((y1 % 6 : Nat) : Int) := (Int.ofNat_tmod _ _).symm
    have m5 : ((y2 : Nat) : Int).tmod 5 = ((y2 % 5 : Nat) : Int) := (Int.ofNat_tmod _ _).symm
    (refine gw ?_; refine IfB.tt (by rw [hub]; simp; omega) ?_)
    (refine gw ?_)
    refine x0 _ ?_
    (refine gw ?_)
    refine x1 _ ?_
    (refine gw ?_)
    refine x2 _ ?_
    (refine gw ?_)
    refine x1 _ ?_
    have hA : (1 : Int) * 2 ^ min (((y1 : Nat) : Int).tmod 6).toNat IntKind.i64.bits = ((2 ^ (y1 % 6) : Nat) : Int) := by
      rw [m6, Int.toNat_natCast, show min (y1 % 6) IntKind.i64.bits = y1 % 6 from Nat.min_eq_left (by show y1 % 6 ≤ 64; omega), Int.one_mul]
      exact (Int.natCast_pow 2 _).symm
    have hA2 : 2 ^ (y1 % 6) ≤ 2 ^ 5 := Nat.pow_le_pow_right (by omega) (by omega)
    have hA3 : 2 ^ (y1 % 6) ≤ 32 := hA2
    (refine gw ?_)
    rw [hA]
    generalize 2 ^ (y1 % 6) = A at *
    refine fits (wrap64 (by omega) (by omega)) ?_
    (refine gw ?_)
    refine x2 _ ?_
    (refine gw ?_)
    refine x0 _ ?_
    have hoo : OpOk ⟨((y0 : Nat) : Int).tmod 12, y1, ((y2 : Nat) : Int).tmod 40, (A : Nat), ((y2 : Nat) : Int).tmod 5, y0⟩ := ⟨by simp only; omega, by simp only; omega, by simp only; omega, by simp only; omega, by simp only; omega, by simp only; omega⟩
    have hma : (l ++ [(⟨((y0 : Nat) : Int).tmod 12, y1, ((y2 : Nat) : Int).tmod 40, (A : Nat), ((y2 : Nat) : Int).tmod 5, y0⟩ : X.O)]).map X.encO = l.map X.encO ++ [X.encO ⟨((y0 : Nat) : Int).tmod 12, y1, ((y2 : Nat) : Int).tmod 40, (A : Nat), ((y2 : Nat) : Int).tmod 5, y0⟩] := by simp
    have hall : ∀ o ∈ l ++ [(⟨((y0 : Nat) : Int).tmod 12, y1, ((y2 : Nat) : Int).tmod 40, (A : Nat), ((y2 : Nat) : Int).tmod 5, y0⟩ : X.O)], OpOk o := fun o h => by
      rcases List.mem_append.1 h with h | h
      · exact ho o h
      · rw [List.mem_singleton.1 h]; exact hoo
    have e3 : (((3 * k : Nat) : Int) + 3) = ((3 * (k + 1) : Nat) : Int) := by omega
    (refine gw ?_; refine Room.mk (by first | omega | (simp; omega) | (simp <;> fail)) ?_)
    (refine gw ?_)
    rw [e3]
    (refine gw ?_; refine ⟨[], [0,3], rfl, ⟨k + 1, _, rfl, by rw [hma]; rfl, by rw [List.length_append, hl]; rfl, hall, by omega⟩, (by omega : b.length + 1 - ((3 * (k + 1) : Nat) : Int).toNat < b.length + 1 - ((3 * k : Nat) : Int).toNat)⟩)
  have c1 := runHeap_told r ho
  have c2 := runPlain_told r ho
  obtain ⟨e1, l1⟩ := runF_ok0 hsm ho (by omega)
  rw [e1] at c1 c2
  generalize (allF (newM r).1 l).2 = an at *
  have s1 := sameAnsR an (by omega)
  have hal : (an.map eA).length = k := by rw [List.length_map, l1]; exact hl
  unfold lA at *
  (refine gw ?_; refine IfB.ff (by rw [hub]; simp; omega) ?_)
  (refine gw ?_; refine Choice.mk ⟨false, Choice.mk ⟨false, _, _, c1, ?_⟩⟩)
  (refine gw ?_; refine Choice.mk ⟨false, Choice.mk ⟨false, _, _, c2, ?_⟩⟩)
  (refine gw ?_; refine Choice.mk ⟨false, Choice.mk ⟨false, _, _, s1, ?_⟩⟩)
  (refine gw ?_; refine IfB.tt (by rw [hml, show ((an, 0) : List An × Nat).1 = an from rfl, hal]; simp) ?_)
  (refine gw ?_; exact RetN.mk ⟨[], rfl, rfl, rfl⟩)
theorem runBoth {x0 x1 : AV} (h0 : Shp T 8 ts_uint8 x0) (h1 : Shp T 8 ts_uint8 x1) : Told P T law26_RunBoth [] [x0, x1] (.bool true) [] := by
  obtain ⟨a, rfl, ha, hla⟩ := shp_bytes h0
  obtain ⟨b, rfl, hb, hlb⟩ := shp_bytes h1
  exact runBoth_told ha hla hb hlb
end Go.Ev.W
