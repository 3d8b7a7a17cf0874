/- Words and lemmas, part 11, for laws of this seat (a part of their proofs). -/
import Derived.Test.YtdnelcadmoeeiaaGreatE1
import Derived.Test.YtdnelcadmoeeiaaGreatE6
import Derived.Test.YtdnelcadmoeeiaaGreatE7
import Derived.Test.YtdnelcadmoeeiaaGreatE10
import Derived.Test.YtdnelcadmoeeiaaGreatNm
import Derived.Test.YtdnelcadmoeeiaaGreatEvOpen
import Derived.Test.YtdnelcadmoeeiaaGreatEvLib
import Derived.Test.YtdnelcadmoeeiaaGreatEvGrid
import Derived.Test.YtdnelcadmoeeiaaGreatEvTrim
set_option linter.unusedVariables false
set_option linter.unusedSimpArgs false
namespace Go.Ev.W
open Go.Ev Go.Ev.N

open Classical in
noncomputable def opO (m : Mo) (p : Pk) : X.O := if h : MoOk m ∧ p.Ok then (op_told h.1.c h.1.a p h.2).choose else ⟨0, 0, 0, 0, 0, 0⟩
open Classical in
noncomputable def opP (m : Mo) (p : Pk) : Pk := if h : MoOk m ∧ p.Ok then (op_told h.1.c h.1.a p h.2).choose_spec.choose else p
theorem opO_spec {m : Mo} (hm : MoOk m) {p : Pk} (ok : p.Ok) : Told P T mk_Picks_Op [pkB p] [.ptr 0 0 0, eC m.c, lK m.bs] (X.encO (opO m p)) [pkB (opP m p)] ∧ (opP m p).Ok ∧ OpG m.c (opO m p) := by
  unfold opO opP
  rw [dif_pos ⟨hm, ok⟩, dif_pos ⟨hm, ok⟩]
  exact (op_told hm.c hm.a p ok).choose_spec.choose_spec
noncomputable def opsF : Nat → Mo → Pk → List X.O × Pk
  | 0, _, p => ([], p)
  | n + 1, m, p => if p.over = true then ([], p) else (opO m p :: (opsF n (doF m (opO m p)).1 (opP m p)).1, (opsF n (doF m (opO m p)).1 (opP m p)).2)
noncomputable def opsA (r : Rw) (n : Nat) (p : Pk) : List X.O × Pk := if (newM r).2 ≠ 0 then ([], p) else opsF n (newM r).1 p
theorem opsF_ok : ∀ (n : Nat) {m : Mo} {p : Pk}, MoOk m → p.Ok → (opsF n m p).2.Ok ∧ (opsF n m p).1.length ≤ n ∧ ∀ o ∈ (opsF n m p).1, OpG m.c o
  | 0, m, p, hm, ok => ⟨ok, by simp [opsF], by simp [opsF]⟩
  | n + 1, m, p, hm, ok => by
    unfold opsF
    split
    · exact ⟨ok, by simp, by simp⟩
    · obtain ⟨_, h2, h3⟩ := opO_spec hm ok
      have hd := doF_ok hm (h3.ok hm.c)
      obtain ⟨a, b, c⟩ := opsF_ok n hd.1 h2
      rw [hd.2] at c
      refine ⟨a, by simp; exact b, fun o ho => ?_⟩
      rcases List.mem_cons.1 ho with rfl | ho
      · exact h3
      · exact c o ho
theorem opsA_ok {r : Rw} (n : Nat) {p : Pk} (ok : p.Ok) : (opsA r n p).2.Ok ∧ (opsA r n p).1.length ≤ n ∧ ∀ o ∈ (opsA r n p).1, ∃ c : Cf, c.Ok ∧ OpG c o := by
  unfold opsA
  split
  · exact ⟨ok, by simp, by simp⟩
  · rename_i h
    have hm := newM_ok (Decidable.of_not_not h)
    obtain ⟨a, b, c⟩ := opsF_ok n hm ok
    exact ⟨a, b, fun o ho => ⟨_, hm.c, c o ho⟩⟩
set_option maxRecDepth 20000 in
set_option maxHeartbeats 8000000 in
theorem ops_told (r : Rw) {n : Nat} (hn : n ≤ 100000) {p : Pk} (ok : p.Ok) : Told P T mk_Picks_Ops [pkB p] [.ptr 0 0 0, eR r, i64 n] (.lst t_api_Op ((opsA r n p).1.map X.encO)) [pkB (opsA r n p).2] := by
  have c1 := new17_told r
  have hm0 := newM_ok (r := r)
  unfold opsA
  generalize newM r = M at *
  obtain ⟨m0, e⟩ := M
  by_cases he : e = 0
  · subst he
    have hm0 : MoOk m0 := hm0 rfl
    have c1 : Told P T ref17_New [] [eR r] (.tup [eM m0, i64 ((0 : Nat) : Int)]) [] := c1
    simp only [ne_eq, not_true_eq_false, if_false]
    refine told_of_ev (fn := mk_Picks_Ops_fn) tabOk mixed (by kernel_rfl) (by kernel_rfl) (by kernel_rfl) (by kernel_rfl) ?_
    (refine gw ?_; refine Choice.mk ⟨false, Choice.mk ⟨false, _, _, c1, ?_⟩⟩)
    (refine gw ?_; refine LoopN.mk ⟨[0,2,7,9,10], fun vs L => ∃ (k : Nat) (q : Pk) (m : Mo) (os : List X.O), vs = [.ptr 0 0 0, i64 n, .ptr 1 0 0, .ref 2, i64 k] ∧ L = [pkB q, .var (eM m), .row t_api_Op (os.map X.encO)] ∧ k ≤ n ∧ os.length = k ∧ q.Ok ∧ MoOk m ∧ opsF n m0 p = (os ++ (opsF (n - k) m q).1, (opsF (n - k) m q).2), fun vs L => match vs with | [_, _, _, _, .int _ i] => n - i.toNat | _ => 0, [], [3,7], rfl, ⟨0, p, m0, [], rfl, rfl, by omega, rfl, ok, hm0, rfl⟩, ?_⟩)
    rintro vs L ⟨k, q, m, os, rfl, rfl, hk, hos, okq, hm, he⟩
    have hom : (os.map X.encO).length = k := by rw [List.length_map]; exact hos
    by_cases hkn : k < n
    · obtain ⟨t1, t2, t3⟩ := opO_spec hm okq
      have hd := doF_ok hm (t3.ok hm.c)
      have t4 := do17_told hm (t3.ok hm.c)
      have hsf : opsF (n - k) m q = if q.over = true then ([], q) else (opO m q :: (opsF (n - (k + 1)) (doF m (opO m q)).1 (opP m q)).1, (opsF (n - (k + 1)) (doF m (opO m q)).1 (opP m q)).2) := by
        rw [show n - k = (n - (k + 1)) + 1 by omega]; rfl
      clear c1
      generalize opO m q = o at *
      generalize opP m q = q' at *
      generalize doF m o = D at *
      obtain ⟨m', an'⟩ := D
      have hma : (os ++ [o]).map X.encO = os.map X.encO ++ [X.encO o] := by simp
      simp only at hsf hd t4
      (refine gw ?_; refine IfB.tt (by simp; omega) ?_)
      (refine gw ?_; refine Choice.mk ⟨true, Choice.mk ⟨false, _, _, over_told' q, ?_⟩⟩)
      cases hov : q.over with
      | true =>
        rw [hov, if_pos rfl] at hsf
        rw [hsf, List.append_nil] at he
        rw [he]
        (refine gw ?_; exact RetN.fz ⟨[true], [], rfl, rfl, rfl⟩)
      | false =>
        rw [hov, if_neg (by simp)] at hsf
        rw [hsf] at he
        (refine gw ?_; refine Choice.mk ⟨true, Choice.mk ⟨false, _, _, t1, ?_⟩⟩)
        (refine gw ?_; refine Room.mk (by first | omega | (simp; omega) | (simp <;> fail)) ?_)
        (refine gw ?_; refine Choice.mk ⟨false, Choice.mk ⟨false, _, _, t4, ?_⟩⟩)
        (refine gw ?_; refine ⟨[], [1,5], rfl, ⟨k + 1, q', m', os ++ [o], rfl, by rw [hma]; rfl, hkn, by simp [hos], t2, hd.1, by rw [he]; simp⟩, (by omega : n - ((k : Int) + 1).toNat < n - (k : Int).toNat)⟩)
    · have e : k = n := by omega
      subst e
      rw [Nat.sub_self] at he
      have he : opsF k m0 p = (os, q) := by rw [he]; simp [opsF]
      rw [he]
      (refine gw ?_; exact RetN.fz ⟨[true], [], rfl, rfl, rfl⟩)
  · simp only [ne_eq, he, not_false_eq_true, if_true]
    have c1 : Told P T ref17_New [] [eR r] (.tup [eM m0, i64 ((e : Nat) : Int)]) [] := c1
    refine told_of_ev (fn := mk_Picks_Ops_fn) tabOk mixed (by kernel_rfl) (by kernel_rfl) (by kernel_rfl) (by kernel_rfl) ?_
    (refine gw ?_; refine Choice.mk ⟨false, Choice.mk ⟨false, _, _, c1, ?_⟩⟩)
    (refine gw ?_; refine IfB.tt (by simpa using he) ?_)
    (refine gw ?_; exact RetN.fz ⟨[true], [], rfl, rfl, rfl⟩)
end Go.Ev.W
namespace Go.Ev.W
open Go.Ev Go.Ev.N

def rH : Rw := ⟨1, 4, 8, 4, 6, 0⟩
def cH : Cf := ⟨1, 4, 8, 2, 4, 6, 16, 0⟩
def mH0 : Mo := ⟨cH, [], 0, 0, 0, [false, false, false, false], List.replicate 16 0⟩
def mH1 : Mo := ⟨cH, [⟨0, 4, 3⟩], 4, 4, 4, [true, false, false, false], [1, 8, 15, 22, 0, 0, 0, 0, 0, 0, 0, 0, 0, 0, 0, 0]⟩
def mH2 : Mo := ⟨cH, [⟨0, 4, 3⟩, ⟨4, 1, 1⟩], 5, 5, 5, [true, true, false, false], [1, 8, 15, 22, 32, 39, 46, 53, 0, 0, 0, 0, 0, 0, 0, 0]⟩
def oH1 : X.O := ⟨1, 0, 3, 0, 0, 0⟩
def oH2 : X.O := ⟨1, 0, 1, 0, 0, 0⟩
def oH3 : X.O := ⟨10, 0, 0, 0, 0, 0⟩
def oH4 : X.O := ⟨9, 0, 0, 0, 0, 0⟩
theorem oH_ok : OpOk oH1 ∧ OpOk oH2 ∧ OpOk oH3 := ⟨⟨by decide, by decide, by decide, by decide, by decide, by decide⟩, ⟨by decide, by decide, by decide, by decide, by decide, by decide⟩, ⟨by decide, by decide, by decide, by decide, by decide, by decide⟩⟩
theorem nH : newM rH = (mH0, 0) := by decide +kernel
theorem oH_of : ofF rH = (cH, 0) := by decide +kernel
theorem dH1 : doF mH0 oH1 = (mH1, an0) := by decide +kernel
theorem dH2 : doF mH1 oH2 = (mH2, { an0 with at' := 4 }) := by decide +kernel
theorem dH3 : doF mH2 oH3 = (mH2, ⟨0, 0, 0, 0, 5, 5, 5, 2⟩) := by decide +kernel
theorem mH0_ok : MoOk mH0 := by
  have := newM_ok (r := rH) (by rw [nH])
  rw [nH] at this; exact this
theorem mH1_ok : MoOk mH1 := by
  have := (doF_ok mH0_ok oH_ok.1).1
  rw [dH1] at this; exact this
theorem mH2_ok : MoOk mH2 := by
  have := (doF_ok mH1_ok oH_ok.2.1).1
  rw [dH2] at this; exact this
set_option maxRecDepth 20000 in
set_option maxHeartbeats 4000000 in
theorem begun18_told : Told P T law18_begun [] [] (.bool true) [] := by
  have c1 := hpNew_told rH (by rw [oH_of])
  have h0 := newH_rel (r := rH) (by rw [oH_of])
  rw [nH] at h0
  rw [oH_of] at c1 h0
  generalize newH (cH, 0).1 = s0 at *
  have h0 : Hr mH0 s0 := h0
  obtain ⟨s1, h1, d1⟩ := hpDoI h0 mH0_ok oH_ok.1
  rw [dH1] at h1 d1
  have h1 : Hr mH1 s1 := h1
  obtain ⟨s2, h2, d2⟩ := hpDoI h1 mH1_ok oH_ok.2.1
  rw [dH2] at h2 d2
  have h2 : Hr mH2 s2 := h2
  obtain ⟨s3, h3, d3⟩ := hpDoI h2 mH2_ok oH_ok.2.2
  rw [dH3] at h3 d3
  have h3 : Hr mH2 s3 := h3
  have b3 := hpBlocksI h3 mH2_ok
  have p3 := hpPagesI h3 mH2_ok
  have k3 := hpConf_told (c := mH2.c) (g := mH2.c.H / mH2.c.G) (cl := mH2.c.L + 1) (s := s3)
  have n1 := hpDoNil_told oH4
  refine told_of_ev (fn := law18_begun_fn) tabOk mixed (by kernel_rfl) (by kernel_rfl) (by kernel_rfl) (by kernel_rfl) ?_
  (refine gw ?_; refine Choice.mk ⟨false, Choice.mk ⟨false, _, _, c1, ?_⟩⟩)
  (refine gw ?_; refine Choice.mk ⟨false, Choice.mk ⟨false, _, _, d1, ?_⟩⟩)
  (refine gw ?_; refine Choice.mk ⟨false, Choice.mk ⟨false, _, _, d2, ?_⟩⟩)
  (refine gw ?_; refine Choice.mk ⟨false, Choice.mk ⟨false, _, _, d3, ?_⟩⟩)
  (refine gw ?_; refine Choice.mk ⟨false, Choice.mk ⟨true, _, _, b3, Need.mk rfl ?_⟩⟩)
  (refine gw ?_)
  refine Idx.mk ⟨_, by omega, rfl, ?_⟩
  (refine gw ?_; refine Choice.mk ⟨false, Choice.mk ⟨true, _, _, p3, Need.mk rfl ?_⟩⟩)
  (refine gw ?_; refine Choice.mk ⟨false, Choice.mk ⟨false, _, _, k3, ?_⟩⟩)
  (refine gw ?_; refine Choice.mk ⟨false, Choice.mk ⟨false, _, _, n1, ?_⟩⟩)
  (refine gw ?_; exact RetN.mk ⟨[], rfl, rfl, rfl⟩)
end Go.Ev.W
namespace Go.Ev.W
open Go.Ev Go.Ev.N

theorem MoOk.bd {m : Mo} (hm : MoOk m) : m.bs.length ≤ 1000000 ∧ m.on.length ≤ 1000000 ∧ m.mem.length ≤ 1000000 ∧ IsB m.mem := by
  have hH := hm.c.h2
  have := hm.a.len; have := hm.o; have := Nat.div_le_self m.c.H m.c.Pg; have := hm.mm
  exact ⟨by omega, by omega, by omega, hm.b⟩
end Go.Ev.W
namespace Go.Ev.W
open Go.Ev Go.Ev.N
set_option maxHeartbeats 1000000 in
theorem sameBlocksR (l : List Bk) (hl : l.length ≤ 1000000) : Told P T ref17_SameBlocks [] [.lst t_api_Block (l.map eB), .lst t_api_Block (l.map eB)] (.bool true) [] := by
  have hml : (l.map eB).length = l.length := by simp
  refine told_of_ev (fn := ref17_SameBlocks_fn) tabOk mixed (by kernel_rfl) (by kernel_rfl) (by kernel_rfl) (by kernel_rfl) ?_
  refine gw ?_
  (refine gw ?_; refine LoopN.mk ⟨[0,1,5], fun vs L => ∃ i : Nat, vs = [.lst t_api_Block (l.map eB), .lst t_api_Block (l.map eB), i64 i] ∧ i ≤ l.length ∧ L = [], fun vs L => match vs with | [_, _, .int _ i] => l.length - i.toNat | _ => 0, [], [], rfl, ⟨0, rfl, by omega, rfl⟩, ?_⟩)
  rintro vs L ⟨i, rfl, hi, rfl⟩
  (refine gw ?_; first | refine IfB.dec (fun h2 => ?_) (fun h2 => ?_) | refine IfB.eq (fun h2 => ?_) (fun h2 => ?_) | refine IfB.ne (fun h2 => ?_) (fun h2 => ?_) | refine IfB.mk (fun h2 => ?_) (fun h2 => ?_))
  · have hlt : i < l.length := by omega
    (refine gw ?_; refine idx_map (hlt) ?_)
    (refine gw ?_; refine idx_map (hlt) ?_)
    (refine gw ?_)
    first | refine IfB.ff (by simp) ?_ | skip
    (refine gw ?_; refine ⟨[], [], rfl, ⟨i + 1, rfl, hlt, rfl⟩, (by omega : l.length - ((i : Int) + 1).toNat < l.length - (i : Int).toNat)⟩)
  · (refine gw ?_; exact RetN.mk ⟨[], rfl, rfl, rfl⟩)
end Go.Ev.W
namespace Go.Ev.W
open Go.Ev Go.Ev.N
set_option maxHeartbeats 1000000 in
theorem sameBoolsR (l : List Bool) (hl : l.length ≤ 1000000) : Told P T ref8_SameBools [] [.lst t_bool (l.map AV.bool), .lst t_bool (l.map AV.bool)] (.bool true) [] := by
  have hml : (l.map AV.bool).length = l.length := by simp
  refine told_of_ev (fn := ref8_SameBools_fn) tabOk mixed (by kernel_rfl) (by kernel_rfl) (by kernel_rfl) (by kernel_rfl) ?_
  refine gw ?_
  (refine gw ?_; refine LoopN.mk ⟨[0,1,5], fun vs L => ∃ i : Nat, vs = [.lst t_bool (l.map AV.bool), .lst t_bool (l.map AV.bool), i64 i] ∧ i ≤ l.length ∧ L = [], fun vs L => match vs with | [_, _, .int _ i] => l.length - i.toNat | _ => 0, [], [], rfl, ⟨0, rfl, by omega, rfl⟩, ?_⟩)
  rintro vs L ⟨i, rfl, hi, rfl⟩
  (refine gw ?_; first | refine IfB.dec (fun h2 => ?_) (fun h2 => ?_) | refine IfB.eq (fun h2 => ?_) (fun h2 => ?_) | refine IfB.ne (fun h2 => ?_) (fun h2 => ?_) | refine IfB.mk (fun h2 => ?_) (fun h2 => ?_))
  · have hlt : i < l.length := by omega
    (refine gw ?_; refine idx_map (hlt) ?_)
    (refine gw ?_; refine idx_map (hlt) ?_)
    (refine gw ?_)
    first | refine IfB.ff (by simp) ?_ | skip
    (refine gw ?_; refine ⟨[], [], rfl, ⟨i + 1, rfl, hlt, rfl⟩, (by omega : l.length - ((i : Int) + 1).toNat < l.length - (i : Int).toNat)⟩)
  · (refine gw ?_; exact RetN.mk ⟨[], rfl, rfl, rfl⟩)
end Go.Ev.W
namespace Go.Ev.W
open Go.Ev Go.Ev.N

theorem newM_of (r : Rw) : (newM r).2 = (ofF r).2 := by
  unfold newM
  split <;> simp_all
theorem hpNewI {r : Rw} (h : (newM r).2 = 0) : ∃ s, Hr (newM r).1 s ∧ Told P T heap_New [] [eR r] (.tup [.ptr 0 0 0, i64 0]) (hsL (newM r).1.c ((newM r).1.c.H / (newM r).1.c.G) ((newM r).1.c.L + 1) s ++ [.fz t_bool ((newM r).1.on.map .bool)]) := by
  have h2 : (ofF r).2 = 0 := by rw [← newM_of]; exact h
  refine ⟨_, newH_rel h2, ?_⟩
  have := hpNew_told r h2
  unfold newM
  rw [if_neg (by simpa using h2)]
  exact this
abbrev hI (m : Mo) (s : Hs) : List Blk := hsL m.c (m.c.H / m.c.G) (m.c.L + 1) s
end Go.Ev.W
namespace Go.Ev.W
open Go.Ev Go.Ev.N

theorem opsA_op {r : Rw} {n : Nat} {p : Pk} (ok : p.Ok) : ∀ o ∈ (opsA r n p).1, OpOk o := fun o ho => by
  obtain ⟨c, hc, hg⟩ := (opsA_ok n ok).2.2 o ho
  exact hg.ok hc
end Go.Ev.W
namespace Go.Ev.W
open Go.Ev Go.Ev.N

abbrev hI4 (m : Mo) (s : Hs) : List Blk := hsL4 m.c (m.c.H / m.c.G) (m.c.L + 1) s
end Go.Ev.W
namespace Go.Ev.W
open Go.Ev Go.Ev.N

/-- How much of a block lies in so much. -/
def inter (b : Bk) (z n : Int) : Int := max 0 (min (b.a + b.c) (z + n) - max b.a z)
def load (l : List Bk) (n t : Nat) : Int := (l.map fun b => inter b (t * n : Nat) n).sum
def sumT (f : Nat → Int) : Nat → Int
  | 0 => 0
  | t + 1 => sumT f t + f t
theorem sumT_add (f g : Nat → Int) : ∀ t, sumT (fun i => f i + g i) t = sumT f t + sumT g t
  | 0 => rfl
  | t + 1 => by show sumT _ t + (f t + g t) = (sumT f t + f t) + (sumT g t + g t); rw [sumT_add f g t]; omega
theorem sumT_zero : ∀ t, sumT (fun _ => 0) t = 0
  | 0 => rfl
  | t + 1 => by show sumT _ t + 0 = 0; rw [sumT_zero t]; rfl
theorem sumT_inter {b : Bk} (ha : 0 ≤ b.a) (hc : 1 ≤ b.c) (n : Nat) : ∀ t, sumT (fun i => inter b (i * n : Nat) n) t = max 0 (min (b.a + b.c) (t * n : Nat) - b.a)
  | 0 => by show (0 : Int) = _; rw [Nat.zero_mul]; omega
  | t + 1 => by
    show sumT _ t + inter b (t * n : Nat) n = _
    rw [sumT_inter ha hc n t, Nat.add_mul, Nat.one_mul]
    unfold inter
    generalize t * n = z
    omega
theorem load_cons (b : Bk) (l : List Bk) (n t : Nat) : load (b :: l) n t = inter b (t * n : Nat) n + load l n t := by simp [load]
theorem inter_nonneg (b : Bk) (z n : Int) : 0 ≤ inter b z n := by unfold inter; omega
theorem load_nonneg (n t : Nat) : ∀ l, 0 ≤ load l n t
  | [] => by simp [load]
  | b :: l => by have := load_nonneg n t l; have := inter_nonneg b (t * n : Nat) n; rw [load_cons]; omega
theorem load_ge {b : Bk} {n t : Nat} : ∀ {l}, b ∈ l → inter b (t * n : Nat) n ≤ load l n t
  | [], h => by simp at h
  | x :: l, h => by
    rw [load_cons]
    rcases List.mem_cons.1 h with rfl | h
    · have := load_nonneg n t l; omega
    · have := load_ge (n := n) (t := t) h; have := inter_nonneg x (t * n : Nat) n; omega
theorem sum_load (n t : Nat) : ∀ {l : List Bk}, (∀ x ∈ l, 0 ≤ x.a ∧ 1 ≤ x.c) → sumT (load l n) t ≤ totalB l
  | [], _ => by
    have : sumT (load [] n) t = 0 := sumT_zero t
    rw [this]; simp [totalB]
  | b :: l, h => by
    have ih := sum_load n t (l := l) fun x hx => h x (by simp [hx])
    have hb := h b (by simp)
    have e1 : sumT (load (b :: l) n) t = sumT (fun i => inter b (i * n : Nat) n) t + sumT (load l n) t := by
      rw [← sumT_add]
      exact congrArg (fun f => sumT f t) (funext fun i => load_cons b l n i)
    have e2 : totalB (b :: l) = b.c + totalB l := by simp only [totalB, List.map_cons, List.sum_cons]
    rw [e1, e2, sumT_inter hb.1 hb.2]
    omega
theorem sumT_ge {f : Nat → Int} {c : Int} (a : Nat) : ∀ u, (∀ t, a ≤ t → t < a + u → c ≤ f t) → sumT f a + u * c ≤ sumT f (a + u)
  | 0, _ => by simp
  | u + 1, h => by
    have ih := sumT_ge a u fun t h1 h2 => h t h1 (by omega)
    have := h (a + u) (by omega) (by omega)
    show _ ≤ sumT f (a + u) + f (a + u)
    have e : ((u + 1 : Nat) : Int) * c = u * c + c := by rw [Int.natCast_add, Int.add_mul]; omega
    rw [e]; omega
/-- Blocks of a class end at its ceiling or ahead of it. -/
def WiB (c : Cf) (x : Bk) : Prop := ∀ k : Nat, x.c = ((c.G * 2 ^ k : Nat) : Int) → x.a + x.c ≤ ((c.M + k * (c.M / 2) : Nat) : Int)
/-- What is met is filled, as far as the class of what meets it. -/
theorem met_load {c : Cf} (hc : c.Ok) {x : Bk} (hx : SzB c x) {k i t : Nat} (hw : WiB c x) (hi : i ≤ k) (hlo : i = 0 ∨ c.M + (i - 1) * (c.M / 2) ≤ t * (c.G * 2 ^ k)) (ha : 0 ≤ x.a) (hm : ((t * (c.G * 2 ^ k) : Nat) : Int) < x.a + x.c ∧ x.a < ((t * (c.G * 2 ^ k) : Nat) : Int) + ((c.G * 2 ^ k : Nat) : Int)) :
    ((c.G * 2 ^ i : Nat) : Int) ≤ inter x (t * (c.G * 2 ^ k) : Nat) (c.G * 2 ^ k : Nat) := by
  obtain ⟨j, hj, hj2, hj3, _⟩ := hx
  have hg := hc.gpos
  have hij : i ≤ j := by
    rcases hlo with h0 | h0
    · omega
    · apply Decidable.byContradiction
      intro hlt
      have h1 := hw j hj2
      have h2 : j * (c.M / 2) ≤ (i - 1) * (c.M / 2) := Nat.mul_le_mul_right _ (by omega)
      omega
  have hs : c.G * 2 ^ i ≤ c.G * 2 ^ j := Nat.mul_le_mul_left _ (Nat.pow_le_pow_right (by omega) hij)
  have hs2 : c.G * 2 ^ i ≤ c.G * 2 ^ k := Nat.mul_le_mul_left _ (Nat.pow_le_pow_right (by omega) hi)
  obtain ⟨v, hv⟩ := Int.dvd_of_emod_eq_zero hj3
  have hp1 : 1 ≤ c.G * 2 ^ j := Nat.mul_pos (by omega) (Nat.two_pow_pos _)
  have hv0 : 0 ≤ v := by
    rcases Int.lt_or_le v 0 with h' | h'
    · have : x.c * v ≤ x.c * (-1) := Int.mul_le_mul_of_nonneg_left (by omega) (by omega)
      omega
    · exact h'
  obtain ⟨v, rfl⟩ : ∃ n : Nat, v = n := ⟨v.toNat, by omega⟩
  have hA : x.a = ((v * (c.G * 2 ^ j) : Nat) : Int) := by rw [hv, hj2, ← Int.natCast_mul, Nat.mul_comm]
  unfold inter
  rw [hA, hj2] at hm ⊢
  rcases Nat.le_total j k with hjk | hjk
  · -- the block lies within
    have hq : c.G * 2 ^ k = c.G * 2 ^ j * 2 ^ (k - j) := by rw [Nat.mul_assoc, ← Nat.pow_add]; congr 2; omega
    have hq1 : 1 ≤ 2 ^ (k - j) := Nat.one_le_two_pow
    generalize 2 ^ (k - j) = w at *
    have e1 : t * (c.G * 2 ^ k) = t * w * (c.G * 2 ^ j) := by rw [hq, Nat.mul_comm (c.G * 2 ^ j) w, Nat.mul_assoc]
    have e2 : t * (c.G * 2 ^ k) + c.G * 2 ^ k = (t * w + w) * (c.G * 2 ^ j) := by rw [Nat.add_mul, ← e1, hq, Nat.mul_comm w]
    have l1 : t * w ≤ v := by
      have : t * w * (c.G * 2 ^ j) < (v + 1) * (c.G * 2 ^ j) := by rw [← e1, Nat.add_mul, Nat.one_mul]; omega
      have := Nat.lt_of_mul_lt_mul_right this
      omega
    have l2 : v + 1 ≤ t * w + w := by
      have : v * (c.G * 2 ^ j) < (t * w + w) * (c.G * 2 ^ j) := by rw [← e2]; omega
      have := Nat.lt_of_mul_lt_mul_right this
      omega
    have l3 : t * w * (c.G * 2 ^ j) ≤ v * (c.G * 2 ^ j) := Nat.mul_le_mul_right _ l1
    have l4 : (v + 1) * (c.G * 2 ^ j) ≤ (t * w + w) * (c.G * 2 ^ j) := Nat.mul_le_mul_right _ l2
    rw [← e1] at l3
    rw [← e2, Nat.add_mul, Nat.one_mul] at l4
    omega
  · have hq : c.G * 2 ^ j = c.G * 2 ^ k * 2 ^ (j - k) := by rw [Nat.mul_assoc, ← Nat.pow_add]; congr 2; omega
    generalize 2 ^ (j - k) = w at *
    have e1 : v * (c.G * 2 ^ j) = v * w * (c.G * 2 ^ k) := by rw [hq, Nat.mul_comm (c.G * 2 ^ k) w, Nat.mul_assoc]
    have e2 : v * (c.G * 2 ^ j) + c.G * 2 ^ j = (v * w + w) * (c.G * 2 ^ k) := by rw [Nat.add_mul, ← e1, hq, Nat.mul_comm w]
    have l1 : v * w ≤ t := by
      have : v * w * (c.G * 2 ^ k) < (t + 1) * (c.G * 2 ^ k) := by rw [← e1, Nat.add_mul, Nat.one_mul]; omega
      have := Nat.lt_of_mul_lt_mul_right this
      omega
    have l2 : t + 1 ≤ v * w + w := by
      have : t * (c.G * 2 ^ k) < (v * w + w) * (c.G * 2 ^ k) := by rw [← e2]; omega
      have := Nat.lt_of_mul_lt_mul_right this
      omega
    have l3 : v * w * (c.G * 2 ^ k) ≤ t * (c.G * 2 ^ k) := Nat.mul_le_mul_right _ l1
    have l4 : (t + 1) * (c.G * 2 ^ k) ≤ (v * w + w) * (c.G * 2 ^ k) := Nat.mul_le_mul_right _ l2
    rw [← e1] at l3
    rw [← e2, Nat.add_mul, Nat.one_mul] at l4
    omega
theorem Cf.Ok.half {c : Cf} (hc : c.Ok) {k : Nat} (hk : k ≤ c.L) : ∃ u, 1 ≤ u ∧ c.M / 2 = u * (c.G * 2 ^ k) ∧ c.M = 2 * u * (c.G * 2 ^ k) := by
  obtain ⟨q, hq⟩ := hc.m
  have hn := hc.n
  obtain ⟨e, he⟩ := hc.p
  have hm1 := hc.m1
  have hd : ∃ r, max c.N c.Pg = r * (c.G * 2 ^ k) := by
    rcases Nat.le_total c.Pg c.N with h1 | h1
    · rw [Nat.max_eq_left h1, hn]
      exact ⟨2 ^ (c.L - k), by rw [Nat.mul_left_comm, ← Nat.pow_add]; congr 2; omega⟩
    · rw [Nat.max_eq_right h1, he]
      rw [hn, he] at h1
      have h2 := Nat.le_of_mul_le_mul_left h1 (by have := hc.gpos; omega)
      have h3 := (Nat.pow_le_pow_iff_right (by omega : 1 < 2)).1 h2
      exact ⟨2 ^ (e - k), by rw [Nat.mul_left_comm, ← Nat.pow_add]; congr 2; omega⟩
  obtain ⟨r, hr⟩ := hd
  have e1 : c.M = 2 * (q * r) * (c.G * 2 ^ k) := by rw [hq, hr]; simp only [Nat.mul_assoc, Nat.mul_comm, Nat.mul_left_comm]
  refine ⟨q * r, ?_, ?_, e1⟩
  · rcases Nat.eq_zero_or_pos (q * r) with h | h
    · rw [h] at e1; omega
    · exact h
  · rw [e1, Nat.mul_assoc 2]; omega
/-- A place is free as long as sums say so, no higher than a class's ceiling. -/
theorem some_free' {c : Cf} (hc : c.Ok) {l : List Bk} (hl : ∀ x ∈ l, 0 ≤ x.a ∧ 1 ≤ x.c) (hz : ∀ x ∈ l, SzB c x) (hw : ∀ x ∈ l, WiB c x) {k : Nat} (hk : k ≤ c.L) (ht : totalB l < c.M) :
    ∃ t, t * (c.G * 2 ^ k) + c.G * 2 ^ k ≤ c.M + k * (c.M / 2) ∧ freeAt l (c.G * 2 ^ k : Nat) ((t * (c.G * 2 ^ k) : Nat) : Int) = true := by
  apply Classical.byContradiction
  intro hno
  obtain ⟨u, hu, hM2, hM⟩ := hc.half hk
  have hg := hc.gpos
  have hn1 : 1 ≤ c.G * 2 ^ k := Nat.mul_pos (by omega) (Nat.two_pow_pos _)
  have met : ∀ t, t * (c.G * 2 ^ k) + c.G * 2 ^ k ≤ c.M + k * (c.M / 2) → ∀ i, i ≤ k → (i = 0 ∨ c.M + (i - 1) * (c.M / 2) ≤ t * (c.G * 2 ^ k)) → ((c.G * 2 ^ i : Nat) : Int) ≤ load l (c.G * 2 ^ k) t := by
    intro t h1 i hi hlo
    have hf : ¬ freeAt l (c.G * 2 ^ k : Nat) ((t * (c.G * 2 ^ k) : Nat) : Int) = true := fun q => hno ⟨t, h1, q⟩
    rw [freeAt_iff] at hf
    obtain ⟨x, hf⟩ := Classical.not_forall.1 hf
    obtain ⟨hx, hf⟩ := Classical.not_forall.1 hf
    have hf := Decidable.of_not_not hf
    exact Int.le_trans (met_load hc (hz x hx) (hw x hx) hi hlo (hl x hx).1 hf) (load_ge hx)
  have step : ∀ i, i ≤ k → ((u * (c.G * 2 ^ (i + 1)) : Nat) : Int) ≤ sumT (load l (c.G * 2 ^ k)) (2 * u + i * u) := by
    intro i
    induction i with
    | zero =>
      intro _
      have := sumT_ge (f := load l (c.G * 2 ^ k)) (c := ((c.G * 2 ^ 0 : Nat) : Int)) 0 (2 * u) fun t _ h2 => met t (by
        have : (t + 1) * (c.G * 2 ^ k) ≤ 2 * u * (c.G * 2 ^ k) := Nat.mul_le_mul_right _ (by omega)
        rw [Nat.add_mul, Nat.one_mul] at this
        omega) 0 (by omega) (.inl rfl)
      have e0 : sumT (load l (c.G * 2 ^ k)) 0 = 0 := rfl
      rw [e0] at this
      have e1 : ((u * (c.G * 2 ^ (0 + 1)) : Nat) : Int) = ((2 * u : Nat) : Int) * ((c.G * 2 ^ 0 : Nat) : Int) := by
        rw [← Int.natCast_mul]; congr 1; simp only [Nat.pow_zero, Nat.zero_add, Nat.pow_one, Nat.mul_one]; rw [Nat.mul_comm c.G 2, ← Nat.mul_assoc, Nat.mul_comm u 2]
      rw [e1]
      simpa using this
    | succ i ih =>
      intro hik
      have h1 := ih (by omega)
      have := sumT_ge (f := load l (c.G * 2 ^ k)) (c := ((c.G * 2 ^ (i + 1) : Nat) : Int)) (2 * u + i * u) u fun t h2 h3 => met t (by
        have a1 : (t + 1) * (c.G * 2 ^ k) ≤ (2 * u + k * u) * (c.G * 2 ^ k) := Nat.mul_le_mul_right _ (by
          have : (i + 1) * u ≤ k * u := Nat.mul_le_mul_right _ hik
          rw [Nat.add_mul, Nat.one_mul] at this
          omega)
        rw [Nat.add_mul, Nat.one_mul, Nat.add_mul, ← hM, Nat.mul_assoc k u, ← hM2] at a1
        exact a1) (i + 1) hik (.inr (by
        have a2 : (2 * u + i * u) * (c.G * 2 ^ k) ≤ t * (c.G * 2 ^ k) := Nat.mul_le_mul_right _ h2
        rw [Nat.add_mul, ← hM, Nat.mul_assoc i u, ← hM2] at a2
        exact a2))
      have e1 : ((u * (c.G * 2 ^ (i + 1 + 1)) : Nat) : Int) = ((u * (c.G * 2 ^ (i + 1)) : Nat) : Int) + (u : Int) * ((c.G * 2 ^ (i + 1) : Nat) : Int) := by
        rw [← Int.natCast_mul, ← Int.natCast_add]
        congr 1
        rw [Nat.pow_succ 2 (i + 1), ← Nat.mul_assoc c.G, ← Nat.mul_assoc u]; omega
      have e2 : 2 * u + (i + 1) * u = 2 * u + i * u + u := by rw [Nat.add_mul, Nat.one_mul]; omega
      rw [e1, e2]
      omega
  have h1 := step k (Nat.le_refl _)
  have h2 := sum_load (c.G * 2 ^ k) (2 * u + k * u) hl
  have e : u * (c.G * 2 ^ (k + 1)) = c.M := by rw [hM, Nat.pow_succ, ← Nat.mul_assoc c.G]; rw [Nat.mul_comm 2 u, Nat.mul_assoc u, Nat.mul_comm 2]
  rw [e] at h1
  omega
end Go.Ev.W
namespace Go.Ev.W
open Go.Ev Go.Ev.N

theorem lowGo_hit {l : List Bk} {n : Nat} : ∀ (f k t : Nat), k ≤ t → t < k + f → freeAt l n ((t * n : Nat) : Int) = true → (lowGo l n f k).2 = true ∧ (lowGo l n f k).1 ≤ t * n
  | 0, k, t, h1, h2, _ => by omega
  | f + 1, k, t, h1, h2, h => by
    unfold lowGo
    by_cases h3 : freeAt l n (k * n : Nat) = true
    · rw [if_pos h3]
      exact ⟨rfl, Nat.mul_le_mul_right _ h1⟩
    · rw [if_neg h3]
      have : k ≠ t := fun e => h3 (by rw [e]; exact h)
      exact lowGo_hit f (k + 1) t (by omega) (by omega) h
theorem ceil_le {c : Cf} (hc : c.Ok) {k : Nat} (hk : k ≤ c.L) : c.M + k * (c.M / 2) ≤ c.H := by
  rw [hc.h]
  have := Nat.mul_le_mul_right (c.M / 2) hk
  omega
/-- There is always a place, and not too high. -/
theorem low_some {c : Cf} (hc : c.Ok) {l : List Bk} (ha : ApB c.H l) (hz : ∀ x ∈ l, SzB c x) (hw : ∀ x ∈ l, WiB c x) {k : Nat} (hk : k ≤ c.L) (ht : totalB l < c.M) :
    (lowF c l (c.G * 2 ^ k)).2 = true ∧ (lowF c l (c.G * 2 ^ k)).1 + c.G * 2 ^ k ≤ c.M + k * (c.M / 2) := by
  obtain ⟨t, h1, h2⟩ := some_free' hc (fun x hx => ⟨(ha.b x hx).1, (ha.b x hx).2.1⟩) hz hw hk ht
  have hn1 : 1 ≤ c.G * 2 ^ k := Nat.mul_pos (by have := hc.gpos; omega) (Nat.two_pow_pos _)
  have hH := ceil_le hc hk
  have htl : t < 0 + c.H / (c.G * 2 ^ k) := by
    have : (t + 1) * (c.G * 2 ^ k) ≤ c.H := by rw [Nat.add_mul, Nat.one_mul]; omega
    have := (Nat.le_div_iff_mul_le (by omega)).2 this
    omega
  have := lowGo_hit (l := l) (n := c.G * 2 ^ k) (c.H / (c.G * 2 ^ k)) 0 t (by omega) htl h2
  unfold lowF
  exact ⟨this.1, by omega⟩
def WiL (c : Cf) (l : List Bk) : Prop := ∀ x ∈ l, WiB c x
theorem wi_put {m : Mo} (hm : MoOk m) {l : List Bk} (ha : ApB m.c.H l) (hz : ∀ x ∈ l, SzB m.c x) (hw : WiL m.c l) {n : Nat} (hn : ∃ k, k ≤ m.c.L ∧ n = m.c.G * 2 ^ k) (q : Int) (ht : totalB l + n ≤ m.c.M) :
    (placeF m l n q).2.2 ≠ 7 ∧ ((placeF m l n q).2.2 = 0 → WiL m.c (placeF m l n q).1.bs) := by
  obtain ⟨k, hk, rfl⟩ := hn
  have hg := hm.c.gpos
  have hn1 : 1 ≤ m.c.G * 2 ^ k := Nat.mul_pos (by omega) (Nat.two_pow_pos _)
  obtain ⟨h1, h2⟩ := low_some hm.c ha hz hw hk (by omega)
  obtain ⟨j, e1, e2, e3, _⟩ := lowF_spec (c := m.c) (l := l) hn1 h1
  unfold placeF
  simp only
  rw [if_neg (by rw [h1]; simp)]
  split
  · exact ⟨by simp, fun h => by simp at h⟩
  · refine ⟨by simp, fun _ x hx => ?_⟩
    have hp := putB_ok ha (b := ⟨(lowF m.c l (m.c.G * 2 ^ k)).1, (m.c.G * 2 ^ k : Nat), q⟩) e3 ⟨by simp only; omega, by simp only; omega, by simp only; omega⟩
    rcases (hp.2.1 x).1 hx with rfl | hx
    · intro i hi
      have hi : m.c.G * 2 ^ k = m.c.G * 2 ^ i := Int.ofNat.inj hi
      have : k = i := by
        have := Nat.eq_of_mul_eq_mul_left (by omega) hi
        exact (Nat.pow_right_inj (by omega)).1 this
      subst this
      simp only
      omega
    · exact hw x hx
/-- No call is refused for want of a place; each class stays below its ceiling. -/
theorem wi_do {m : Mo} (hm : MoOk m) (hw : WiL m.c m.bs) {o : X.O} (ho : OpOk o) : (doF m o).2.e ≠ 7 ∧ WiL m.c (doF m o).1.bs := by
  have nE : ∀ live s a, (newF m.c live s a).2 ≠ 7 := fun live s a => by
    unfold newF
    split
    · unfold chargeF
      split
      · simp
      · split <;> simp
    · split <;> simp
  have mE : ∀ live k s, (manyF m.c live k s).2 ≠ 7 := fun live k s => by
    unfold manyF
    split
    · unfold prodF
      split
      · simp
      · split <;> simp
    · exact nE _ _ _
  unfold doF
  split
  · unfold giveF
    simp only
    by_cases h2 : o.k = 2
    · simp only [if_pos h2]
      split
      · exact ⟨mE _ _ _, hw⟩
      · rename_i h1
        have hM := manyF_ok hm.c (Decidable.of_not_not h1)
        have hp := wi_put hm hm.a hm.z hw hM.1 (o.n * o.s) (by rw [← hm.l]; exact hM.2.2.2.1)
        split
        · exact ⟨hp.1, hw⟩
        · rename_i h3
          exact ⟨by simp [an0], hp.2 (Decidable.of_not_not h3)⟩
    · simp only [if_neg h2]
      generalize (if o.k = 3 then o.a else 1) = al
      split
      · exact ⟨nE _ _ _, hw⟩
      · rename_i h1
        have hN := newF_ok hm.c (Decidable.of_not_not h1)
        have hp := wi_put hm hm.a hm.z hw hN.1 o.s (by rw [← hm.l]; exact hN.2.2.2)
        split
        · exact ⟨hp.1, hw⟩
        · rename_i h3
          exact ⟨by simp [an0], hp.2 (Decidable.of_not_not h3)⟩
  · split
    · exact ⟨by simp [an0], hw⟩
    · split
      · exact ⟨by simp [an0], hw⟩
      · split
        · split
          · exact ⟨by simp [anE], hw⟩
          · rename_i i hf
            obtain ⟨hi, _⟩ := findB_lt hf
            have hg : m.bs.getD i bk0 = m.bs[i] := by simp [List.getD_eq_getElem?_getD, hi]
            have hdt := dropB_tot hi
            have hds := dropB_sub m.bs i
            have hwd : WiL m.c (dropB m.bs i) := fun x hx => hw x (hds.subset hx)
            unfold ofB
            rw [hg]
            simp only
            split
            · split
              · exact ⟨nE _ _ _, hw⟩
              · rename_i h1
                have hN := newF_ok hm.c (Decidable.of_not_not h1)
                have hp := wi_put hm (hm.a.sub hds) (fun x hx => hm.z x (hds.subset hx)) hwd hN.1 o.s (by rw [hdt, ← hm.l]; exact hN.2.2.2)
                split
                · exact ⟨hp.1, hw⟩
                · rename_i h3
                  exact ⟨by simp [an0], hp.2 (Decidable.of_not_not h3)⟩
            · split
              · exact ⟨by simp [an0], hwd⟩
              · split
                · exact ⟨by simp [an0], hw⟩
                · split
                  · exact ⟨by simp [anE], hw⟩
                  · split
                    · exact ⟨by simp [an0], hw⟩
                    · exact ⟨by simp [an0], hw⟩
        · exact ⟨by simp [anE], hw⟩
theorem wi_new {r : Rw} : WiL (newM r).1.c (newM r).1.bs := fun x hx => by
  have : (newM r).1.bs = [] := by unfold newM; split <;> rfl
  rw [this] at hx; simp at hx
end Go.Ev.W
namespace Go.Ev.W
open Go.Ev Go.Ev.N

def setP (p : Nat) (m : Mo) : Mo := { m with c := { m.c with P := p } }
theorem cnt_le {n : Nat} (f : Nat → Bool) : cntB ((List.range n).map f) ≤ n := by
  unfold cntB
  refine Nat.le_trans (List.length_filter_le _ _) ?_
  simp
theorem commit_enough {on met : List Bool} {f b most : Nat} (h : on.length ≤ most) : commitF on met f b most = ((List.range on.length).map (needF on f b), freshL on f b on.length, true) := by
  rw [commitF_eq]
  have h1 := cnt_le (n := on.length) (needF met f b)
  have h2 := cnt_le (n := on.length) (needF on f b)
  rw [if_neg (by omega), if_neg (by omega)]
theorem en_place {m : Mo} {p : Nat} (h1 : m.on.length ≤ m.c.P) (h2 : m.on.length ≤ p) (l : List Bk) (ch : Nat) (q : Int) : placeF (setP p m) l ch q = (setP p (placeF m l ch q).1, (placeF m l ch q).2) ∧ (placeF m l ch q).2.2 ≠ 6 := by
  have e1 : lowF (setP p m).c l ch = lowF m.c l ch := rfl
  unfold placeF
  simp only
  rw [e1]
  by_cases h : (lowF m.c l ch).2 = false
  · rw [if_pos h, if_pos h]
    exact ⟨rfl, by simp⟩
  · rw [if_neg h, if_neg h]
    rw [show (setP p m).on = m.on from rfl, show (setP p m).c.P = p from rfl, show (setP p m).c.Pg = m.c.Pg from rfl, show (setP p m).c.H = m.c.H from rfl, commit_enough h1, commit_enough h2]
    exact ⟨rfl, by simp⟩
theorem en_do {m : Mo} {p : Nat} (h1 : m.on.length ≤ m.c.P) (h2 : m.on.length ≤ p) (o : X.O) : doF (setP p m) o = (setP p (doF m o).1, (doF m o).2) ∧ (doF m o).2.e ≠ 6 := by
  have nE : ∀ live s a, (newF m.c live s a).2 ≠ 6 := fun live s a => by
    unfold newF
    split
    · unfold chargeF
      split
      · simp
      · split <;> simp
    · split <;> simp
  have mE : ∀ live k s, (manyF m.c live k s).2 ≠ 6 := fun live k s => by
    unfold manyF
    split
    · unfold prodF
      split
      · simp
      · split <;> simp
    · exact nE _ _ _
  have new : ∀ live s a, newF (setP p m).c live s a = newF m.c live s a := fun live s a => rfl
  have many : ∀ live k s, manyF (setP p m).c live k s = manyF m.c live k s := fun live k s => rfl
  unfold doF
  by_cases h3 : o.k = 1 ∨ o.k = 3 ∨ o.k = 2
  · rw [if_pos h3, if_pos h3]
    unfold giveF
    simp only
    rw [new, many, show (setP p m).live = m.live from rfl, show (setP p m).bs = m.bs from rfl]
    by_cases h4 : o.k = 2
    · simp only [if_pos h4]
      have hp := en_place h1 h2 m.bs (manyF m.c m.live o.n o.s).1 (o.n * o.s)
      rw [hp.1]
      have hE := mE m.live o.n o.s
      generalize manyF m.c m.live o.n o.s = C at *
      by_cases h5 : C.2 ≠ 0
      · rw [if_pos h5, if_pos h5]; exact ⟨rfl, hE⟩
      · rw [if_neg h5, if_neg h5]
        simp only
        generalize placeF m m.bs C.1 (o.n * o.s) = D at *
        by_cases h6 : D.2.2 ≠ 0
        · rw [if_pos h6, if_pos h6]; exact ⟨rfl, hp.2⟩
        · rw [if_neg h6, if_neg h6]; exact ⟨rfl, by simp [an0]⟩
    · simp only [if_neg h4]
      generalize (if o.k = 3 then o.a else 1) = al
      have hp := en_place h1 h2 m.bs (newF m.c m.live o.s al).1 o.s
      rw [hp.1]
      have hE := nE m.live o.s al
      generalize newF m.c m.live o.s al = C at *
      by_cases h5 : C.2 ≠ 0
      · rw [if_pos h5, if_pos h5]; exact ⟨rfl, hE⟩
      · rw [if_neg h5, if_neg h5]
        simp only
        generalize placeF m m.bs C.1 o.s = D at *
        by_cases h6 : D.2.2 ≠ 0
        · rw [if_pos h6, if_pos h6]; exact ⟨rfl, hp.2⟩
        · rw [if_neg h6, if_neg h6]; exact ⟨rfl, by simp [an0]⟩
  rw [if_neg h3, if_neg h3]
  by_cases h9 : o.k = 9
  · rw [if_pos h9, if_pos h9]; exact ⟨rfl, by simp [an0]⟩
  rw [if_neg h9, if_neg h9]
  by_cases h10 : o.k = 10
  · rw [if_pos h10, if_pos h10]; exact ⟨rfl, by simp [an0]⟩
  rw [if_neg h10, if_neg h10]
  by_cases hb : o.k = 4 ∨ o.k = 5 ∨ o.k = 6 ∨ o.k = 7 ∨ o.k = 8
  case neg => rw [if_neg hb, if_neg hb]; exact ⟨rfl, by simp [anE]⟩
  rw [if_pos hb, if_pos hb, show (setP p m).bs = m.bs from rfl]
  cases hf : findB m.bs o.p with
  | none => exact ⟨rfl, by simp [anE]⟩
  | some i =>
    simp only
    unfold ofB
    rw [show (setP p m).bs = m.bs from rfl]
    simp only
    by_cases h4 : o.k = 4
    · rw [if_pos h4, if_pos h4, new, show (setP p m).live = m.live from rfl]
      have hp := en_place h1 h2 (dropB m.bs i) (newF m.c (m.live - (m.bs.getD i bk0).c) o.s 1).1 o.s
      rw [hp.1]
      have hE := nE (m.live - (m.bs.getD i bk0).c) o.s 1
      generalize newF m.c (m.live - (m.bs.getD i bk0).c) o.s 1 = C at *
      by_cases h5 : C.2 ≠ 0
      · rw [if_pos h5, if_pos h5]; exact ⟨rfl, hE⟩
      · rw [if_neg h5, if_neg h5]
        simp only
        generalize placeF m (dropB m.bs i) C.1 o.s = D at *
        by_cases h6 : D.2.2 ≠ 0
        · rw [if_pos h6, if_pos h6]; exact ⟨rfl, hp.2⟩
        · rw [if_neg h6, if_neg h6]; exact ⟨rfl, by simp [an0]⟩
    rw [if_neg h4, if_neg h4]
    by_cases h5 : o.k = 5
    · rw [if_pos h5, if_pos h5]; exact ⟨rfl, by simp [an0]⟩
    rw [if_neg h5, if_neg h5]
    by_cases h6 : o.k = 6
    · rw [if_pos h6, if_pos h6]; exact ⟨rfl, by simp [an0]⟩
    rw [if_neg h6, if_neg h6]
    by_cases h7 : o.n < 0 ∨ o.n ≥ (m.bs.getD i bk0).c
    · rw [if_pos h7, if_pos h7]; exact ⟨rfl, by simp [anE]⟩
    rw [if_neg h7, if_neg h7]
    by_cases h8 : o.k = 7
    · rw [if_pos h8, if_pos h8]; exact ⟨rfl, by simp [an0]⟩
    · rw [if_neg h8, if_neg h8]; exact ⟨rfl, by simp [an0]⟩
theorem newM_budget {r : Rw} {p : Nat} (hp : p ≤ 65536) (h : (newM r).2 = 0) : newM { r with b := p } = (setP p (newM r).1, 0) := by
  have h0 : (ofF r).2 = 0 := by rw [← newM_of]; exact h
  have hk := ofF_ok h0
  have hr := hk.2.1
  have hs : ({ r with b := p } : Rw).ok = true := by
    simp only [Rw.ok, Bool.and_eq_true, decide_eq_true_eq] at hr ⊢
    exact ⟨⟨hr.1.1, by omega⟩, hr.2⟩
  have e1 : cfOf { r with b := p } = { cfOf r with P := p } := by
    unfold cfOf
    simp
  have hH : (cfOf r).H ≤ 65536 := by rw [← hk.2.2]; exact hk.1.h2
  have e2 : ofF { r with b := p } = ({ cfOf r with P := p }, 0) := by
    unfold ofF
    rw [if_pos ⟨hs, by rw [e1]; exact hH⟩, e1]
  have e3 : ofF r = (cfOf r, 0) := Prod.ext hk.2.2 h0
  unfold newM
  rw [e2, e3]; rfl
end Go.Ev.W
namespace Go.Ev.W
open Go.Ev Go.Ev.N

theorem divH {c : Cf} : (((c.H : Nat) : Int)).tdiv ((c.Pg : Nat) : Int) = ((c.H / c.Pg : Nat) : Int) := Int.ofNat_tdiv _ _
set_option maxRecDepth 20000 in
set_option maxHeartbeats 8000000 in
theorem heapEnough_told {a b : List Nat} {mo : Nat} (ha : IsB a) (hla : a.length ≤ maxLen) (hb : IsB b) (hlb : b.length ≤ maxLen) (hmo : mo < 256) : Told P T law18_HeapEnough [] [lB a, lB b, u8 mo] (.bool true) [] := by
  have hua : (a.map u8).length = a.length := by simp
  have hub : (b.map u8).length = b.length := by simp
  have oka : (⟨a, 0⟩ : Pk).Ok := ⟨ha, Nat.zero_le _, hla⟩
  have okb : (⟨b, 0⟩ : Pk).Ok := ⟨hb, Nat.zero_le _, hlb⟩
  have t1 := raw_told ⟨a, 0⟩ oka true
  have hsm := small_of (rawF_s ⟨a, 0⟩ true)
  have hok0 := hsm.1
  rw [← newM_of] at hok0
  generalize rawF ⟨a, 0⟩ true = R at *
  obtain ⟨r, pa⟩ := R
  have hok0 : (newM r).2 = 0 := hok0
  have hm0 := newM_ok hok0
  have hMb : (newM r).1.c.M ≤ 405 ∧ (newM r).1.c.L ≤ 7 := by
    have h1 : (newM r).1.c = cfOf r := by
      have := hsm.1
      unfold newM
      rw [if_neg (by rw [hsm.1]; simp)]
      exact hsm.2.1
    rw [h1]
    exact ⟨hsm.2.2.2.2.1, hsm.2.2.2.2.2.1⟩
  have n2 := new17_told r
  have hHb : (newM r).1.c.H / (newM r).1.c.Pg ≤ 10000 := by
    have h1 := hm0.c.h
    have h2 : (newM r).1.c.L * ((newM r).1.c.M / 2) ≤ 7 * 405 := Nat.mul_le_mul hMb.2 (by omega)
    have := Nat.div_le_self (newM r).1.c.H (newM r).1.c.Pg
    omega
  have hdv := divH (c := (newM r).1.c)
  have bu := fun p (hp : p ≤ 65536) => newM_budget (r := r) hp hok0
  generalize hp1 : (newM r).1.c.H / (newM r).1.c.Pg = p1 at *
  have hon0 := hm0.o
  have hpg := hm0.c.pgpos
  rw [hp1] at hon0
  have bu1 := bu p1 (by omega)
  have bu2 := bu (p1 + mo) (by omega)
  obtain ⟨s1, hr1, k1⟩ := hpNewI (r := { r with b := p1 }) (by rw [bu1])
  obtain ⟨s2, hr2, k2⟩ := hpNewI (r := { r with b := ((p1 + mo : Nat) : Int) }) (by rw [bu2])
  have hm1 : MoOk (newM { r with b := p1 }).1 := newM_ok (by rw [bu1])
  have hm2 : MoOk (newM { r with b := ((p1 + mo : Nat) : Int) }).1 := newM_ok (by rw [bu2])
  have w1 := wi_new (r := { r with b := p1 })
  rw [bu1] at hr1 k1 hm1 w1
  rw [bu2] at hr2 k2 hm2
  have o1 := ops_told { r with b := p1 } (n := 40) (by omega) okb
  have oo := opsA_op (r := { r with b := p1 }) (n := 40) okb
  have ol := (opsA_ok (r := { r with b := p1 }) 40 okb).2.1
  generalize opsA { r with b := p1 } 40 ⟨b, 0⟩ = A at *
  obtain ⟨os, pb⟩ := A
  have o1 : Told P T mk_Picks_Ops [pkB ⟨b, 0⟩] [.ptr 0 0 0, eR { r with b := p1 }, i64 40] (.lst t_api_Op (os.map X.encO)) [pkB pb] := o1
  have hom : (os.map X.encO).length = os.length := by simp
  have oo : ∀ o ∈ os, OpOk o := oo
  have ol : os.length ≤ 40 := ol
  have hr2' : Hr (setP (p1 + mo) (setP p1 (newM r).1)) s2 := hr2
  have hm2' : MoOk (setP (p1 + mo) (setP p1 (newM r).1)) := hm2
  have hP1 : (setP p1 (newM r).1).c.P = p1 := rfl
  have hon1 : (setP p1 (newM r).1).on.length = p1 := hon0
  have k2' : Told P T heap_New [] [eR { r with b := ((p1 + mo : Nat) : Int) }] (.tup [.ptr 0 0 0, i64 0]) (hI (setP (p1 + mo) (setP p1 (newM r).1)) s2 ++ [.fz t_bool ((newM r).1.on.map .bool)]) := k2
  have k1' : Told P T heap_New [] [eR { r with b := p1 }] (.tup [.ptr 0 0 0, i64 0]) (hI (setP p1 (newM r).1) s1 ++ [.fz t_bool ((newM r).1.on.map .bool)]) := k1
  clear k1 k2 hr2 hm2 bu1 bu2 bu
  have hdv2 : (((newM r).1.c.H : Nat) : Int).tdiv ((newM r).1.c.Pg : Nat) = ((p1 : Nat) : Int) := hdv
  generalize newM r = M at *
  obtain ⟨m0, e⟩ := M
  have hok0 : e = 0 := hok0
  subst hok0
  simp only at *
  generalize setP p1 m0 = ma at *
  unfold eR at *
  refine told_of_ev (fn := law18_HeapEnough_fn) tabOk mixed (by kernel_rfl) (by kernel_rfl) (by kernel_rfl) (by kernel_rfl) ?_
  (refine gw ?_; refine Choice.mk ⟨false, Choice.mk ⟨false, _, _, begun18_told, ?_⟩⟩)
  by_cases h6 : a.length > 6
  · (refine gw ?_; refine IfB.tt (by rw [hua]; simp; omega) ?_)
    (refine gw ?_; exact RetN.mk ⟨[], rfl, rfl, rfl⟩)
  (refine gw ?_; refine IfB.ff (by rw [hua]; simp; omega) ?_)
  by_cases h7 : b.length > 150
  · (refine gw ?_; refine IfB.tt (by rw [hub]; simp; omega) ?_)
    (refine gw ?_; exact RetN.mk ⟨[], rfl, rfl, rfl⟩)
  (refine gw ?_; refine IfB.ff (by rw [hub]; simp; omega) ?_)
  (refine gw ?_; refine Choice.mk ⟨false, Choice.mk ⟨false, _, _, made_told a, ?_⟩⟩)
  (refine gw ?_; refine Choice.mk ⟨true, Choice.mk ⟨false, _, _, t1, ?_⟩⟩)
  (refine gw ?_; refine Choice.mk ⟨false, Choice.mk ⟨false, _, _, n2, ?_⟩⟩)
  (refine gw ?_)
  rw [hdv2]
  have ecast : ((p1 : Nat) : Int) + ((mo : Nat) : Int) = ((p1 + mo : Nat) : Int) := by omega
  rw [← ecast] at k2'
  (refine gw ?_; refine Choice.mk ⟨false, Choice.mk ⟨false, _, _, k1', ?_⟩⟩)
  (refine gw ?_; refine Choice.mk ⟨false, Choice.mk ⟨false, _, _, k2', ?_⟩⟩)
  (refine gw ?_; refine Choice.mk ⟨false, Choice.mk ⟨false, _, _, made_told b, ?_⟩⟩)
  (refine gw ?_; refine Choice.mk ⟨true, Choice.mk ⟨false, _, _, o1, ?_⟩⟩)
  (refine gw ?_; refine LoopN.mk ⟨[11,13,15,16], fun vs L => ∃ (k : Nat) (m : Mo) (s s2 : Hs), vs = [.ptr 0 0 0, .ptr 4 0 0, .lst t_api_Op (os.map X.encO), i64 k] ∧ L = hI m s ++ hI4 (setP (p1 + mo) m) s2 ∧ k ≤ os.length ∧ MoOk m ∧ MoOk (setP (p1 + mo) m) ∧ Hr m s ∧ Hr (setP (p1 + mo) m) s2 ∧ WiL m.c m.bs ∧ m.c.P = p1 ∧ m.on.length = p1, fun vs L => match vs with | [_, _, _, .int _ i] => os.length - i.toNat | _ => 0, [], [7,8,9,10,12,13,14,15], rfl, ⟨0, ma, s1, s2, rfl, rfl, by omega, hm1, hm2', hr1, hr2', w1, hP1, hon1⟩, ?_⟩)
  rintro vs L ⟨k, m, s, s2, rfl, rfl, hk, hm, hn, hr, hr2, hw, hP, hon⟩
  have e1 : m.on.length ≤ m.c.P := by omega
  have e2 : m.on.length ≤ p1 + mo := by omega
  by_cases hko : k < os.length
  · have ho := oo _ (List.getElem_mem hko)
    obtain ⟨s', hr', d1⟩ := hpDoI hr hm ho
    obtain ⟨s2', hr2', d2⟩ := hpDoI hr2 hn ho
    have hd := doF_ok hm ho
    have hd2 := doF_ok hn ho
    have hen := en_do e1 e2 os[k]
    have hwd := wi_do hm hw ho
    rw [hen.1] at hr2' d2 hd2
    have hno := hd.1.o
    rw [hd.2] at hno
    have hon' : (doF m os[k]).1.on.length = p1 := by rw [hno, ← hm.o]; exact hon
    have hP' : (doF m os[k]).1.c.P = p1 := by rw [hd.2]; exact hP
    have hw' : WiL (doF m os[k]).1.c (doF m os[k]).1.bs := by rw [hd.2]; exact hwd.2
    have hE6 := hen.2
    have hE7 := hwd.1
    clear hen hwd hno
    generalize doF m os[k] = D at *
    obtain ⟨m', an'⟩ := D
    (refine gw ?_; refine IfB.tt (by rw [hom]; simp; omega) ?_)
    (refine gw ?_; refine idx_map (hko) ?_)
    (refine gw ?_; refine Choice.mk ⟨false, Choice.mk ⟨false, _, _, d1, ?_⟩⟩)
    (refine gw ?_; refine idx_map (hko) ?_)
    (refine gw ?_; refine Choice.mk ⟨false, Choice.mk ⟨false, _, _, d2, ?_⟩⟩)
    (refine gw ?_; refine IfB.ff (by simp; simp at hE6; omega) ?_)
    (refine gw ?_; refine IfB.ff (by simp; simp at hE7; omega) ?_)
    (refine gw ?_; refine ⟨[], [0,1,2,3,4,5,6,7], rfl, ⟨k + 1, m', s', s2', rfl, rfl, hko, hd.1, hd2.1, hr', hr2', hw', hP', hon'⟩, (by omega : os.length - ((k : Int) + 1).toNat < os.length - (k : Int).toNat)⟩)
  have hbm := hm.bd
  have b1 := hpBlocksI hr hm
  have b2 := hpBlocksI hr2 hn
  have q1 := hpPagesI hr hm
  have q2 := hpPagesI hr2 hn
  have c1 := sameBlocksR m.bs hbm.1
  have c2 := sameBoolsR m.on hbm.2.1
  (refine gw ?_; refine IfB.ff (by rw [hom]; simp; omega) ?_)
  (refine gw ?_; refine Choice.mk ⟨false, Choice.mk ⟨true, _, _, b1, Need.mk rfl ?_⟩⟩)
  (refine gw ?_; refine Choice.mk ⟨false, Choice.mk ⟨true, _, _, b2, Need.mk rfl ?_⟩⟩)
  (refine gw ?_; refine Choice.mk ⟨false, Choice.mk ⟨false, _, _, c1, ?_⟩⟩)
  (refine gw ?_; refine Choice.mk ⟨false, Choice.mk ⟨true, _, _, q1, Need.mk rfl ?_⟩⟩)
  (refine gw ?_; refine Choice.mk ⟨false, Choice.mk ⟨true, _, _, q2, Need.mk rfl ?_⟩⟩)
  (refine gw ?_; refine Choice.mk ⟨false, Choice.mk ⟨false, _, _, c2, ?_⟩⟩)
  (refine gw ?_; exact RetN.mk ⟨[], rfl, rfl, rfl⟩)
theorem heapEnough {x0 x1 x2 : AV} (h0 : Shp T 8 ts_uint8 x0) (h1 : Shp T 8 ts_uint8 x1) (h2 : Shp T 8 t_uint8 x2) : Told P T law18_HeapEnough [] [x0, x1, x2] (.bool true) [] := by
  obtain ⟨a, rfl, ha, hla⟩ := shp_bytes h0
  obtain ⟨b, rfl, hb, hlb⟩ := shp_bytes h1
  obtain ⟨c, rfl, hc⟩ := shp_u8 (by kernel_rfl) h2
  exact heapEnough_told ha hla hb hlb hc
end Go.Ev.W
