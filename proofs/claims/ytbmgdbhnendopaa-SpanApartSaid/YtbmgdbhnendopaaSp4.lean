/- Words and lemmas for the law s of this seat (a part of its proof). -/
import Derived.Test.YtbmgdbhnendopaaSp3
import Derived.Test.YtbmgdbhnendopaaKmap
set_option linter.unusedVariables false
set_option linter.unusedSimpArgs false
namespace Go.Ev.W
open Go.Ev Go.Ev.N

/-- What the map holds: of each beginning the last piece's number, and one. -/
def lastS (y : Int) : List Sp → Nat → Nat
  | [], r => r
  | x :: l, r => lastS y l (if x.a = y then r + 1 else r)
/-- The entries of the map behind i pieces. -/
def entS : List Sp → List (AV × AV) → Int → List (AV × AV)
  | [], es, _ => es
  | x :: l, es, k => entS l (mset es (eS ⟨x.a, 0⟩) (i64 (k + 1))) (k + 1)
theorem entS_succ : ∀ {l : List Sp} {es : List (AV × AV)} {k : Int} {i : Nat} (h : i < l.length), entS (l.take (i + 1)) es k = mset (entS (l.take i) es k) (eS ⟨l[i].a, 0⟩) (i64 (k + i + 1))
  | x :: l, es, k, 0, _ => by simp [entS]
  | x :: l, es, k, i + 1, h => by
    have := entS_succ (l := l) (es := mset es (eS ⟨x.a, 0⟩) (i64 (k + 1))) (k := k + 1) (i := i) (by simpa using h)
    simp only [List.take_succ_cons, entS, List.getElem_cons_succ]
    rw [this]
    have e : k + 1 + (i : Int) + 1 = k + ((i + 1 : Nat) : Int) + 1 := by omega
    rw [e]
def kS (x : Int) : AV := eS ⟨x, 0⟩
theorem kS_key : KeyOf kS := fun x y => by simp [eqKey, eqKeys, kS, eS]
theorem entS_is {l : List Sp} : ∀ i, i ≤ l.length → ∃ g, MapIs kS (entS (l.take i) [] 0) g ∧
    ∀ y, (g y = none ∧ ∀ k (h : k < l.length), k < i → l[k].a ≠ y) ∨ ∃ k, ∃ h : k < l.length, k < i ∧ l[k].a = y ∧ g y = some (i64 (k + 1 : Nat)) ∧ ∀ j (h : j < l.length), k < j → j < i → l[j].a ≠ y
  | 0, _ => ⟨_, MapIs.nil kS, fun y => .inl ⟨rfl, fun k _ h => by omega⟩⟩
  | i + 1, hi => by
    obtain ⟨g, m, hg⟩ := entS_is (l := l) i (by omega)
    have hlt : i < l.length := by omega
    rw [entS_succ hlt]
    refine ⟨_, m.set kS_key l[i].a _, fun y => ?_⟩
    by_cases hy : y = l[i].a
    · right
      refine ⟨i, hlt, by omega, hy.symm, ?_, fun j _ h1 h2 => by omega⟩
      rw [if_pos hy]
      congr 1; show AV.int .i64 _ = AV.int .i64 _; congr 1; omega
    · simp only [if_neg hy]
      rcases hg y with ⟨h1, h2⟩ | ⟨k, hk, h1, h2, h3, h4⟩
      · refine .inl ⟨h1, fun k hk hki => ?_⟩
        rcases Nat.lt_or_ge k i with h' | h'
        · exact h2 k hk h'
        · have : k = i := by omega
          subst this; exact Ne.symm hy
      · refine .inr ⟨k, hk, by omega, h2, h3, fun j hj h5 h6 => ?_⟩
        rcases Nat.lt_or_ge j i with h' | h'
        · exact h4 j hj h5 h'
        · have : j = i := by omega
          subst this; exact Ne.symm hy
theorem mayFrom_lt {e : Int} : ∀ {l : List Sp}, mayFrom e l = true → ∀ {i j : Nat} (hj : j < l.length) (h : i < j), e ≤ l[i].a ∧ l[i].a < l[j].a
  | [], _, i, j, hj, _ => by simp at hj
  | x :: l, hm, i, j + 1, hj, h => by
    simp only [mayFrom, Bool.and_eq_true, decide_eq_true_eq] at hm
    obtain ⟨⟨h1, h2⟩, h3⟩ := hm
    simp [oneB] at h1
    cases i with
    | zero =>
      refine ⟨h2, ?_⟩
      have hj' : j < l.length := by simpa using hj
      have key : x.a + x.n ≤ l[j].a := by
        cases j with
        | zero =>
          cases l with
          | nil => simp at hj'
          | cons y l => simp only [mayFrom, Bool.and_eq_true, decide_eq_true_eq] at h3; exact h3.1.2
        | succ j => have := mayFrom_lt h3 (i := 0) (j := j + 1) hj' (by omega); omega
      show x.a < l[j].a
      omega
    | succ i =>
      have := mayFrom_lt h3 (i := i) (j := j) (by simpa using hj) (by omega)
      simp only [List.getElem_cons_succ]
      exact ⟨by omega, this.2⟩

set_option maxHeartbeats 1000000 in
theorem cut_told (l : List Sp) (y : Int) (hl : l.length ≤ 100000) (hm : mayFrom 0 l = true) : Told P T span_Cut [] [lS l, i64 y] (.tup [lS (cutF l y).1, eS (cutF l y).2.1, .bool (cutF l y).2.2]) [] := by
  have hml : (l.map eS).length = l.length := by simp
  refine told_of_ev (fn := span_Cut_fn) tabOk mixed (by kernel_rfl) (by kernel_rfl) (by kernel_rfl) (by kernel_rfl) ?_
  repeat ((conv => whnf); first | (refine Sure.mk (by kernel_rfl) ?_) | (refine IfB.tt rfl ?_) | (refine IfB.ff rfl ?_) | (refine IfB.tt ?_ ?_; (focus (simp <;> fail))) | (refine IfB.ff ?_ ?_; (focus (simp <;> fail))) | (refine fits (wrap64 ?_ ?_) ?_; (focus omega); (focus omega)) | (refine Need.mk ?_ ?_; (focus omega)) | (refine InB.mk ?_ ?_ ?_; (focus omega); (focus omega)))
  ((repeat ((conv => whnf); first | (refine Sure.mk (by kernel_rfl) ?_) | (refine IfB.tt rfl ?_) | (refine IfB.ff rfl ?_) | (refine IfB.tt ?_ ?_; (focus (simp <;> fail))) | (refine IfB.ff ?_ ?_; (focus (simp <;> fail))) | (refine fits (wrap64 ?_ ?_) ?_; (focus omega); (focus omega)) | (refine Need.mk ?_ ?_; (focus omega)) | (refine InB.mk ?_ ?_ ?_; (focus omega); (focus omega)))); (try (conv => whnf)); refine LoopN.mk ⟨[0,1,5,7,13,14,15], fun vs L => ∃ i : Nat, vs = [lS l, i64 y, .ptr 0 0 0, .mp 1, lS l, i64 (l.map eS).length, i64 i] ∧ L = [.var (eS ⟨0, 0⟩), .map t_api_Span (entS (l.take i) [] 0)] ∧ i ≤ l.length, fun vs L => match vs with | [_, _, _, _, _, _, .int _ i] => l.length - i.toNat | _ => 0, [], [1, 2], rfl, ⟨0, rfl, rfl, by omega⟩, ?_⟩)
  rintro vs L ⟨i, rfl, rfl, hi⟩
  ((repeat ((conv => whnf); first | (refine Sure.mk (by kernel_rfl) ?_) | (refine IfB.tt rfl ?_) | (refine IfB.ff rfl ?_) | (refine IfB.tt ?_ ?_; (focus (simp <;> fail))) | (refine IfB.ff ?_ ?_; (focus (simp <;> fail))) | (refine fits (wrap64 ?_ ?_) ?_; (focus omega); (focus omega)) | (refine Need.mk ?_ ?_; (focus omega)) | (refine InB.mk ?_ ?_ ?_; (focus omega); (focus omega)))); (try (conv => whnf)); first | refine IfB.dec (fun h1 => ?_) (fun h1 => ?_) | refine IfB.eq (fun h1 => ?_) (fun h1 => ?_) | refine IfB.ne (fun h1 => ?_) (fun h1 => ?_) | refine IfB.mk (fun h1 => ?_) (fun h1 => ?_))
  · have hlt : i < l.length := by omega
    have he := entS_succ (es := []) (k := 0) hlt
    repeat ((conv => whnf); first | (refine Sure.mk (by kernel_rfl) ?_) | (refine IfB.tt rfl ?_) | (refine IfB.ff rfl ?_) | (refine IfB.tt ?_ ?_; (focus (simp <;> fail))) | (refine IfB.ff ?_ ?_; (focus (simp <;> fail))) | (refine fits (wrap64 ?_ ?_) ?_; (focus omega); (focus omega)) | (refine Need.mk ?_ ?_; (focus omega)) | (refine InB.mk ?_ ?_ ?_; (focus omega); (focus omega)))
    ((repeat ((conv => whnf); first | (refine Sure.mk (by kernel_rfl) ?_) | (refine IfB.tt rfl ?_) | (refine IfB.ff rfl ?_) | (refine IfB.tt ?_ ?_; (focus (simp <;> fail))) | (refine IfB.ff ?_ ?_; (focus (simp <;> fail))) | (refine fits (wrap64 ?_ ?_) ?_; (focus omega); (focus omega)) | (refine Need.mk ?_ ?_; (focus omega)) | (refine InB.mk ?_ ?_ ?_; (focus omega); (focus omega)))); (try (conv => whnf)); refine idx_map (hlt) ?_)
    repeat ((conv => whnf); first | (refine Sure.mk (by kernel_rfl) ?_) | (refine IfB.tt rfl ?_) | (refine IfB.ff rfl ?_) | (refine IfB.tt ?_ ?_; (focus (simp <;> fail))) | (refine IfB.ff ?_ ?_; (focus (simp <;> fail))) | (refine fits (wrap64 ?_ ?_) ?_; (focus omega); (focus omega)) | (refine Need.mk ?_ ?_; (focus omega)) | (refine InB.mk ?_ ?_ ?_; (focus omega); (focus omega)))
    ((repeat ((conv => whnf); first | (refine Sure.mk (by kernel_rfl) ?_) | (refine IfB.tt rfl ?_) | (refine IfB.ff rfl ?_) | (refine IfB.tt ?_ ?_; (focus (simp <;> fail))) | (refine IfB.ff ?_ ?_; (focus (simp <;> fail))) | (refine fits (wrap64 ?_ ?_) ?_; (focus omega); (focus omega)) | (refine Need.mk ?_ ?_; (focus omega)) | (refine InB.mk ?_ ?_ ?_; (focus omega); (focus omega)))); (try (conv => whnf)); refine ⟨[], [0, 1], rfl, ⟨i + 1, rfl, show [Blk.var _, Blk.map _ _] = [Blk.var _, Blk.map _ _] by rw [he, Int.zero_add]; rfl, hlt⟩, (by omega : l.length - ((i : Int) + 1).toNat < l.length - (i : Int).toNat)⟩)
  · have e : i = l.length := by omega
    subst e
    repeat ((conv => whnf); first | (refine Sure.mk (by kernel_rfl) ?_) | (refine IfB.tt rfl ?_) | (refine IfB.ff rfl ?_) | (refine IfB.tt ?_ ?_; (focus (simp <;> fail))) | (refine IfB.ff ?_ ?_; (focus (simp <;> fail))) | (refine fits (wrap64 ?_ ?_) ?_; (focus omega); (focus omega)) | (refine Need.mk ?_ ?_; (focus omega)) | (refine InB.mk ?_ ?_ ?_; (focus omega); (focus omega)))
    ((repeat ((conv => whnf); first | (refine Sure.mk (by kernel_rfl) ?_) | (refine IfB.tt rfl ?_) | (refine IfB.ff rfl ?_) | (refine IfB.tt ?_ ?_; (focus (simp <;> fail))) | (refine IfB.ff ?_ ?_; (focus (simp <;> fail))) | (refine fits (wrap64 ?_ ?_) ?_; (focus omega); (focus omega)) | (refine Need.mk ?_ ?_; (focus omega)) | (refine InB.mk ?_ ?_ ?_; (focus omega); (focus omega)))); (try (conv => whnf)); refine Choice.mk ⟨false, Choice.mk ⟨false, _, _, clone_Span _ (by rw [hml]; omega), ?_⟩⟩)
    repeat ((conv => whnf); first | (refine Sure.mk (by kernel_rfl) ?_) | (refine IfB.tt rfl ?_) | (refine IfB.ff rfl ?_) | (refine IfB.tt ?_ ?_; (focus (simp <;> fail))) | (refine IfB.ff ?_ ?_; (focus (simp <;> fail))) | (refine fits (wrap64 ?_ ?_) ?_; (focus omega); (focus omega)) | (refine Need.mk ?_ ?_; (focus omega)) | (refine InB.mk ?_ ?_ ?_; (focus omega); (focus omega)))
    obtain ⟨g, m, hg⟩ := entS_is (l := l) l.length (Nat.le_refl _)
    refine Get.of (m.get y) ?_
    rcases hg y with ⟨h1, h2⟩ | ⟨k, hk, h1, h2, h3, h4⟩
    · have hp : posS y l = none := posS_none fun x hx => by
        obtain ⟨k, hk, rfl⟩ := List.getElem_of_mem hx
        exact h2 k hk hk
      have hc : cutF l y = (l, ⟨0, 0⟩, false) := by unfold cutF; rw [hp]
      rw [h1]
      repeat ((conv => whnf); first | (refine Sure.mk (by kernel_rfl) ?_) | (refine IfB.tt rfl ?_) | (refine IfB.ff rfl ?_) | (refine IfB.tt ?_ ?_; (focus (simp <;> fail))) | (refine IfB.ff ?_ ?_; (focus (simp <;> fail))) | (refine fits (wrap64 ?_ ?_) ?_; (focus omega); (focus omega)) | (refine Need.mk ?_ ?_; (focus omega)) | (refine InB.mk ?_ ?_ ?_; (focus omega); (focus omega)))
      ((repeat ((conv => whnf); first | (refine Sure.mk (by kernel_rfl) ?_) | (refine IfB.tt rfl ?_) | (refine IfB.ff rfl ?_) | (refine IfB.tt ?_ ?_; (focus (simp <;> fail))) | (refine IfB.ff ?_ ?_; (focus (simp <;> fail))) | (refine fits (wrap64 ?_ ?_) ?_; (focus omega); (focus omega)) | (refine Need.mk ?_ ?_; (focus omega)) | (refine InB.mk ?_ ?_ ?_; (focus omega); (focus omega)))); (try (conv => whnf)); refine RetN.fz ⟨[true, true, true], [], rfl, ?_, rfl⟩)
      rw [hc]; rfl
    · have hp : posS y l = some k := posS_some hk (fun j hj h5 h6 => by have := (mayFrom_lt hm hk h5).2; omega) h2
      have hc : cutF l y = (l.take k ++ l.drop (k + 1), l[k], true) := by unfold cutF; rw [hp]; simp [hk]
      have hd := delete_Span (l.map eS) k (by omega) (by omega)
      rw [h3]
      repeat ((conv => whnf); first | (refine Sure.mk (by kernel_rfl) ?_) | (refine IfB.tt rfl ?_) | (refine IfB.ff rfl ?_) | (refine IfB.tt ?_ ?_; (focus (simp <;> fail))) | (refine IfB.ff ?_ ?_; (focus (simp <;> fail))) | (refine fits (wrap64 ?_ ?_) ?_; (focus omega); (focus omega)) | (refine Need.mk ?_ ?_; (focus omega)) | (refine InB.mk ?_ ?_ ?_; (focus omega); (focus omega)))
      have e1 : ((k + 1 : Nat) : Int) - 1 = (k : Nat) := by omega
      have e2 : ((k + 1 : Nat) : Int) = ((k : Nat) : Int) + 1 := by omega
      rw [e1, e2]
      ((repeat ((conv => whnf); first | (refine Sure.mk (by kernel_rfl) ?_) | (refine IfB.tt rfl ?_) | (refine IfB.ff rfl ?_) | (refine IfB.tt ?_ ?_; (focus (simp <;> fail))) | (refine IfB.ff ?_ ?_; (focus (simp <;> fail))) | (refine fits (wrap64 ?_ ?_) ?_; (focus omega); (focus omega)) | (refine Need.mk ?_ ?_; (focus omega)) | (refine InB.mk ?_ ?_ ?_; (focus omega); (focus omega)))); (try (conv => whnf)); refine Choice.mk ⟨true, Choice.mk ⟨false, _, _, hd, ?_⟩⟩)
      repeat ((conv => whnf); first | (refine Sure.mk (by kernel_rfl) ?_) | (refine IfB.tt rfl ?_) | (refine IfB.ff rfl ?_) | (refine IfB.tt ?_ ?_; (focus (simp <;> fail))) | (refine IfB.ff ?_ ?_; (focus (simp <;> fail))) | (refine fits (wrap64 ?_ ?_) ?_; (focus omega); (focus omega)) | (refine Need.mk ?_ ?_; (focus omega)) | (refine InB.mk ?_ ?_ ?_; (focus omega); (focus omega)))
      refine idx_map' k (by omega) hk ?_
      repeat ((conv => whnf); first | (refine Sure.mk (by kernel_rfl) ?_) | (refine IfB.tt rfl ?_) | (refine IfB.ff rfl ?_) | (refine IfB.tt ?_ ?_; (focus (simp <;> fail))) | (refine IfB.ff ?_ ?_; (focus (simp <;> fail))) | (refine fits (wrap64 ?_ ?_) ?_; (focus omega); (focus omega)) | (refine Need.mk ?_ ?_; (focus omega)) | (refine InB.mk ?_ ?_ ?_; (focus omega); (focus omega)))
      ((repeat ((conv => whnf); first | (refine Sure.mk (by kernel_rfl) ?_) | (refine IfB.tt rfl ?_) | (refine IfB.ff rfl ?_) | (refine IfB.tt ?_ ?_; (focus (simp <;> fail))) | (refine IfB.ff ?_ ?_; (focus (simp <;> fail))) | (refine fits (wrap64 ?_ ?_) ?_; (focus omega); (focus omega)) | (refine Need.mk ?_ ?_; (focus omega)) | (refine InB.mk ?_ ?_ ?_; (focus omega); (focus omega)))); (try (conv => whnf)); refine RetN.fz ⟨[true, true, true], [], rfl, ?_, rfl⟩)
      rw [hc]
      show AV.tup [AV.lst t_api_Span ((((l.map eS).take k ++ ((l.map eS).drop (k + 1) ++ [zeroE T t_api_Span])).drop 0).take ((l.map eS).length - 1)), eS l[k], AV.bool true] = _
      rw [List.drop_zero, ← List.append_assoc, List.take_append_of_le_length (by simp; omega), List.take_of_length_le (by simp; omega)]
      simp [lS]

