/- Words and lemmas for the law s of this seat (a part of its proof). -/
import Derived.Test.YtbmgdbhnendopaaSp8
set_option linter.unusedVariables false
set_option linter.unusedSimpArgs false
namespace Go.Ev.W
open Go.Ev Go.Ev.N

def covS (x : Sp) (k : Nat) : Bool := decide (x.a ≤ k ∧ (k : Int) < x.a + x.n)
def covL (l : List Sp) (k : Nat) : Bool := l.any fun x => covS x k
def cntF (f : Nat → Bool) : Nat → Nat
  | 0 => 0
  | k + 1 => cntF f k + if f k = true then 1 else 0
def lastF (f : Nat → Bool) : Nat → Nat
  | 0 => 0
  | k + 1 => if f k = true then k + 1 else lastF f k
def rowF (f : Nat → Bool) : List AV := (List.range 300).map fun k => .bool (f k)
theorem rowF_get {f : Nat → Bool} {k : Nat} (h : k < 300) : (rowF f)[k]? = some (.bool (f k)) := by simp [rowF, h]
theorem rowF_len (f : Nat → Bool) : (rowF f).length = 300 := by simp [rowF]
theorem rowF_set {f g : Nat → Bool} {k : Nat} (h : k < 300) (hg : ∀ j, j < 300 → g j = if j = k then true else f j) : (rowF f).set k (.bool true) = rowF g := by
  apply List.ext_getElem?
  intro j
  rw [List.getElem?_set]
  by_cases hj : j < 300
  · rw [rowF_get hj, rowF_get hj, hg j hj]
    by_cases e : k = j
    · subst e; simp [rowF_len, h]
    · simp [e, Ne.symm e]
  · rw [List.getElem?_eq_none (by rw [rowF_len]; omega), List.getElem?_eq_none (by rw [rowF_len]; omega)]
    rw [if_neg (by omega)]
theorem cntF_congr {f g : Nat → Bool} : ∀ {m : Nat}, (∀ k, k < m → f k = g k) → cntF f m = cntF g m
  | 0, _ => rfl
  | m + 1, h => by simp only [cntF]; rw [cntF_congr fun k hk => h k (by omega), h m (by omega)]
theorem cntF_or {f g : Nat → Bool} : ∀ {m : Nat}, (∀ k, k < m → ¬ (f k = true ∧ g k = true)) → cntF (fun k => f k || g k) m = cntF f m + cntF g m
  | 0, _ => rfl
  | m + 1, h => by
    simp only [cntF]
    rw [cntF_or fun k hk => h k (by omega)]
    have := h m (by omega)
    by_cases h1 : f m = true <;> by_cases h2 : g m = true
    · exact absurd ⟨h1, h2⟩ this
    all_goals simp [h1, h2] <;> omega
theorem cntF_int (a n : Nat) : ∀ m, cntF (fun k => decide (a ≤ k ∧ k < a + n)) m = min (m - a) n
  | 0 => by simp [cntF]
  | m + 1 => by
    simp only [cntF, decide_eq_true_eq]
    rw [cntF_int a n m]
    split <;> omega
theorem cnt_cov : ∀ {l : List Sp}, Apart l → (∀ x ∈ l, x.a + x.n ≤ 300) → (cntF (covL l) 300 : Int) = total l
  | [], _, _ => by
    have : cntF (covL []) 300 = 0 := by decide +kernel
    rw [this]; rfl
  | x :: l, ha, hb => by
    obtain ⟨ha2, hx, _, h2⟩ := apart_mid (l1 := []) ha
    have hx' := (oneB_iff _).1 hx
    have hxb := hb x (by simp)
    have ih := cnt_cov (l := l) ha2 fun z hz => hb z (by simp [hz])
    have e : cntF (covL (x :: l)) 300 = cntF (covS x) 300 + cntF (covL l) 300 := by
      rw [← cntF_or]
      · rfl
      · rintro k hk ⟨h3, h4⟩
        simp only [covL, List.any_eq_true, covS, decide_eq_true_eq] at h3 h4
        obtain ⟨y, hy, h5⟩ := h4
        have := h2 y hy
        omega
    obtain ⟨a, ea⟩ : ∃ a : Nat, x.a = a := ⟨x.a.toNat, by omega⟩
    obtain ⟨n, en⟩ : ∃ n : Nat, x.n = n := ⟨x.n.toNat, by omega⟩
    have e2 : cntF (covS x) 300 = n := by
      rw [cntF_congr (g := fun k => decide (a ≤ k ∧ k < a + n)) fun k hk => by
        unfold covS; rw [ea, en]; exact decide_eq_decide.2 (by omega), cntF_int]
      omega
    rw [e, e2]
    simp only [total, List.map_cons, List.sum_cons]
    simp only [total] at ih
    omega
theorem lastF_eq {f : Nat → Bool} {e : Nat} (h1 : 1 ≤ e) (h2 : f (e - 1) = true) : ∀ {m : Nat}, e ≤ m → (∀ k, e ≤ k → k < m → f k = false) → lastF f m = e
  | 0, h, _ => by omega
  | m + 1, h, h3 => by
    unfold lastF
    by_cases hm : e = m + 1
    · subst hm; rw [if_pos (by simpa using h2)]
    · rw [if_neg (by rw [h3 m (by omega) (by omega)]; simp)]
      exact lastF_eq h1 h2 (by omega) fun k a b => h3 k a (by omega)
theorem lastF_none {f : Nat → Bool} : ∀ {m : Nat}, (∀ k, k < m → f k = false) → lastF f m = 0
  | 0, _ => rfl
  | m + 1, h => by unfold lastF; rw [if_neg (by rw [h m (by omega)]; simp)]; exact lastF_none fun k hk => h k (by omega)
theorem last_cov {l : List Sp} (ha : Apart l) (hb : ∀ x ∈ l, x.a + x.n ≤ 300) : (lastF (covL l) 300 : Int) = endS l := by
  rcases List.eq_nil_or_concat l with rfl | ⟨m, x, rfl⟩
  · rw [show lastF (covL []) 300 = 0 from lastF_none fun k _ => rfl]; rfl
  · rw [List.concat_eq_append] at *
    have hx := (oneB_iff _).1 (ha.1 x (by simp))
    have hxb := hb x (by simp)
    have : lastF (covL (m ++ [x])) 300 = (x.a + x.n).toNat := by
      refine lastF_eq (by omega) ?_ (by omega) fun k h1 h2 => ?_
      · simp only [covL, List.any_append, List.any_cons, List.any_nil, Bool.or_false, Bool.or_eq_true]
        right; simp only [covS, decide_eq_true_eq]; omega
      · rw [covL, List.any_eq_false]
        intro y hy
        simp only [covS, decide_eq_true_eq]
        rcases List.mem_append.1 hy with hy | hy
        · have := (List.pairwise_append.1 ha.2).2.2 y hy x (by simp)
          omega
        · rw [List.mem_singleton] at hy; subst hy; omega
    rw [this]
    unfold endS; rw [List.getLast?_concat]
    show _ = x.a + x.n
    omega
theorem free_iff {l : List Sp} (ha : Apart l) {s : Sp} (hs : oneB s = true) : (l.any fun x => overB x s) = true ↔ ∃ k : Nat, (k : Int) < s.n ∧ covL l (s.a.toNat + k) = true := by
  have hs' := (oneB_iff _).1 hs
  simp only [covL, List.any_eq_true, over_iff, covS, decide_eq_true_eq]
  constructor
  · rintro ⟨x, hx, h1, h2⟩
    have := (oneB_iff _).1 (ha.1 x hx)
    exact ⟨(max x.a s.a - s.a).toNat, by omega, x, hx, by omega, by omega⟩
  · rintro ⟨k, hk, x, hx, h1, h2⟩
    exact ⟨x, hx, by omega, by omega⟩
/-- How far it is free. -/
def freeF (l : List Sp) (a : Nat) : Nat → Bool
  | 0 => true
  | k + 1 => freeF l a k && !covL l (a + k)
theorem freeF_iff {l : List Sp} {a : Nat} : ∀ k, freeF l a k = true ↔ ∀ j, j < k → covL l (a + j) = false
  | 0 => by simp [freeF]
  | k + 1 => by
    simp only [freeF, Bool.and_eq_true, freeF_iff k, Bool.not_eq_true']
    constructor
    · rintro ⟨h1, h2⟩ j hj
      rcases Nat.lt_or_ge j k with h | h
      · exact h1 j h
      · rw [show j = k by omega]; exact h2
    · intro h; exact ⟨fun j hj => h j (by omega), h k (by omega)⟩
def gotF (f : Nat → Bool) (a k : Nat) : Nat → Bool := fun j => if a ≤ j ∧ j < a + k then true else f j

theorem or_not_simp (a b : Bool) : (bif a then !b else false) = (a && !b) := by cases a <;> rfl

set_option maxHeartbeats 4000000 in
set_option maxRecDepth 20000 in
theorem spanApart_told (bs : List Nat) (hb : IsB bs) (hl : bs.length ≤ maxLen) : Told P T law8_SpanApart [] [lB bs] (.bool true) [] := by
  have hmb : (bs.map u8).length = bs.length := by simp
  refine told_of_ev (fn := law8_SpanApart_fn) tabOk mixed (by kernel_rfl) (by kernel_rfl) (by kernel_rfl) (by kernel_rfl) ?_
  ((repeat ((conv => whnf); first | (refine Sure.mk (by kernel_rfl) ?_) | (refine IfB.tt rfl ?_) | (refine IfB.ff rfl ?_) | (refine IfB.tt ?_ ?_; (focus (simp <;> fail))) | (refine IfB.ff ?_ ?_; (focus (simp <;> fail))) | (refine fits (wrap64 ?_ ?_) ?_; (focus omega); (focus omega)) | (refine Need.mk ?_ ?_; (focus omega)) | (refine InB.mk ?_ ?_ ?_; (focus omega); (focus omega)))); (try (conv => whnf)); refine Choice.mk ⟨false, Choice.mk ⟨true, _, _, begun8_told, ?_⟩⟩)
  ((repeat ((conv => whnf); first | (refine Sure.mk (by kernel_rfl) ?_) | (refine IfB.tt rfl ?_) | (refine IfB.ff rfl ?_) | (refine IfB.tt ?_ ?_; (focus (simp <;> fail))) | (refine IfB.ff ?_ ?_; (focus (simp <;> fail))) | (refine fits (wrap64 ?_ ?_) ?_; (focus omega); (focus omega)) | (refine Need.mk ?_ ?_; (focus omega)) | (refine InB.mk ?_ ?_ ?_; (focus omega); (focus omega)))); (try (conv => whnf)); first | refine IfB.dec (fun h1 => ?_) (fun h1 => ?_) | refine IfB.eq (fun h1 => ?_) (fun h1 => ?_) | refine IfB.ne (fun h1 => ?_) (fun h1 => ?_) | refine IfB.mk (fun h1 => ?_) (fun h1 => ?_))
  · ((repeat ((conv => whnf); first | (refine Sure.mk (by kernel_rfl) ?_) | (refine IfB.tt rfl ?_) | (refine IfB.ff rfl ?_) | (refine IfB.tt ?_ ?_; (focus (simp <;> fail))) | (refine IfB.ff ?_ ?_; (focus (simp <;> fail))) | (refine fits (wrap64 ?_ ?_) ?_; (focus omega); (focus omega)) | (refine Need.mk ?_ ?_; (focus omega)) | (refine InB.mk ?_ ?_ ?_; (focus omega); (focus omega)))); (try (conv => whnf)); exact RetN.mk ⟨[], rfl, rfl, rfl⟩)
  · ((repeat ((conv => whnf); first | (refine Sure.mk (by kernel_rfl) ?_) | (refine IfB.tt rfl ?_) | (refine IfB.ff rfl ?_) | (refine IfB.tt ?_ ?_; (focus (simp <;> fail))) | (refine IfB.ff ?_ ?_; (focus (simp <;> fail))) | (refine fits (wrap64 ?_ ?_) ?_; (focus omega); (focus omega)) | (refine Need.mk ?_ ?_; (focus omega)) | (refine InB.mk ?_ ?_ ?_; (focus omega); (focus omega)))); (try (conv => whnf)); refine LoopN.mk ⟨[0,3,4,5], fun vs L => ∃ (i : Nat) (l : List Sp), vs = [lB bs, lS l, .ptr 0 0 0, i64 i] ∧ L = [.row t_bool (rowF (covL l))] ∧ i ≤ bs.length + 1 ∧ Apart l ∧ (∀ x ∈ l, x.a + x.n ≤ 275) ∧ l.length ≤ i, fun vs L => match vs with | [_, _, _, .int _ i] => bs.length + 1 - i.toNat | _ => 0, [3], [1], rfl, ⟨0, [], rfl, ?_, by omega, ⟨by simp, List.Pairwise.nil⟩, by simp, by simp⟩, ?_⟩)
    · have e0 : rowF (covL []) = List.replicate 300 (.bool false) := by kernel_rfl
      rw [e0]; rfl
    rintro vs L ⟨i, l, rfl, rfl, hi, ha, hx, hn⟩
    have hrl := rowF_len (covL l)
    have hml : (l.map eS).length = l.length := by simp
    ((repeat ((conv => whnf); first | (refine Sure.mk (by kernel_rfl) ?_) | (refine IfB.tt rfl ?_) | (refine IfB.ff rfl ?_) | (refine IfB.tt ?_ ?_; (focus (simp <;> fail))) | (refine IfB.ff ?_ ?_; (focus (simp <;> fail))) | (refine fits (wrap64 ?_ ?_) ?_; (focus omega); (focus omega)) | (refine Need.mk ?_ ?_; (focus omega)) | (refine InB.mk ?_ ?_ ?_; (focus omega); (focus omega)))); (try (conv => whnf)); first | refine IfB.dec (fun h2 => ?_) (fun h2 => ?_) | refine IfB.eq (fun h2 => ?_) (fun h2 => ?_) | refine IfB.ne (fun h2 => ?_) (fun h2 => ?_) | refine IfB.mk (fun h2 => ?_) (fun h2 => ?_))
    · have hlt : i + 1 < bs.length := by omega
      have hlt0 : i < bs.length := by omega
      have b0 := hb _ (List.getElem_mem hlt0)
      have b1 := hb _ (List.getElem_mem hlt)
      ((repeat ((conv => whnf); first | (refine Sure.mk (by kernel_rfl) ?_) | (refine IfB.tt rfl ?_) | (refine IfB.ff rfl ?_) | (refine IfB.tt ?_ ?_; (focus (simp <;> fail))) | (refine IfB.ff ?_ ?_; (focus (simp <;> fail))) | (refine fits (wrap64 ?_ ?_) ?_; (focus omega); (focus omega)) | (refine Need.mk ?_ ?_; (focus omega)) | (refine InB.mk ?_ ?_ ?_; (focus omega); (focus omega)))); (try (conv => whnf)); refine idx_map (hlt0) ?_)
      repeat ((conv => whnf); first | (refine Sure.mk (by kernel_rfl) ?_) | (refine IfB.tt rfl ?_) | (refine IfB.ff rfl ?_) | (refine IfB.tt ?_ ?_; (focus (simp <;> fail))) | (refine IfB.ff ?_ ?_; (focus (simp <;> fail))) | (refine fits (wrap64 ?_ ?_) ?_; (focus omega); (focus omega)) | (refine Need.mk ?_ ?_; (focus omega)) | (refine InB.mk ?_ ?_ ?_; (focus omega); (focus omega)))
      refine idx_map' (i + 1) (by omega) hlt ?_
      have em : ((bs[i + 1] : Nat) : Int).tmod 20 = ((bs[i + 1] % 20 : Nat) : Int) := by rw [Int.tmod_eq_emod_of_nonneg (by omega)]; omega
      repeat ((conv => whnf); first | (refine Sure.mk (by kernel_rfl) ?_) | (refine IfB.tt rfl ?_) | (refine IfB.ff rfl ?_) | (refine IfB.tt ?_ ?_; (focus (simp <;> fail))) | (refine IfB.ff ?_ ?_; (focus (simp <;> fail))) | (refine fits (wrap64 ?_ ?_) ?_; (focus omega); (focus omega)) | (refine Need.mk ?_ ?_; (focus omega)) | (refine InB.mk ?_ ?_ ?_; (focus omega); (focus omega)))
      rw [em]
      repeat ((conv => whnf); first | (refine Sure.mk (by kernel_rfl) ?_) | (refine IfB.tt rfl ?_) | (refine IfB.ff rfl ?_) | (refine IfB.tt ?_ ?_; (focus (simp <;> fail))) | (refine IfB.ff ?_ ?_; (focus (simp <;> fail))) | (refine fits (wrap64 ?_ ?_) ?_; (focus omega); (focus omega)) | (refine Need.mk ?_ ?_; (focus omega)) | (refine InB.mk ?_ ?_ ?_; (focus omega); (focus omega)))
      obtain ⟨a, hae⟩ : ∃ a, bs[i] = a := ⟨_, rfl⟩
      obtain ⟨n, hne⟩ : ∃ n : Nat, 1 + bs[i + 1] % 20 = n := ⟨_, rfl⟩
      have hne' : (1 : Int) + ((bs[i + 1] % 20 : Nat) : Int) = ((n : Nat) : Int) := by omega
      rw [hne', hae]
      have hs : oneB ⟨a, n⟩ = true := (oneB_iff _).2 ⟨by show (1 : Int) ≤ n; omega, by show (n : Int) ≤ _; omega, by show (0 : Int) ≤ a; omega, by show (a : Int) ≤ 1099511627776 - n; omega⟩
      have hover : (l.any fun x => overB x ⟨a, n⟩) = !freeF l a n := by
        rw [Bool.eq_iff_iff, free_iff ha hs, Bool.not_eq_true', ← Bool.not_eq_true, freeF_iff]
        constructor
        · rintro ⟨k, hk, h⟩ h'
          have := h' k (by simpa using hk)
          rw [show ((a : Int)).toNat = a from rfl] at h
          rw [this] at h; cases h
        · intro h
          obtain ⟨k, h⟩ := Classical.not_forall.1 h
          obtain ⟨hk, h⟩ := Classical.not_imp.1 h
          exact ⟨k, by simpa using hk, by simpa using h⟩
      ((repeat ((conv => whnf); first | (refine Sure.mk (by kernel_rfl) ?_) | (refine IfB.tt rfl ?_) | (refine IfB.ff rfl ?_) | (refine IfB.tt ?_ ?_; (focus (simp <;> fail))) | (refine IfB.ff ?_ ?_; (focus (simp <;> fail))) | (refine fits (wrap64 ?_ ?_) ?_; (focus omega); (focus omega)) | (refine Need.mk ?_ ?_; (focus omega)) | (refine InB.mk ?_ ?_ ?_; (focus omega); (focus omega)))); (try (conv => whnf)); refine LoopN.mk ⟨[0,3,4,5,6,7,8], fun vs L => ∃ k : Nat, vs = [lB bs, lS l, .ptr 0 0 0, i64 i, .ptr 1 0 0, .bool (freeF l a k), i64 k] ∧ L = [.row t_bool (rowF (covL l)), .var (.agg [i64 a, i64 n])] ∧ k ≤ n, fun vs L => match vs with | [_, _, _, _, _, _, .int _ i] => n - i.toNat | _ => 0, [], [0,1], rfl, ⟨0, rfl, rfl, by omega⟩, ?_⟩)
      rintro vs L ⟨k, rfl, rfl, hk⟩
      ((repeat ((conv => whnf); first | (refine Sure.mk (by kernel_rfl) ?_) | (refine IfB.tt rfl ?_) | (refine IfB.ff rfl ?_) | (refine IfB.tt ?_ ?_; (focus (simp <;> fail))) | (refine IfB.ff ?_ ?_; (focus (simp <;> fail))) | (refine fits (wrap64 ?_ ?_) ?_; (focus omega); (focus omega)) | (refine Need.mk ?_ ?_; (focus omega)) | (refine InB.mk ?_ ?_ ?_; (focus omega); (focus omega)))); (try (conv => whnf)); first | refine IfB.dec (fun h3 => ?_) (fun h3 => ?_) | refine IfB.eq (fun h3 => ?_) (fun h3 => ?_) | refine IfB.ne (fun h3 => ?_) (fun h3 => ?_) | refine IfB.mk (fun h3 => ?_) (fun h3 => ?_))
      · have hkn : k < n := by omega
        have hcell : (rowF (covL l))[(((a : Nat) : Int) + ((k : Nat) : Int)).toNat]? = some (.bool (covL l (a + k))) := by
          rw [show (((a : Nat) : Int) + ((k : Nat) : Int)).toNat = a + k by omega]; exact rowF_get (by omega)
        cases h4 : freeF l a k with
        | true =>
          repeat ((conv => whnf); first | (refine Sure.mk (by kernel_rfl) ?_) | (refine IfB.tt rfl ?_) | (refine IfB.ff rfl ?_) | (refine IfB.tt ?_ ?_; (focus (simp <;> fail))) | (refine IfB.ff ?_ ?_; (focus (simp <;> fail))) | (refine fits (wrap64 ?_ ?_) ?_; (focus omega); (focus omega)) | (refine Need.mk ?_ ?_; (focus omega)) | (refine InB.mk ?_ ?_ ?_; (focus omega); (focus omega)))
          refine At.mk ⟨.bool (covL l (a + k)), hcell, ?_⟩
          ((repeat ((conv => whnf); first | (refine Sure.mk (by kernel_rfl) ?_) | (refine IfB.tt rfl ?_) | (refine IfB.ff rfl ?_) | (refine IfB.tt ?_ ?_; (focus (simp <;> fail))) | (refine IfB.ff ?_ ?_; (focus (simp <;> fail))) | (refine fits (wrap64 ?_ ?_) ?_; (focus omega); (focus omega)) | (refine Need.mk ?_ ?_; (focus omega)) | (refine InB.mk ?_ ?_ ?_; (focus omega); (focus omega)))); (try (conv => whnf)); refine ⟨[], [0,1], rfl, ⟨k + 1, ?_, rfl, hkn⟩, (by omega : n - ((k : Int) + 1).toNat < n - (k : Int).toNat)⟩)
          rw [freeF, h4]; rfl
        | false =>
          ((repeat ((conv => whnf); first | (refine Sure.mk (by kernel_rfl) ?_) | (refine IfB.tt rfl ?_) | (refine IfB.ff rfl ?_) | (refine IfB.tt ?_ ?_; (focus (simp <;> fail))) | (refine IfB.ff ?_ ?_; (focus (simp <;> fail))) | (refine fits (wrap64 ?_ ?_) ?_; (focus omega); (focus omega)) | (refine Need.mk ?_ ?_; (focus omega)) | (refine InB.mk ?_ ?_ ?_; (focus omega); (focus omega)))); (try (conv => whnf)); refine ⟨[], [0,1], rfl, ⟨k + 1, by rw [freeF, h4]; rfl, rfl, hkn⟩, (by omega : n - ((k : Int) + 1).toNat < n - (k : Int).toNat)⟩)
      · have e : k = n := by omega
        subst e
        obtain ⟨l', ok, hput, ha', hx', hn', hcov, hsame, hok⟩ : ∃ l' ok, putR l ⟨a, k⟩ = (l', ok) ∧ Apart l' ∧ (∀ x ∈ l', x.a + x.n ≤ 275) ∧ l'.length ≤ l.length + 1 ∧ (∀ j, covL l' j = if ok = true then gotF (covL l) a k j else covL l j) ∧ (ok = false → l' = l) ∧ freeF l a k = ok := by
          have hp := put_apart ha ⟨a, k⟩
          rcases (put_cases ha ⟨a, k⟩).2 with ⟨_, h5, l1, l2, e1, e2, e3, e4⟩ | ⟨h5, e2⟩
          · rw [e2] at hp
            refine ⟨_, _, e2, hp.1, fun x hxm => ?_, hp.2, fun j => ?_, fun h => by (cases h), ?_⟩
            · simp only [List.mem_append, List.mem_cons] at hxm
              rcases hxm with h | rfl | h
              · exact hx x (by rw [e1]; simp [h])
              · show (a : Int) + (k : Int) ≤ 275; omega
              · exact hx x (by rw [e1]; simp [h])
            · rw [if_pos rfl, e1]
              unfold gotF
              rw [Bool.eq_iff_iff]
              simp only [covL, List.any_append, List.any_cons, Bool.or_eq_true]
              have : covS ⟨a, k⟩ j = true ↔ a ≤ j ∧ j < a + k := by simp only [covS, decide_eq_true_eq]; omega
              rw [this]
              by_cases hj : a ≤ j ∧ j < a + k
              · simp [hj]
              · simp [hj]
            · rw [h5] at hover; simpa using hover.symm
          · rw [e2] at hp
            refine ⟨_, _, e2, ha, hx, by omega, fun j => by simp, fun _ => rfl, ?_⟩
            rcases h5 with h5 | h5
            · rw [hs] at h5; cases h5
            · rw [h5] at hover; simpa using hover.symm
        ((repeat ((conv => whnf); first | (refine Sure.mk (by kernel_rfl) ?_) | (refine IfB.tt rfl ?_) | (refine IfB.ff rfl ?_) | (refine IfB.tt ?_ ?_; (focus (simp <;> fail))) | (refine IfB.ff ?_ ?_; (focus (simp <;> fail))) | (refine fits (wrap64 ?_ ?_) ?_; (focus omega); (focus omega)) | (refine Need.mk ?_ ?_; (focus omega)) | (refine InB.mk ?_ ?_ ?_; (focus omega); (focus omega)))); (try (conv => whnf)); refine Choice.mk ⟨false, Choice.mk ⟨false, _, _, put_told l ⟨a, k⟩ (by omega) ha.1, ?_⟩⟩)
        rw [hput, hok]
        have hml' : (l'.map eS).length = l'.length := by simp
        have hb1 : ∀ j, j ≤ l'.length → 0 ≤ total (l'.take j) ∧ total (l'.take j) ≤ 9223372036854775807 := by
          intro j hj
          have : ∀ j, j ≤ l'.length → 0 ≤ total (l'.take j) ∧ total (l'.take j) ≤ 275 * j := by
            intro j
            induction j with
            | zero => intro _; simp [total]
            | succ j ih =>
              intro hj
              rw [total_succ hj]
              have := ih (by omega)
              have hm := List.getElem_mem hj
              have := hx' _ hm
              have := (oneB_iff _).1 (ha'.1 _ hm)
              omega
          have := this j hj; omega
        have htot := cnt_cov ha' fun x hxm => by have := hx' x hxm; omega
        have hlast := last_cov ha' fun x hxm => by have := hx' x hxm; omega
        have hmay := may_told l' (by omega)
        rw [may0_iff.2 ha'] at hmay
        repeat ((conv => whnf); first | (refine Sure.mk (by kernel_rfl) ?_) | (refine IfB.tt rfl ?_) | (refine IfB.ff rfl ?_) | (refine IfB.tt ?_ ?_; (focus (simp <;> fail))) | (refine IfB.ff ?_ ?_; (focus (simp <;> fail))) | (refine fits (wrap64 ?_ ?_) ?_; (focus omega); (focus omega)) | (refine Need.mk ?_ ?_; (focus omega)) | (refine InB.mk ?_ ?_ ?_; (focus omega); (focus omega)))
        refine IfB.mk (fun h5 => ?ga) (fun h5 => ?gb)
        case' ga =>
          have hok' : ok = false := by simpa using h5
          have e := hsame hok'
          ((repeat ((conv => whnf); first | (refine Sure.mk (by kernel_rfl) ?_) | (refine IfB.tt rfl ?_) | (refine IfB.ff rfl ?_) | (refine IfB.tt ?_ ?_; (focus (simp <;> fail))) | (refine IfB.ff ?_ ?_; (focus (simp <;> fail))) | (refine fits (wrap64 ?_ ?_) ?_; (focus omega); (focus omega)) | (refine Need.mk ?_ ?_; (focus omega)) | (refine InB.mk ?_ ?_ ?_; (focus omega); (focus omega)))); (try (conv => whnf)); refine Choice.mk ⟨false, Choice.mk ⟨true, _, _, sameSpans_told l' l (by omega) (by omega), ?_⟩⟩)
          rw [decide_eq_true e, hok']
        case' gb =>
          have hok' : ok = true := by simpa using h5
          rw [hok']
        all_goals
          rw [hok'] at hcov
          clear hover hok hsame hput h5
        case' ga =>
          have hcov' : rowF (covL l) = rowF (covL l') := by
            unfold rowF; exact List.map_congr_left fun j _ => by rw [hcov j]; rfl
          ((repeat ((conv => whnf); first | (refine Sure.mk (by kernel_rfl) ?_) | (refine IfB.tt rfl ?_) | (refine IfB.ff rfl ?_) | (refine IfB.tt ?_ ?_; (focus (simp <;> fail))) | (refine IfB.ff ?_ ?_; (focus (simp <;> fail))) | (refine fits (wrap64 ?_ ?_) ?_; (focus omega); (focus omega)) | (refine Need.mk ?_ ?_; (focus omega)) | (refine InB.mk ?_ ?_ ?_; (focus omega); (focus omega)))); (try (conv => whnf)); refine LoopN.mk ⟨[0,4,5,6,9,10,11], fun vs L => ∃ j : Nat, vs = [lB bs, .ptr 0 0 0, i64 i, .ptr 1 0 0, lS l', .bool false, i64 j] ∧ L = [.row t_bool (rowF (covL l')), .var (.agg [i64 a, i64 k])] ∧ j ≤ k, fun vs L => match vs with | [_, _, _, _, _, _, .int _ i] => k - i.toNat | _ => 0, [9], [0,1], rfl, ⟨0, rfl, by rw [hcov']; rfl, by omega⟩, ?_⟩)
          rintro vs L ⟨j, rfl, rfl, hj⟩
          ((repeat ((conv => whnf); first | (refine Sure.mk (by kernel_rfl) ?_) | (refine IfB.tt rfl ?_) | (refine IfB.ff rfl ?_) | (refine IfB.tt ?_ ?_; (focus (simp <;> fail))) | (refine IfB.ff ?_ ?_; (focus (simp <;> fail))) | (refine fits (wrap64 ?_ ?_) ?_; (focus omega); (focus omega)) | (refine Need.mk ?_ ?_; (focus omega)) | (refine InB.mk ?_ ?_ ?_; (focus omega); (focus omega)))); (try (conv => whnf)); first | refine IfB.dec (fun h6 => ?_) (fun h6 => ?_) | refine IfB.eq (fun h6 => ?_) (fun h6 => ?_) | refine IfB.ne (fun h6 => ?_) (fun h6 => ?_) | refine IfB.mk (fun h6 => ?_) (fun h6 => ?_))
        case' gb =>
          have hcov' : rowF (gotF (covL l) a k) = rowF (covL l') := by
            unfold rowF; exact List.map_congr_left fun j _ => by rw [hcov j]; rfl
          have hg0 : rowF (gotF (covL l) a 0) = rowF (covL l) := by
            unfold rowF; exact List.map_congr_left fun j _ => by unfold gotF; rw [if_neg (by omega)]
          ((repeat ((conv => whnf); first | (refine Sure.mk (by kernel_rfl) ?_) | (refine IfB.tt rfl ?_) | (refine IfB.ff rfl ?_) | (refine IfB.tt ?_ ?_; (focus (simp <;> fail))) | (refine IfB.ff ?_ ?_; (focus (simp <;> fail))) | (refine fits (wrap64 ?_ ?_) ?_; (focus omega); (focus omega)) | (refine Need.mk ?_ ?_; (focus omega)) | (refine InB.mk ?_ ?_ ?_; (focus omega); (focus omega)))); (try (conv => whnf)); refine LoopN.mk ⟨[0,4,5,6,9,10,11], fun vs L => ∃ j : Nat, vs = [lB bs, .ptr 0 0 0, i64 i, .ptr 1 0 0, lS l', .bool true, i64 j] ∧ L = [.row t_bool (rowF (gotF (covL l) a j)), .var (.agg [i64 a, i64 k])] ∧ j ≤ k, fun vs L => match vs with | [_, _, _, _, _, _, .int _ i] => k - i.toNat | _ => 0, [9], [0,1], rfl, ⟨0, rfl, by rw [hg0]; rfl, by omega⟩, ?_⟩)
          rintro vs L ⟨j, rfl, rfl, hj⟩
          ((repeat ((conv => whnf); first | (refine Sure.mk (by kernel_rfl) ?_) | (refine IfB.tt rfl ?_) | (refine IfB.ff rfl ?_) | (refine IfB.tt ?_ ?_; (focus (simp <;> fail))) | (refine IfB.ff ?_ ?_; (focus (simp <;> fail))) | (refine fits (wrap64 ?_ ?_) ?_; (focus omega); (focus omega)) | (refine Need.mk ?_ ?_; (focus omega)) | (refine InB.mk ?_ ?_ ?_; (focus omega); (focus omega)))); (try (conv => whnf)); first | refine IfB.dec (fun h6 => ?_) (fun h6 => ?_) | refine IfB.eq (fun h6 => ?_) (fun h6 => ?_) | refine IfB.ne (fun h6 => ?_) (fun h6 => ?_) | refine IfB.mk (fun h6 => ?_) (fun h6 => ?_))
          · have hjk : j < k := by omega
            have hlen := rowF_len (gotF (covL l) a j)
            repeat ((conv => whnf); first | (refine Sure.mk (by kernel_rfl) ?_) | (refine IfB.tt rfl ?_) | (refine IfB.ff rfl ?_) | (refine IfB.tt ?_ ?_; (focus (simp <;> fail))) | (refine IfB.ff ?_ ?_; (focus (simp <;> fail))) | (refine fits (wrap64 ?_ ?_) ?_; (focus omega); (focus omega)) | (refine Need.mk ?_ ?_; (focus omega)) | (refine InB.mk ?_ ?_ ?_; (focus omega); (focus omega)))
            have hst : (rowF (gotF (covL l) a j)).set (((a : Nat) : Int) + ((j : Nat) : Int)).toNat (.bool true) = rowF (gotF (covL l) a (j + 1)) := by
              rw [show (((a : Nat) : Int) + ((j : Nat) : Int)).toNat = a + j by omega]
              refine rowF_set (by omega) fun m hm => ?_
              unfold gotF
              by_cases e : m = a + j
              · rw [if_pos e, if_pos (by omega)]
              · rw [if_neg e]
                by_cases e2 : a ≤ m ∧ m < a + j
                · rw [if_pos e2, if_pos (by omega)]
                · rw [if_neg e2, if_neg (by omega)]
            ((repeat ((conv => whnf); first | (refine Sure.mk (by kernel_rfl) ?_) | (refine IfB.tt rfl ?_) | (refine IfB.ff rfl ?_) | (refine IfB.tt ?_ ?_; (focus (simp <;> fail))) | (refine IfB.ff ?_ ?_; (focus (simp <;> fail))) | (refine fits (wrap64 ?_ ?_) ?_; (focus omega); (focus omega)) | (refine Need.mk ?_ ?_; (focus omega)) | (refine InB.mk ?_ ?_ ?_; (focus omega); (focus omega)))); (try (conv => whnf)); refine ⟨[], [0,1], rfl, ⟨j + 1, rfl, by rw [← hst]; rfl, hjk⟩, (by omega : k - ((j : Int) + 1).toNat < k - (j : Int).toNat)⟩)
          have ejk : j = k := by omega
          subst ejk
          rw [hcov']
        all_goals
          ((repeat ((conv => whnf); first | (refine Sure.mk (by kernel_rfl) ?_) | (refine IfB.tt rfl ?_) | (refine IfB.ff rfl ?_) | (refine IfB.tt ?_ ?_; (focus (simp <;> fail))) | (refine IfB.ff ?_ ?_; (focus (simp <;> fail))) | (refine fits (wrap64 ?_ ?_) ?_; (focus omega); (focus omega)) | (refine Need.mk ?_ ?_; (focus omega)) | (refine InB.mk ?_ ?_ ?_; (focus omega); (focus omega)))); (try (conv => whnf)); refine LoopN.mk ⟨[0,3,4,5,12,13,14], fun vs L => ∃ j : Nat, vs = [lB bs, lS l', .ptr 0 0 0, i64 i, i64 (cntF (covL l') j), i64 (lastF (covL l') j), i64 j] ∧ L = [.row t_bool (rowF (covL l'))] ∧ j ≤ 300, fun vs L => match vs with | [_, _, _, _, _, _, .int _ i] => 300 - i.toNat | _ => 0, [3], [0], rfl, ⟨0, rfl, rfl, by omega⟩, ?_⟩)
          rintro vs L ⟨m, rfl, rfl, hm⟩
          have hrl' := rowF_len (covL l')
          have hcle : ∀ j, cntF (covL l') j ≤ j := fun j => by
            induction j with
            | zero => simp [cntF]
            | succ j ih => simp only [cntF]; split <;> omega
          have hcm := hcle m
          ((repeat ((conv => whnf); first | (refine Sure.mk (by kernel_rfl) ?_) | (refine IfB.tt rfl ?_) | (refine IfB.ff rfl ?_) | (refine IfB.tt ?_ ?_; (focus (simp <;> fail))) | (refine IfB.ff ?_ ?_; (focus (simp <;> fail))) | (refine fits (wrap64 ?_ ?_) ?_; (focus omega); (focus omega)) | (refine Need.mk ?_ ?_; (focus omega)) | (refine InB.mk ?_ ?_ ?_; (focus omega); (focus omega)))); (try (conv => whnf)); first | refine IfB.dec (fun h7 => ?_) (fun h7 => ?_) | refine IfB.eq (fun h7 => ?_) (fun h7 => ?_) | refine IfB.ne (fun h7 => ?_) (fun h7 => ?_) | refine IfB.mk (fun h7 => ?_) (fun h7 => ?_))
          · have hm3 : m < 300 := by omega
            repeat ((conv => whnf); first | (refine Sure.mk (by kernel_rfl) ?_) | (refine IfB.tt rfl ?_) | (refine IfB.ff rfl ?_) | (refine IfB.tt ?_ ?_; (focus (simp <;> fail))) | (refine IfB.ff ?_ ?_; (focus (simp <;> fail))) | (refine fits (wrap64 ?_ ?_) ?_; (focus omega); (focus omega)) | (refine Need.mk ?_ ?_; (focus omega)) | (refine InB.mk ?_ ?_ ?_; (focus omega); (focus omega)))
            refine At.mk ⟨.bool (covL l' m), by rw [Int.toNat_natCast]; exact rowF_get hm3, ?_⟩
            cases h8 : covL l' m with
            | true =>
              have e1 : cntF (covL l') (m + 1) = cntF (covL l') m + 1 := by simp only [cntF, h8]; rfl
              have e2 : lastF (covL l') (m + 1) = m + 1 := by simp only [lastF, h8]; rfl
              ((repeat ((conv => whnf); first | (refine Sure.mk (by kernel_rfl) ?_) | (refine IfB.tt rfl ?_) | (refine IfB.ff rfl ?_) | (refine IfB.tt ?_ ?_; (focus (simp <;> fail))) | (refine IfB.ff ?_ ?_; (focus (simp <;> fail))) | (refine fits (wrap64 ?_ ?_) ?_; (focus omega); (focus omega)) | (refine Need.mk ?_ ?_; (focus omega)) | (refine InB.mk ?_ ?_ ?_; (focus omega); (focus omega)))); (try (conv => whnf)); refine ⟨[], [0], rfl, ⟨m + 1, by rw [e1, e2]; rfl, rfl, hm3⟩, (by omega : 300 - ((m : Int) + 1).toNat < 300 - (m : Int).toNat)⟩)
            | false =>
              have e1 : cntF (covL l') (m + 1) = cntF (covL l') m := by simp only [cntF, h8]; rfl
              have e2 : lastF (covL l') (m + 1) = lastF (covL l') m := by simp only [lastF, h8]; rfl
              ((repeat ((conv => whnf); first | (refine Sure.mk (by kernel_rfl) ?_) | (refine IfB.tt rfl ?_) | (refine IfB.ff rfl ?_) | (refine IfB.tt ?_ ?_; (focus (simp <;> fail))) | (refine IfB.ff ?_ ?_; (focus (simp <;> fail))) | (refine fits (wrap64 ?_ ?_) ?_; (focus omega); (focus omega)) | (refine Need.mk ?_ ?_; (focus omega)) | (refine InB.mk ?_ ?_ ?_; (focus omega); (focus omega)))); (try (conv => whnf)); refine ⟨[], [0], rfl, ⟨m + 1, by rw [e1, e2]; rfl, rfl, hm3⟩, (by omega : 300 - ((m : Int) + 1).toNat < 300 - (m : Int).toNat)⟩)
          · have em3 : m = 300 := by omega
            subst em3
            rw [htot, hlast]
            ((repeat ((conv => whnf); first | (refine Sure.mk (by kernel_rfl) ?_) | (refine IfB.tt rfl ?_) | (refine IfB.ff rfl ?_) | (refine IfB.tt ?_ ?_; (focus (simp <;> fail))) | (refine IfB.ff ?_ ?_; (focus (simp <;> fail))) | (refine fits (wrap64 ?_ ?_) ?_; (focus omega); (focus omega)) | (refine Need.mk ?_ ?_; (focus omega)) | (refine InB.mk ?_ ?_ ?_; (focus omega); (focus omega)))); (try (conv => whnf)); refine Choice.mk ⟨false, Choice.mk ⟨true, _, _, total_told l' (by omega) hb1, ?_⟩⟩)
            ((repeat ((conv => whnf); first | (refine Sure.mk (by kernel_rfl) ?_) | (refine IfB.tt rfl ?_) | (refine IfB.ff rfl ?_) | (refine IfB.tt ?_ ?_; (focus (simp <;> fail))) | (refine IfB.ff ?_ ?_; (focus (simp <;> fail))) | (refine fits (wrap64 ?_ ?_) ?_; (focus omega); (focus omega)) | (refine Need.mk ?_ ?_; (focus omega)) | (refine InB.mk ?_ ?_ ?_; (focus omega); (focus omega)))); (try (conv => whnf)); refine Choice.mk ⟨false, Choice.mk ⟨true, _, _, end_told l' (by omega) ha'.1, ?_⟩⟩)
            ((repeat ((conv => whnf); first | (refine Sure.mk (by kernel_rfl) ?_) | (refine IfB.tt rfl ?_) | (refine IfB.ff rfl ?_) | (refine IfB.tt ?_ ?_; (focus (simp <;> fail))) | (refine IfB.ff ?_ ?_; (focus (simp <;> fail))) | (refine fits (wrap64 ?_ ?_) ?_; (focus omega); (focus omega)) | (refine Need.mk ?_ ?_; (focus omega)) | (refine InB.mk ?_ ?_ ?_; (focus omega); (focus omega)))); (try (conv => whnf)); refine Choice.mk ⟨false, Choice.mk ⟨true, _, _, hmay, ?_⟩⟩)
            ((repeat ((conv => whnf); first | (refine Sure.mk (by kernel_rfl) ?_) | (refine IfB.tt rfl ?_) | (refine IfB.ff rfl ?_) | (refine IfB.tt ?_ ?_; (focus (simp <;> fail))) | (refine IfB.ff ?_ ?_; (focus (simp <;> fail))) | (refine fits (wrap64 ?_ ?_) ?_; (focus omega); (focus omega)) | (refine Need.mk ?_ ?_; (focus omega)) | (refine InB.mk ?_ ?_ ?_; (focus omega); (focus omega)))); (try (conv => whnf)); refine ⟨[], [0], rfl, ⟨i + 2, l', rfl, rfl, by omega, ha', hx', by omega⟩, (by omega : bs.length + 1 - ((i : Int) + 2).toNat < bs.length + 1 - (i : Int).toNat)⟩)
    · ((repeat ((conv => whnf); first | (refine Sure.mk (by kernel_rfl) ?_) | (refine IfB.tt rfl ?_) | (refine IfB.ff rfl ?_) | (refine IfB.tt ?_ ?_; (focus (simp <;> fail))) | (refine IfB.ff ?_ ?_; (focus (simp <;> fail))) | (refine fits (wrap64 ?_ ?_) ?_; (focus omega); (focus omega)) | (refine Need.mk ?_ ?_; (focus omega)) | (refine InB.mk ?_ ?_ ?_; (focus omega); (focus omega)))); (try (conv => whnf)); exact RetN.mk ⟨[], rfl, rfl, rfl⟩)

