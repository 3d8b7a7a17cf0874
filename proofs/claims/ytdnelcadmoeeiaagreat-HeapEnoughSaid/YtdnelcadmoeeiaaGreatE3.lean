/- Words and lemmas, part 3, for laws of this seat (a part of their proofs). -/
import Derived.Laws.Bits64
import Derived.Test.YtdnelcadmoeeiaaGreatE1
import Derived.Test.YtdnelcadmoeeiaaGreatE2
import Derived.Test.YtdnelcadmoeeiaaGreatNm
import Derived.Test.YtdnelcadmoeeiaaGreatEvOpen
import Derived.Test.YtdnelcadmoeeiaaGreatEvLib
import Derived.Test.YtdnelcadmoeeiaaGreatEvGrid
import Derived.Test.YtdnelcadmoeeiaaGreatEvTrim
set_option linter.unusedVariables false
set_option linter.unusedSimpArgs false
namespace Go.Ev.W
open Go.Ev Go.Ev.N

theorem and64i {x y : Nat} (hx : x < 2 ^ 63) (hy : y < 2 ^ 63) : bitsOp .and .i64 (x : Int) (y : Int) = ((x &&& y : Nat) : Int) := by
  have h0 : x &&& y < 2 ^ 63 := Nat.and_lt_two_pow (n := 63) x hy
  have e : (BitVec.ofInt 64 (x : Int) &&& BitVec.ofInt 64 (y : Int)).toNat = x &&& y := by
    rw [BitVec.toNat_and, b64 (by omega), b64 (by omega), BitVec.toNat_ofNat, BitVec.toNat_ofNat, Nat.mod_eq_of_lt (by omega), Nat.mod_eq_of_lt (by omega)]
  show IntKind.i64.wrap ((BitVec.ofInt 64 (x : Int) &&& BitVec.ofInt 64 (y : Int)).toNat : Int) = _
  rw [e]
  exact wrap64 (by omega) (by omega)
theorem and_mod {g k : Nat} (hg : g < 2 ^ 63) (hk : k ≤ 16) : bitsOp .and .i64 (g : Int) (((2 ^ k : Nat) : Int) - 1) = ((g % 2 ^ k : Nat) : Int) := by
  have hp : 2 ^ k ≤ 2 ^ 16 := Nat.pow_le_pow_right (by omega) hk
  have hp0 : 0 < 2 ^ k := Nat.pow_pos (by omega)
  rw [show ((2 ^ k : Nat) : Int) - 1 = ((2 ^ k - 1 : Nat) : Int) by omega, and64i hg (by omega), Nat.and_two_pow_sub_one_eq_mod]
theorem shlI {k : Nat} (h : k ≤ 16) : (1 : Int) * 2 ^ min ((k : Nat) : Int).toNat IntKind.i64.bits = ((2 ^ k : Nat) : Int) := by
  rw [Int.toNat_natCast, show min k IntKind.i64.bits = k from Nat.min_eq_left (by show k ≤ 64; omega)]
  simp
theorem shrI {g k : Nat} (h : k ≤ 16) : ((g : Nat) : Int).fdiv (2 ^ min ((k : Nat) : Int).toNat IntKind.i64.bits) = ((g / 2 ^ k : Nat) : Int) := by
  rw [Int.toNat_natCast, show min k IntKind.i64.bits = k from Nat.min_eq_left (by show k ≤ 64; omega)]
  have : ((2 : Int) ^ k) = ((2 ^ k : Nat) : Int) := by simp
  rw [this, Int.fdiv_eq_ediv_of_nonneg _ (Int.natCast_nonneg _)]
  exact (Int.natCast_ediv g (2 ^ k)).symm
def sN : AV := .agg [.lst t_api_Tree []]
def SlOkI (g c : Int) : Prop := 1 ≤ c ∧ c ≤ 17 ∧ 1 ≤ g ∧ g ≤ 65536 ∧ g.toNat % 2 ^ (c.toNat - 1) = 0
instance (g c : Int) : Decidable (SlOkI g c) := by unfold SlOkI; infer_instance
theorem SlOkI.ok {g c : Nat} (h : SlOkI g c) : SlOk g c := ⟨by have := h.1; omega, by have := h.2.1; omega, by have := h.2.2.1; omega, by have := h.2.2.2.1; omega, by have := h.2.2.2.2; simpa using this⟩
theorem SlOk.int {g c : Nat} (h : SlOk g c) : SlOkI g c := ⟨by have := h.c1; omega, by have := h.c17; omega, by have := h.g1; omega, by have := h.g2; omega, by simpa using h.dv⟩
theorem upB_off : ∀ k, upB offB k = offB
  | 0 => rfl
  | k + 1 => by
    funext i
    show (upB offB k (2 * i) || upB offB k (2 * i + 1)) = _
    rw [upB_off k]; rfl
set_option maxHeartbeats 4000000 in
theorem slNew_told {g c : Nat} (h : SlOk g c) : Told P T slots_New [] [i64 g, i64 c] (eS g c offB) [] := by
  obtain ⟨k1, hk1⟩ : ∃ k, c = k + 1 := ⟨c - 1, by have := h.c1; omega⟩
  have h1 := h.c17
  have h2 := h.g1
  have h3 := h.g2
  have hsl := shlI (k := k1) (by omega)
  have hand := and_mod (g := g) (k := k1) (by omega) (by omega)
  have hp : 2 ^ k1 ≤ 2 ^ 16 := Nat.pow_le_pow_right (by omega) (by omega)
  have hp0 : 0 < 2 ^ k1 := Nat.pow_pos (by omega)
  rw [show g % 2 ^ k1 = 0 by have := h.dv; rw [hk1] at this; exact this] at hand
  have hcv : IntKind.u64.wrap ((c : Int) - 1) = (k1 : Nat) := by rw [show (c : Int) - 1 = (k1 : Nat) by omega]; exact wrapU64 (by omega) (by omega)
  refine told_of_ev (fn := slots_New_fn) tabOk mixed (by kernel_rfl) (by kernel_rfl) (by kernel_rfl) (by kernel_rfl) ?_
  (refine gw ?_; refine IfB.ff (by simp; omega) ?_)
  (refine gw ?_; refine IfB.ff (by simp; omega) ?_)
  (refine gw ?_; refine IfB.ff (by simp; omega) ?_)
  (refine gw ?_; refine IfB.ff (by simp; omega) ?_)
  (refine gw ?_)
  rw [show (c : Int) - 1 = (k1 : Nat) by omega, hsl]
  (refine gw ?_)
  rw [hand]
  (refine gw ?_)
  (refine gw ?_; refine LoopN.mk ⟨[0,4,31,32], fun vs L => ∃ k : Nat, vs = [i64 g, .ptr 0 0 0, i64 c, i64 k] ∧ L = [.var (.agg [.ref 1]), .row t_api_Tree (tL g k offB)] ∧ k ≤ c, fun vs L => match vs with | [_, _, _, .int _ i] => c - i.toNat | _ => 0, [], [0,1], rfl, ⟨0, rfl, rfl, by omega⟩, ?_⟩)
  rintro vs L ⟨k, rfl, rfl, hk⟩
  by_cases hkc : k < c
  · have hs := shrI (g := g) (k := k) (by omega)
    have hz := h.sz hkc
    have d1 := newR_told hz.1 hz.2.1
    have hu : tL g k offB ++ [eTr (g / 2 ^ k) offB] = tL g (k + 1) offB := by
      rw [tL_suc]
      unfold tS
      rw [upB_off]
    have htl := tL_len g k offB
    (refine gw ?_; refine IfB.tt (by simp; omega) ?_)
    (refine gw ?_)
    rw [hs]
    (refine gw ?_; refine Choice.mk ⟨false, Choice.mk ⟨false, _, _, d1, ?_⟩⟩)
    (refine gw ?_)
    refine Room.mk (by rw [htl]; simp; omega) ?_
    (refine gw ?_; refine ⟨[], [0,3], rfl, ⟨k + 1, rfl, by rw [← hu]; rfl, hkc⟩, (by omega : c - ((k : Int) + 1).toNat < c - (k : Int).toNat)⟩)
  · obtain rfl : k = c := by omega
    (refine gw ?_)
    exact RetN.fz ⟨[true], [], rfl, rfl, rfl⟩
set_option maxHeartbeats 4000000 in
theorem slNewNo_told {g c : Int} (h : ¬ SlOkI g c) (hg : -9223372036854775808 ≤ g ∧ g ≤ 9223372036854775807) (hc : -9223372036854775808 ≤ c ∧ c ≤ 9223372036854775807) : Told P T slots_New [] [i64 g, i64 c] sN [] := by
  refine told_of_ev (fn := slots_New_fn) tabOk mixed (by kernel_rfl) (by kernel_rfl) (by kernel_rfl) (by kernel_rfl) ?_
  by_cases h1 : c < 1
  · (refine gw ?_; refine IfB.tt (by simp; omega) ?_)
    (refine gw ?_)
    exact RetN.fz ⟨[true], [], rfl, rfl, rfl⟩
  · (refine gw ?_; refine IfB.ff (by simp; omega) ?_)
    by_cases h2 : c > 17
    · (refine gw ?_; refine IfB.tt (by simp; omega) ?_)
      (refine gw ?_)
      exact RetN.fz ⟨[true], [], rfl, rfl, rfl⟩
    · (refine gw ?_; refine IfB.ff (by simp; omega) ?_)
      by_cases h3 : g < 1
      · (refine gw ?_; refine IfB.tt (by simp; omega) ?_)
        (refine gw ?_)
        exact RetN.fz ⟨[true], [], rfl, rfl, rfl⟩
      · (refine gw ?_; refine IfB.ff (by simp; omega) ?_)
        by_cases h4 : g > 65536
        · (refine gw ?_; refine IfB.tt (by simp; omega) ?_)
          (refine gw ?_)
          exact RetN.fz ⟨[true], [], rfl, rfl, rfl⟩
        · (refine gw ?_; refine IfB.ff (by simp; omega) ?_)
          obtain ⟨n, rfl⟩ : ∃ n : Nat, g = n := ⟨g.toNat, by omega⟩
          obtain ⟨k, rfl⟩ : ∃ k : Nat, c = k + 1 := ⟨c.toNat - 1, by omega⟩
          have hsl := shlI (k := k) (by omega)
          have hand := and_mod (g := n) (k := k) (by omega) (by omega)
          have hp : 2 ^ k ≤ 2 ^ 16 := Nat.pow_le_pow_right (by omega) (by omega)
          have hp0 : 0 < 2 ^ k := Nat.pow_pos (by omega)
          have hne : n % 2 ^ k ≠ 0 := fun e => h ⟨by omega, by omega, by omega, by omega, by
            rw [Int.toNat_natCast, show ((k : Int) + 1).toNat - 1 = k by omega]; exact e⟩
          (refine gw ?_)
          rw [show (k : Int) + 1 - 1 = (k : Nat) by omega]
          (refine gw ?_)
          rw [hsl]
          (refine gw ?_)
          rw [hand]
          generalize n % 2 ^ k = r at *
          (refine gw ?_; refine IfB.tt (by simp; omega) ?_)
          (refine gw ?_)
          exact RetN.fz ⟨[true], [], rfl, rfl, rfl⟩
end Go.Ev.W
namespace Go.Ev.W
open Go.Ev Go.Ev.N

theorem setZ_none (b : Nat → Bool) (on : Bool) : setZ b 0 0 on = b := by
  funext x
  unfold setZ
  rw [if_neg (by omega)]
set_option maxHeartbeats 4000000 in
theorem slTwin_told {g c : Nat} (h : SlOk g c) (b : Nat → Bool) : Told P T slots_twin [] [eS g c b] (.agg [.ref 0]) [.row t_api_Tree (tL g c b)] := by
  have h1 := h.c17
  have htl := tL_len g c b
  refine told_of_ev (fn := slots_twin_fn) tabOk mixed (by kernel_rfl) (by kernel_rfl) (by kernel_rfl) (by kernel_rfl) ?_
  (refine gw ?_; refine LoopN.mk ⟨[2,6,7,8], fun vs L => ∃ k : Nat, vs = [.ptr 0 0 0, .lst t_api_Tree (tL g c b), i64 (tL g c b).length, i64 k] ∧ L = [.var (.agg [.ref 1]), .row t_api_Tree (tL g k b)] ∧ k ≤ c, fun vs L => match vs with | [_, _, _, .int _ i] => c - i.toNat | _ => 0, [], [1,2], rfl, ⟨0, rfl, rfl, by omega⟩, ?_⟩)
  rintro vs L ⟨k, rfl, rfl, hk⟩
  by_cases hkc : k < c
  · have hz := h.sz hkc
    have d1 : Told P T tree_Set [] [eTr (g / 2 ^ k) (upB b k), i64 0, i64 0, .bool true] (tS g b k) [] := by
      have := treeSet_told hz.1 hz.2.1 (upB b k) 0 0 (by omega) true
      rw [setZ_none] at this
      exact this
    have hu := tL_suc g k b
    have htk := tL_len g k b
    (refine gw ?_; refine IfB.tt (by simp; omega) ?_)
    (refine gw ?_)
    refine tL_idx hkc ?_
    (refine gw ?_; refine Choice.mk ⟨false, Choice.mk ⟨false, _, _, d1, ?_⟩⟩)
    (refine gw ?_)
    refine Room.mk (by rw [htk]; simp; omega) ?_
    (refine gw ?_; refine ⟨[], [0,5], rfl, ⟨k + 1, rfl, by rw [hu]; rfl, hkc⟩, (by omega : c - ((k : Int) + 1).toNat < c - (k : Int).toNat)⟩)
  · obtain rfl : k = c := by omega
    (refine gw ?_; refine IfB.ff (by rw [htl]; simp) ?_)
    (refine gw ?_)
    exact RetN.mk ⟨[1], rfl, rfl, rfl⟩
theorem slTaken_told {n : Nat} (hn : 1 ≤ n) (hn2 : n ≤ 65536) (b : Nat → Bool) (i : Int) (hi : -1000000 ≤ i ∧ i ≤ 1000000) : Told P T slots_taken [] [eTr n b, i64 i] (.bool (hasT n b (2 * i) || hasT n b (2 * i + 1))) [] := by
  have d1 := treeHas_told hn hn2 b (2 * i) (by omega)
  have d2 := treeHas_told hn hn2 b (2 * i + 1) (by omega)
  refine told_of_ev (fn := slots_taken_fn) tabOk mixed (by kernel_rfl) (by kernel_rfl) (by kernel_rfl) (by kernel_rfl) ?_
  (refine gw ?_; refine Choice.mk ⟨false, Choice.mk ⟨false, _, _, d1, ?_⟩⟩)
  cases h1 : hasT n b (2 * i)
  · (refine gw ?_; refine Choice.mk ⟨false, Choice.mk ⟨false, _, _, d2, ?_⟩⟩)
    (refine gw ?_; exact RetN.mk ⟨[], rfl, rfl, rfl⟩)
  · (refine gw ?_; exact RetN.mk ⟨[], rfl, rfl, rfl⟩)
/-- Granules live, or not, for all classes up to one. -/
def usL (g c : Nat) (b b' : Nat → Bool) (k : Nat) : List AV := (List.range c).map fun j => if j < k then tS g b' j else tS g b j
theorem usL_len (g c : Nat) (b b' : Nat → Bool) (k : Nat) : (usL g c b b' k).length = c := by simp [usL]
theorem usL_zero (g c : Nat) (b b' : Nat → Bool) : usL g c b b' 0 = tL g c b := by
  unfold usL tL
  exact List.map_congr_left fun j _ => by rw [if_neg (by omega)]
theorem usL_end (g c : Nat) (b b' : Nat → Bool) : usL g c b b' c = tL g c b' := by
  unfold usL tL
  exact List.map_congr_left fun j hj => by rw [if_pos (by simpa using hj)]
theorem usL_set {g c k : Nat} {b b' : Nat → Bool} : (usL g c b b' k).set k (tS g b' k) = usL g c b b' (k + 1) := by
  unfold usL
  apply List.ext_getElem (by simp)
  intro j h1 h2
  rw [List.getElem_set]
  simp only [List.getElem_map, List.getElem_range]
  split
  · rename_i e; subst e; rw [if_pos (by omega)]
  · rename_i e
    by_cases hj : j < k
    · rw [if_pos hj, if_pos (by omega)]
    · rw [if_neg hj, if_neg (by omega)]
theorem usL_at {g c k j : Nat} {b b' : Nat → Bool} (h : j < c) {Q : AV → Prop} (q : Q (if j < k then tS g b' j else tS g b j)) : At (usL g c b b' k) ((j : Nat) : Int).toNat Q := by
  unfold usL
  refine at_map (k := j) (by simpa using h) ?_
  rw [List.getElem_range]; exact q
/-- What a place's bit is, said by what is below. -/
theorem up_taken {g c k : Nat} (h : SlOk g c) (hk : k + 1 < c) (b : Nat → Bool) {i : Nat} (hi : i < g / 2 ^ (k + 1)) :
    (hasT (g / 2 ^ k) (upB b k) (2 * (i : Int)) || hasT (g / 2 ^ k) (upB b k) (2 * (i : Int) + 1)) = upB b (k + 1) i := by
  have hh := h.half hk
  have h1 : hasT (g / 2 ^ k) (upB b k) (2 * (i : Int)) = upB b k (2 * i) := hasT_nat (x := 2 * i) (by omega)
  have h2 : hasT (g / 2 ^ k) (upB b k) (2 * (i : Int) + 1) = upB b k (2 * i + 1) := hasT_nat (x := 2 * i + 1) (by omega)
  rw [h1, h2]; rfl
end Go.Ev.W
namespace Go.Ev.W
open Go.Ev Go.Ev.N

/-- A class's bits, while its two ends are looked at again. -/
def enB (b b' : Nat → Bool) (k lo hi : Nat) (on : Bool) (j : Nat) : Nat → Bool :=
  let B := setZ (upB b k) lo ((hi : Int) - lo + 1) on
  if 0 < k ∧ on = false then (if j = 0 then B else if j = 1 then setZ B lo 1 (upB b' k lo) else setZ (setZ B lo 1 (upB b' k lo)) hi 1 (upB b' k hi)) else B
theorem set1 (b : Nat → Bool) (lo : Nat) (v : Bool) (i : Nat) : setZ b lo 1 v i = if i = lo then v else b i := by
  unfold setZ
  by_cases h : i = lo
  · rw [if_pos (by omega), if_pos h]
  · rw [if_neg (by omega), if_neg h]
theorem enB_zero (b b' : Nat → Bool) (k lo hi : Nat) (on : Bool) : enB b b' k lo hi on 0 = setZ (upB b k) lo ((hi : Int) - lo + 1) on := by
  unfold enB
  split
  · rw [if_pos rfl]
  · rfl
theorem enB_off {b b' : Nat → Bool} {k lo hi : Nat} {on : Bool} (h : ¬ (0 < k ∧ on = false)) (j j' : Nat) : enB b b' k lo hi on j = enB b b' k lo hi on j' := by
  unfold enB
  rw [if_neg h, if_neg h]
theorem enB_one {b b' : Nat → Bool} {k lo hi : Nat} {on : Bool} (h : 0 < k ∧ on = false) : setZ (enB b b' k lo hi on 0) lo 1 (upB b' k lo) = enB b b' k lo hi on 1 := by
  unfold enB
  rw [if_pos h, if_pos h, if_pos rfl, if_neg (by omega), if_pos rfl]
theorem enB_two {b b' : Nat → Bool} {k lo hi : Nat} {on : Bool} (h : 0 < k ∧ on = false) : setZ (enB b b' k lo hi on 1) hi 1 (upB b' k hi) = enB b b' k lo hi on 2 := by
  unfold enB
  rw [if_pos h, if_pos h, if_neg (by omega), if_pos rfl, if_neg (by omega), if_neg (by omega)]
theorem enB_end {b : Nat → Bool} {f last k : Nat} {on : Bool} (h1 : f ≤ last) (i : Nat) : enB b (setB b f (last + 1 - f) on) k (f / 2 ^ k) (last / 2 ^ k) on 2 i = upB (setB b f (last + 1 - f) on) k i := by
  unfold enB
  cases on with
  | true =>
    rw [if_neg (by simp)]
    exact use_on (g := 0) h1
  | false =>
    by_cases hk : 0 < k
    · rw [if_pos ⟨hk, rfl⟩, if_neg (by omega), if_neg (by omega), set1, set1]
      by_cases e1 : i = last / 2 ^ k
      · rw [if_pos e1, e1]
      · rw [if_neg e1]
        by_cases e2 : i = f / 2 ^ k
        · rw [if_pos e2, e2]
        · rw [if_neg e2]
          exact use_off (g := 0) h1 ⟨e2, e1⟩
    · obtain rfl : k = 0 := by omega
      rw [if_neg (by omega)]
      show setZ b ((f / 2 ^ 0 : Nat) : Int) _ false i = setB b f (last + 1 - f) false i
      rw [Nat.pow_zero, Nat.div_one, Nat.div_one]
      unfold setZ setB
      by_cases hq : f ≤ i ∧ i ≤ last
      · rw [if_pos (by omega), if_pos (by omega)]
      · rw [if_neg (by omega), if_neg (by omega)]
theorem setB_last {g : Nat} {b : Nat → Bool} {f last : Nat} {n : Int} {on : Bool} (hf : f < g) (hl : (last : Int) = f + min n (g - f) - 1) (h1 : 1 ≤ n) : ∀ x, x < g → setB b f (last + 1 - f) on x = setZ b f n on x := by
  intro x hx
  unfold setB setZ
  by_cases hq : f ≤ x ∧ x < f + (last + 1 - f)
  · rw [if_pos hq, if_pos (by omega)]
  · rw [if_neg hq, if_neg (by omega)]
set_option maxRecDepth 20000 in
set_option maxHeartbeats 8000000 in
theorem slUse_told {g c : Nat} (h : SlOk g c) (b : Nat → Bool) (f n : Int) (hf : -9223372036854775808 ≤ f ∧ f ≤ 9223372036854775807) (hn : -9223372036854775808 ≤ n ∧ n ≤ 9223372036854775807) (on : Bool) :
    Told P T slots_Use [] [eS g c b, i64 f, i64 n, .bool on] (eS g c (setZ b f n on)) [] := by
  have h1 := h.c1
  have h2 := h.c17
  have h3 := h.g1
  have h4 := h.g2
  have htl := tL_len g c b
  have c1 := slTwin_told h b
  have hg0 : ((g / 2 ^ 0 : Nat) : Int) = g := by rw [Nat.pow_zero, Nat.div_one]
  have same : (f < 0 ∨ n < 1 ∨ f ≥ g) → eS g c (setZ b f n on) = eS g c b := fun hh => eS_congr fun x hx => by
    unfold setZ
    rw [if_neg (by omega)]
  refine told_of_ev (fn := slots_Use_fn) tabOk mixed (by kernel_rfl) (by kernel_rfl) (by kernel_rfl) (by kernel_rfl) ?_
  (refine gw ?_; refine Choice.mk ⟨false, Choice.mk ⟨false, _, _, c1, ?_⟩⟩)
  (refine gw ?_)
  rw [htl]
  (refine gw ?_; refine IfB.ff (by simp; omega) ?_)
  by_cases hf0 : f < 0
  · rw [same (.inl hf0)]
    (refine gw ?_; refine IfB.tt (by simp; omega) ?_)
    (refine gw ?_)
    exact RetN.fz ⟨[true], [], rfl, rfl, rfl⟩
  · (refine gw ?_; refine IfB.ff (by simp; omega) ?_)
    by_cases hn1 : n < 1
    · rw [same (.inr (.inl hn1))]
      (refine gw ?_; refine IfB.tt (by simp; omega) ?_)
      (refine gw ?_)
      exact RetN.fz ⟨[true], [], rfl, rfl, rfl⟩
    · (refine gw ?_; refine IfB.ff (by simp; omega) ?_)
      (refine gw ?_)
      refine tL_at (k := 0) (by omega) ?_
      by_cases hfg : f ≥ g
      · rw [same (.inr (.inr hfg))]
        (refine gw ?_; refine IfB.tt (by rw [hg0]; simp; omega) ?_)
        (refine gw ?_)
        exact RetN.fz ⟨[true], [], rfl, rfl, rfl⟩
      · (refine gw ?_; refine IfB.ff (by rw [hg0]; simp; omega) ?_)
        obtain ⟨a, rfl⟩ : ∃ a : Nat, f = a := ⟨f.toNat, by omega⟩
        (refine gw ?_)
        refine tL_at (k := 0) (by omega) ?_
        obtain ⟨last, hl⟩ : ∃ last : Nat, (last : Int) = (a : Int) + (if ((g / 2 ^ 0 : Nat) : Int) - (a : Int) < n then ((g / 2 ^ 0 : Nat) : Int) - (a : Int) else n) - 1 := ⟨((a : Int) + (if ((g / 2 ^ 0 : Nat) : Int) - (a : Int) < n then ((g / 2 ^ 0 : Nat) : Int) - (a : Int) else n) - 1).toNat, by rw [hg0]; split <;> omega⟩
        have hl2 : (last : Int) = a + min n (g - a) - 1 := by rw [hl, hg0]; split <;> omega
        have hal : a ≤ last := by omega
        have hlg : last < g := by omega
        have hend : eS g c (setB b a (last + 1 - a) on) = eS g c (setZ b a n on) := eS_congr (setB_last (by omega) hl2 (by omega))
        rw [← hend]
        have hB := fun k i => enB_end (b := b) (f := a) (last := last) (k := k) (on := on) hal i
        generalize hb' : setB b a (last + 1 - a) on = b' at *
        have hul := fun k => usL_len g c b b' k
        (refine gw ?_; refine LoopN.mk ⟨[1,3,8,9,10,54,55,56], fun vs L => ∃ k : Nat, vs = [i64 a, .bool on, .ptr 0 0 0, .ptr 1 0 0, i64 last, .ref 2, i64 (tL g c b).length, i64 k] ∧ L = [.var (.agg [.und]), .var (.agg [.ref 2]), .row t_api_Tree (usL g c b b' k)] ∧ k ≤ c, fun vs L => match vs with | [_, _, _, _, _, _, _, .int _ i] => c - i.toNat | _ => 0, [], [1,4,3], rfl, ⟨0, by rw [hl]; rfl, by rw [usL_zero]; rfl, by omega⟩, ?_⟩)
        rintro vs L ⟨k, rfl, rfl, hk⟩
        have hulk := hul k
        by_cases hkc : k < c
        · have hz := h.sz hkc
          have hs1 := shrI (g := a) (k := k) (by omega)
          have hs2 := shrI (g := last) (k := k) (by omega)
          have hlo : a / 2 ^ k ≤ last / 2 ^ k := Nat.div_le_div_right hal
          have hhi : last / 2 ^ k < g / 2 ^ k := by
            have := hz.2.2
            exact Nat.div_lt_of_lt_mul (by rw [Nat.mul_comm, this]; exact hlg)
          have hB := hB k
          have htk : ∀ k', k = k' + 1 → ∀ i, i < g / 2 ^ k → Told P T slots_taken [] [tS g b' k', i64 (i : Nat)] (.bool (upB b' k i)) [] := fun k' e i hi => by
            subst e
            have hz' := h.sz (k := k') (by omega)
            have := slTaken_told hz'.1 hz'.2.1 (upB b' k') i (by omega)
            rw [up_taken h hkc b' hi] at this
            exact this
          have hset := usL_set (g := g) (c := c) (k := k) (b := b) (b' := b')
          have hn0 : g / 2 ^ k = g / 2 ^ k := rfl
          generalize hlo' : a / 2 ^ k = lo at *
          generalize hhi' : last / 2 ^ k = hi at *
          have d1 := treeSet_told hz.1 hz.2.1 (upB b k) (lo : Nat) (((hi : Nat) : Int) - (lo : Nat) + 1) (by omega) on
          (refine gw ?_; refine IfB.tt (by rw [htl]; simp; omega) ?_)
          (refine gw ?_)
          refine usL_at hkc ?_
          rw [if_neg (Nat.lt_irrefl k)]
          (refine gw ?_)
          rw [hs1]
          (refine gw ?_)
          rw [hs2]
          (refine gw ?_; refine Choice.mk ⟨false, Choice.mk ⟨false, _, _, d1, ?_⟩⟩)
          (refine gw ?_; refine LoopN.mk ⟨[1,3,8,9,10,11,12,54,55,56,79,80,81], fun vs L => ∃ j : Nat, vs = [i64 a, .bool on, .ptr 0 0 0, .ptr 1 0 0, i64 last, i64 k, .ptr 3 0 0, .ref 2, i64 (tL g c b).length, i64 k, .lst t_int [i64 lo, i64 hi], i64 2, i64 j] ∧ L = [.var (.agg [.und]), .var (.agg [.ref 2]), .row t_api_Tree (usL g c b b' k), .var (eTr (g / 2 ^ k) (enB b b' k lo hi on j))] ∧ j ≤ 2, fun vs L => match vs with | [_, _, _, _, _, _, _, _, _, _, _, _, .int _ i] => 2 - i.toNat | _ => 0, [79], [0,1,2,3], rfl, ⟨0, rfl, by rw [enB_zero]; rfl, by omega⟩, ?_⟩)
          rintro vs L ⟨j, rfl, rfl, hj⟩
          rcases (show j = 0 ∨ j = 1 ∨ j = 2 by omega) with rfl | rfl | rfl
          · (refine gw ?_)
            refine ⟨_, by decide, rfl, ?_⟩
            by_cases hko : 0 < k ∧ on = false
            · obtain ⟨hk0, rfl⟩ := hko
              obtain ⟨k', rfl⟩ : ∃ k', k = k' + 1 := ⟨k - 1, by omega⟩
              have e1 := htk k' rfl lo (by omega)
              have e2 := treeSet_told hz.1 hz.2.1 (enB b b' (k' + 1) lo hi false 0) (lo : Nat) 1 (by omega) (upB b' (k' + 1) lo)
              rw [enB_one ⟨hk0, rfl⟩] at e2
              (refine gw ?_)
              rw [show ((k' + 1 : Nat) : Int) - 1 = (k' : Int) by omega]
              (refine gw ?_)
              refine usL_at (j := k') (by omega) ?_
              rw [if_pos (by omega)]
              (refine gw ?_; refine Choice.mk ⟨false, Choice.mk ⟨false, _, _, e1, ?_⟩⟩)
              (refine gw ?_; refine Choice.mk ⟨false, Choice.mk ⟨false, _, _, e2, ?_⟩⟩)
              (refine gw ?_; refine ⟨[], [0,1,2,3], rfl, ⟨1, rfl, rfl, by omega⟩, (by omega : 2 - (((0 : Nat) : Int) + 1).toNat < 2 - ((0 : Nat) : Int).toNat)⟩)
            · have eo := enB_off (b := b) (b' := b') (lo := lo) (hi := hi) hko 0 1
              rw [eo]
              by_cases hk0 : 0 < k
              · have hon : on = true := by cases on with
                  | true => rfl
                  | false => exact absurd ⟨hk0, rfl⟩ hko
                subst hon
                (refine gw ?_; refine IfB.tt (by simp; omega) ?_)
                (refine gw ?_; refine ⟨[], [0,1,2,3], rfl, ⟨1, rfl, rfl, by omega⟩, (by omega : 2 - (((0 : Nat) : Int) + 1).toNat < 2 - ((0 : Nat) : Int).toNat)⟩)
              · (refine gw ?_; refine IfB.ff (by simp; omega) ?_)
                (refine gw ?_; refine ⟨[], [0,1,2,3], rfl, ⟨1, rfl, rfl, by omega⟩, (by omega : 2 - (((0 : Nat) : Int) + 1).toNat < 2 - ((0 : Nat) : Int).toNat)⟩)
          · (refine gw ?_)
            refine ⟨_, by decide, rfl, ?_⟩
            by_cases hko : 0 < k ∧ on = false
            · obtain ⟨hk0, rfl⟩ := hko
              obtain ⟨k', rfl⟩ : ∃ k', k = k' + 1 := ⟨k - 1, by omega⟩
              have e1 := htk k' rfl hi (by omega)
              have e2 := treeSet_told hz.1 hz.2.1 (enB b b' (k' + 1) lo hi false 1) (hi : Nat) 1 (by omega) (upB b' (k' + 1) hi)
              rw [enB_two ⟨hk0, rfl⟩] at e2
              (refine gw ?_)
              rw [show ((k' + 1 : Nat) : Int) - 1 = (k' : Int) by omega]
              (refine gw ?_)
              refine usL_at (j := k') (by omega) ?_
              rw [if_pos (by omega)]
              (refine gw ?_; refine Choice.mk ⟨false, Choice.mk ⟨false, _, _, e1, ?_⟩⟩)
              (refine gw ?_; refine Choice.mk ⟨false, Choice.mk ⟨false, _, _, e2, ?_⟩⟩)
              (refine gw ?_; refine ⟨[], [0,1,2,3], rfl, ⟨2, rfl, rfl, by omega⟩, (by omega : 2 - (((1 : Nat) : Int) + 1).toNat < 2 - ((1 : Nat) : Int).toNat)⟩)
            · have eo := enB_off (b := b) (b' := b') (lo := lo) (hi := hi) hko 1 2
              rw [eo]
              by_cases hk0 : 0 < k
              · have hon : on = true := by cases on with
                  | true => rfl
                  | false => exact absurd ⟨hk0, rfl⟩ hko
                subst hon
                (refine gw ?_; refine IfB.tt (by simp; omega) ?_)
                (refine gw ?_; refine ⟨[], [0,1,2,3], rfl, ⟨2, rfl, rfl, by omega⟩, (by omega : 2 - (((1 : Nat) : Int) + 1).toNat < 2 - ((1 : Nat) : Int).toNat)⟩)
              · (refine gw ?_; refine IfB.ff (by simp; omega) ?_)
                (refine gw ?_; refine ⟨[], [0,1,2,3], rfl, ⟨2, rfl, rfl, by omega⟩, (by omega : 2 - (((1 : Nat) : Int) + 1).toNat < 2 - ((1 : Nat) : Int).toNat)⟩)
          · rw [show eTr (g / 2 ^ k) (enB b b' k lo hi on 2) = tS g b' k from eTr_congr fun i _ => hB i]
            (refine gw ?_; refine ⟨[], [0,1,2], rfl, ⟨k + 1, rfl, by rw [← hset]; rfl, hkc⟩, (by omega : c - ((k : Int) + 1).toNat < c - (k : Int).toNat)⟩)
        · obtain rfl : k = c := by omega
          (refine gw ?_; refine IfB.ff (by rw [htl]; simp) ?_)
          (refine gw ?_)
          rw [usL_end]
          exact RetN.fz ⟨[true], [], rfl, rfl, rfl⟩
end Go.Ev.W
namespace Go.Ev.W
open Go.Ev Go.Ev.N

/-- The lowest place of a class. -/
def lowS (g c : Nat) (b : Nat → Bool) (cl : Int) : Option Nat := if 0 ≤ cl ∧ cl < c then firI (g / 2 ^ cl.toNat) (upB b cl.toNat) 0 else none
set_option maxHeartbeats 2000000 in
theorem slLowest_told {g c : Nat} (h : SlOk g c) (b : Nat → Bool) (cl : Int) (hcl : -9223372036854775808 ≤ cl ∧ cl ≤ 9223372036854775807) : Told P T slots_Lowest [] [eS g c b, i64 cl] (eFir (lowS g c b cl)) [] := by
  have htl := tL_len g c b
  have h2 := h.c17
  refine told_of_ev (fn := slots_Lowest_fn) tabOk mixed (by kernel_rfl) (by kernel_rfl) (by kernel_rfl) (by kernel_rfl) ?_
  by_cases h3 : cl < 0
  · rw [show lowS g c b cl = none by unfold lowS; rw [if_neg (by omega)]]
    (refine gw ?_; refine IfB.tt (by simp; omega) ?_)
    (refine gw ?_; exact RetN.mk ⟨[], rfl, rfl, rfl⟩)
  · (refine gw ?_; refine IfB.ff (by simp; omega) ?_)
    obtain ⟨k, rfl⟩ : ∃ k : Nat, cl = k := ⟨cl.toNat, by omega⟩
    by_cases h4 : k < c
    · have hz := h.sz h4
      rw [show lowS g c b k = firI (g / 2 ^ k) (upB b k) 0 by unfold lowS; rw [if_pos (by omega), Int.toNat_natCast]]
      have c1 := treeFirst_told hz.1 hz.2.1 (upB b k) 0 (by omega)
      cases hf : firI (g / 2 ^ k) (upB b k) 0 with
      | none =>
        rw [hf] at c1
        (refine gw ?_; refine IfB.ff (by rw [htl]; simp; omega) ?_)
        (refine gw ?_)
        refine tL_idx h4 ?_
        (refine gw ?_; refine Choice.mk ⟨false, Choice.mk ⟨false, _, _, c1, ?_⟩⟩)
        (refine gw ?_; exact RetN.mk ⟨[], rfl, rfl, rfl⟩)
      | some i =>
        rw [hf] at c1
        (refine gw ?_; refine IfB.ff (by rw [htl]; simp; omega) ?_)
        (refine gw ?_)
        refine tL_idx h4 ?_
        (refine gw ?_; refine Choice.mk ⟨false, Choice.mk ⟨false, _, _, c1, ?_⟩⟩)
        (refine gw ?_; exact RetN.mk ⟨[], rfl, rfl, rfl⟩)
    · rw [show lowS g c b k = none by unfold lowS; rw [if_neg (by omega)]]
      (refine gw ?_; refine IfB.tt (by rw [htl]; simp; omega) ?_)
      (refine gw ?_; exact RetN.mk ⟨[], rfl, rfl, rfl⟩)
end Go.Ev.W
namespace Go.Ev.W
open Go.Ev Go.Ev.N

theorem clone_Mark (es : List AV) (hl : es.length ≤ 1000000) : Told P T slices_Clone_api_Mark_api_Mark [] [.lst t_api_Mark es] (.ref 0) [.row t_api_Mark es] := by
  refine told_of_ev (fn := slices_Clone_api_Mark_api_Mark_fn) tabOk mixed (by kernel_rfl) (by kernel_rfl) (by kernel_rfl) (by kernel_rfl) ?_
  refine AnyB.mk (fun b hb => ?_)
  refine IfB.mk (fun h1 => ?_) (fun h1 => ?_)
  · obtain rfl := hb h1
    exact RetN.mk ⟨[1], rfl, rfl, rfl⟩
  · refine Room.mk (by first | omega | (simp; omega) | (simp; done)) ?_
    exact RetN.mk ⟨[2], rfl, rfl, rfl⟩

theorem overlaps_Mark (xs es : List AV) (hx : 0 < xs.length) (i n : Nat) : Told P T slices_overlaps_api_Mark [.row t_api_Mark xs, .row t_api_Mark es] [.ref 0, .sub 1 i n] (.bool false) [.row t_api_Mark xs, .row t_api_Mark es] :=
  told_overlaps (fn := slices_overlaps_api_Mark_fn) (tS := ts_api_Mark) (tR := t_bool) tabOk (by kernel_rfl) (by kernel_rfl) (by kernel_rfl) (by kernel_rfl) (by kernel_rfl) (by kernel_rfl) (by kernel_rfl) xs es hx i n

set_option maxHeartbeats 4000000 in
theorem insert_Mark (es : List AV) (x : AV) (i : Nat) (hi : i ≤ es.length) (hl : es.length ≤ 1000000) :
    Told P T slices_Insert_api_Mark_api_Mark [.row t_api_Mark es, .row t_api_Mark [x]] [.ref 0, .int .i64 (i : Nat), .ref 1] (.ref 2) [.dead, .row t_api_Mark [x], .row t_api_Mark (es.take i ++ (x :: es.drop i))] := by
  refine told_of_ev_drop (fn := slices_Insert_api_Mark_api_Mark_fn) tabOk mixed (by kernel_rfl) (by kernel_rfl) (by kernel_rfl) (by kernel_rfl) ?_
  refine Cut.mk (by omega) (by omega) (by omega) ?_
  refine IfB.ff rfl ?_
  refine IfB.mk (fun h1 => ?_) (fun h1 => ?_)
  · have hie : i = es.length := by have := of_decide_eq_true h1; omega
    refine Room.mk (by first | omega | (simp; omega) | (simp; done)) ?_
    refine RetN.mk ⟨[3], rfl, rfl, .inl rfl, .inl rfl, .inl ?_, trivial⟩
    subst hie
    show Blk.row t_api_Mark (es.take es.length ++ (x :: es.drop es.length)) = Blk.row t_api_Mark (es ++ [x])
    rw [List.take_length, List.drop_length]
  · have hlt : i < es.length := by have := of_decide_eq_false h1; omega
    refine fits (wrap64 (by first | omega | (simp; omega) | (simp; done)) (by first | omega | (simp; omega) | (simp; done))) ?_
    refine AnyN.mk (fun c hc => ?_)
    refine IfB.mk (fun h2 => ?_) (fun h2 => ?_)
    · have hcc : c < es.length + 1 := by have := of_decide_eq_true h2; simp at this; omega
      refine Choice.mk ⟨false, ?_⟩
      refine Cut.mk (Int.le_refl _) (by omega) (by omega) ?_
      refine fits (wrap64 (by first | omega | (simp; omega) | (simp; done)) (by first | omega | (simp; omega) | (simp; done))) ?_
      refine fits (wrap64 (by first | omega | (simp; omega) | (simp; done)) (by first | omega | (simp; omega) | (simp; done))) ?_
      refine Need.mk (by first | omega | (simp; omega) | (simp; done)) ?_
      refine Need.mk (by first | omega | (simp; omega) | (simp; done)) ?_
      refine Room.mk (by first | omega | (simp; omega) | (simp; done)) ?_
      refine Cut.mk (by omega) (by first | omega | (simp; omega) | (simp; done)) (by first | omega | (simp; omega) | (simp; done)) ?_
      refine fits (wrap64 (by first | omega | (simp; omega) | (simp; done)) (by first | omega | (simp; omega) | (simp; done))) ?_
      refine Cut.mk (by first | omega | (simp; omega) | (simp; done)) (by first | omega | (simp; omega) | (simp; done)) (by first | omega | (simp; omega) | (simp; done)) ?_
      refine Cut.mk (by omega) (by omega) (by omega) ?_
      refine Sure.mk (by kernel_rfl) ?_
      refine RetN.mk ⟨[3], rfl, rfl, .inr rfl, .inl rfl, .inl ?_, trivial⟩
      show Blk.row t_api_Mark (es.take i ++ (x :: es.drop i)) = Blk.row t_api_Mark _
      refine congrArg _ ?_
      have e1 : ((es.length : Int) + (([x] : List AV).length : Int) - (i : Int)).toNat = es.length + 1 - i := by first | (simp; done) | (simp; omega)
      have e2 : ((i : Int) + (([x] : List AV).length : Int)).toNat = i + 1 := by first | (simp; done) | (simp; omega)
      have e3 : min 1 (es.length + 1 - i) = 1 := by omega
      simp only [e1, e2, Int.toNat_natCast]
      have e4 : i + (1 + (es.length + 1 - i - 1)) - (i + 1) = es.length - i := by omega
      have e5 : i + 1 + (es.length - i) - i - 1 = es.length - i := by omega
      have e6 : es.length + 1 - i - 1 - (es.length - i) = 0 := by omega
      have e7 : (es.take i).length = i := by rw [List.length_take]; omega
      have d1 : ∀ k, i ≤ k → (es.take i).drop k = [] := fun k hk => List.drop_eq_nil_of_le (by omega)
      have d2 : ∀ k, 1 ≤ k → ([x] : List AV).drop k = [] := fun k hk => List.drop_eq_nil_of_le (by simpa using hk)
      have d3 : ([x] : List AV).take 1 = [x] := rfl
      have d4 : (es.drop i).take (es.length - i) = es.drop i := List.take_of_length_le (by simp)
      have e8 : i + 1 + (es.length - i) - i = 1 + (es.length - i) := by omega
      simp [List.take_append, List.drop_append, List.take_of_length_le, Nat.min_eq_left (Nat.le_of_lt hlt), e3, e4, e8, d3, d4, d2, d1, e6]
      have e9 : i + (es.length + 1 - i - 1 + 1) - (i + 1) = es.length - i := by omega
      have d5 : ∀ z : AV, (x :: List.replicate (es.length + 1 - i - 1) z).drop (i + 1 + (es.length - i) - i) = [] := fun z => List.drop_eq_nil_of_le (by rw [List.length_cons, List.length_replicate]; omega)
      rw [e9, Nat.min_self, d4, d1 _ (by omega), d5]
      simp
    · have hcc : es.length + 1 ≤ c := by have := of_decide_eq_false h2; simp at this; omega
      refine fits (wrap64 (by first | omega | (simp; omega) | (simp; done)) (by first | omega | (simp; omega) | (simp; done))) ?_
      refine Choice.mk ⟨true, ?_⟩
      refine Cut.mk (by omega) (by first | omega | (simp; omega) | (simp; done)) (by first | omega | (simp; omega) | (simp; done)) ?_
      refine fits (wrap64 (by first | omega | (simp; omega) | (simp; done)) (by first | omega | (simp; omega) | (simp; done))) ?_
      refine Cut.mk (by first | omega | (simp; omega) | (simp; done)) (by first | omega | (simp; omega) | (simp; done)) (by first | omega | (simp; omega) | (simp; done)) ?_
      refine Choice.mk ⟨true, Choice.mk ⟨false, _, _, overlaps_Mark [x] _ (by simp) _ _, ?_⟩⟩
      refine IfB.tt rfl ?_
      refine fits (wrap64 (by first | omega | (simp; omega) | (simp; done)) (by first | omega | (simp; omega) | (simp; done))) ?_
      refine Cut.mk (by first | omega | (simp; omega) | (simp; done)) (by first | omega | (simp; omega) | (simp; done)) (by first | omega | (simp; omega) | (simp; done)) ?_
      refine Cut.mk (by simp) (by first | omega | (simp; omega) | (simp; done)) (by first | omega | (simp; omega) | (simp; done)) ?_
      refine Sure.mk (by kernel_rfl) ?_
      refine Cut.mk (by simp) (by first | omega | (simp; omega) | (simp; done)) (by first | omega | (simp; omega) | (simp; done)) ?_
      refine RetN.mk ⟨[3], rfl, rfl, .inl rfl, .inl rfl, .inl ?_, trivial⟩
      show Blk.row t_api_Mark (es.take i ++ (x :: es.drop i)) = Blk.row t_api_Mark _
      refine congrArg _ ?_
      have n1 : ((es.length : Int) + (([x] : List AV).length : Int)).toNat - es.length = 1 := by first | (simp; done) | (simp; omega)
      have n2 : ((i : Int) + (([x] : List AV).length : Int)).toNat = i + 1 := by first | (simp; done) | (simp; omega)
      have r := ins_room es x (junkE T t_api_Mark) i hlt
      have m1 : min ([x] : List AV).length (es.length + 1 - i) = 1 := by first | (simp; done) | (simp; omega)
      simp only [n1, n2, Int.toNat_natCast, List.replicate_one]
      rw [r.2.2, m1, r.1, r.2.1]
      rfl

set_option maxHeartbeats 4000000 in
theorem delete_Mark (es : List AV) (i : Nat) (hi : i < es.length) (hl : es.length ≤ 1000000) :
    Told P T slices_Delete_api_Mark_api_Mark [.row t_api_Mark es] [.ref 0, .int .i64 (i : Nat), .int .i64 ((i : Nat) + 1)] (.sub 0 0 (es.length - 1)) [.row t_api_Mark (es.take i ++ (es.drop (i + 1) ++ [zeroE T t_api_Mark]))] := by
  refine told_of_ev (fn := slices_Delete_api_Mark_api_Mark_fn) tabOk mixed (by kernel_rfl) (by kernel_rfl) (by kernel_rfl) (by kernel_rfl) ?_
  refine Cut.mk (by omega) (by omega) (by omega) ?_
  refine Need.mk (by omega) ?_
  refine IfB.ff (by simp; omega) ?_
  refine Cut.mk (by omega) (by omega) (by omega) ?_
  refine Cut.mk (by omega) (by omega) (by omega) ?_
  refine Need.mk (by simp; omega) ?_
  refine Sure.mk (by kernel_rfl) ?_
  refine Cut.mk (by omega) (by simp; omega) (by simp; omega) ?_
  have f0 : Int.toNat 0 = 0 := rfl
  have f1 : (((i : Nat) : Int) + 1).toNat = i + 1 := by omega
  have f2 : (es.drop (i + 1)).take (es.length - (i + 1)) = es.drop (i + 1) := List.take_of_length_le (by simp)
  have f3 : (es.drop (i + 1)).length = es.length - (i + 1) := by simp
  have f4 : i + (es.length - (i + 1)) = es.length - 1 := by omega
  have f5 : es.length - (es.length - 1) = 1 := by omega
  have f6 : es.length - 1 + 1 = es.length := by omega
  refine RetN.mk ⟨[], rfl, ?_, ?_⟩
  · show AV.sub 0 0 _ = AV.sub 0 0 _
    congr 1
    simp only [Int.toNat_natCast, f1, f2, f3, f0, Nat.sub_zero]
    omega
  · show [Blk.row t_api_Mark _] = [Blk.row t_api_Mark _]
    congr 2
    simp only [Int.toNat_natCast, f1, f2, f3, f0, Nat.sub_zero, Nat.zero_add, f4, f5, f6]
    have g1 : (es.take i ++ es.drop (i + 1)).length = es.length - 1 := by rw [List.length_append, List.length_take, f3]; omega
    have R : es.take i ++ (es.drop (i + 1) ++ es.drop (es.length - 1)) = (es.take i ++ es.drop (i + 1)) ++ es.drop (es.length - 1) := by simp
    have g3 : ((es.take i ++ es.drop (i + 1)) ++ es.drop (es.length - 1)).drop es.length = [] := List.drop_eq_nil_of_le (by rw [List.length_append, g1, List.length_drop]; omega)
    rw [R, List.take_append_of_le_length (by omega), List.take_of_length_le (by omega), g3, List.append_nil, List.append_assoc]
    rfl

end Go.Ev.W
namespace Go.Ev.W
open Go.Ev Go.Ev.N

structure M where
  at' : Int
  cl : Int
  deriving DecidableEq
def encM (m : M) : AV := .agg [.int .i64 m.at', .int .i64 m.cl]
def cmpI (x y : Int) : Int := if x < y then -1 else if x > y then 1 else 0

theorem isNaN_told (x : Int) : Told P T cmp_isNaN_int [] [.int .i64 x] (.bool false) [] := by
  refine told_of_ev (fn := cmp_isNaN_int_fn) tabOk mixed (by kernel_rfl) (by kernel_rfl) (by kernel_rfl) (by kernel_rfl) ?_
  refine RetN.mk ⟨[], rfl, ?_, rfl⟩
  show AV.bool (x != x) = AV.bool false
  simp
theorem compare_told (x y : Int) : Told P T cmp_Compare_int [] [.int .i64 x, .int .i64 y] (.int .i64 (cmpI x y)) [] := by
  refine told_of_ev (fn := cmp_Compare_int_fn) tabOk mixed (by kernel_rfl) (by kernel_rfl) (by kernel_rfl) (by kernel_rfl) ?_
  refine Choice.mk ⟨false, Choice.mk ⟨false, _, _, isNaN_told x, ?_⟩⟩
  refine Choice.mk ⟨false, Choice.mk ⟨false, _, _, isNaN_told y, ?_⟩⟩
  refine IfB.ff rfl ?_
  refine IfB.ff rfl ?_
  refine IfB.mk (fun h1 => ?_) (fun h1 => ?_)
  · refine RetN.mk ⟨[], rfl, ?_, rfl⟩
    show AV.int .i64 (-1) = AV.int .i64 (cmpI x y)
    have := of_decide_eq_true h1
    simp [cmpI, this]
  · have h1 := of_decide_eq_false h1
    refine IfB.mk (fun h2 => ?_) (fun h2 => ?_)
    · refine RetN.mk ⟨[], rfl, ?_, rfl⟩
      have := of_decide_eq_true h2
      show AV.int .i64 1 = AV.int .i64 (cmpI x y)
      simp [cmpI, h1, this]
    · refine RetN.mk ⟨[], rfl, ?_, rfl⟩
      have := of_decide_eq_false h2
      show AV.int .i64 0 = AV.int .i64 (cmpI x y)
      simp [cmpI, h1, this]
theorem find1_told (m : M) (y : Int) : Told P T side_find_1 [] [encM m, .int .i64 y] (.int .i64 (cmpI m.at' y)) [] := by
  refine told_of_ev (fn := side_find_1_fn) tabOk mixed (by kernel_rfl) (by kernel_rfl) (by kernel_rfl) (by kernel_rfl) ?_
  refine Choice.mk ⟨false, Choice.mk ⟨false, _, _, compare_told m.at' y, ?_⟩⟩
  exact RetN.mk ⟨[], rfl, rfl, rfl⟩

/-- Marks that rise. -/
def Rise (l : List M) : Prop := l.Pairwise fun a b => a.at' < b.at'
/-- How many begin below. -/
def low (y : Int) : List M → Nat
  | [] => 0
  | m :: l => if m.at' < y then low y l + 1 else 0
theorem low_le (y : Int) : ∀ l, low y l ≤ l.length
  | [] => Nat.le_refl _
  | m :: l => by
    have := low_le y l
    unfold low; split <;> simp <;> omega
theorem low_spec {y : Int} : ∀ {l : List M}, Rise l → ∀ k (h : k < l.length), (k < low y l ↔ (l[k]).at' < y)
  | [], _, k, h => by simp at h
  | m :: l, hr, k, h => by
    have hr' : Rise l := (List.pairwise_cons.1 hr).2
    have hm := (List.pairwise_cons.1 hr).1
    unfold low
    split
    · rename_i hlt
      cases k with
      | zero => simpa using hlt
      | succ k =>
        have := low_spec (y := y) hr' k (by simpa using h)
        simpa using this
    · rename_i hge
      constructor
      · intro h; omega
      · intro h2
        cases k with
        | zero => exact absurd h2 hge
        | succ k =>
          have hk : k < l.length := by simpa using h
          have := hm l[k] (List.getElem_mem hk)
          simp at h2; omega
def isAt (y : Int) (l : List M) : Bool := match l[low y l]? with
  | some m => m.at' == y
  | none => false

set_option maxHeartbeats 4000000 in
theorem bsearch_told (l : List M) (hr : Rise l) (y : Int) (hl : l.length ≤ 1000000) :
    Told P T slices_BinarySearchFunc_api_Mark_api_Mark_int [] [.lst t_api_Mark (l.map encM), .int .i64 y, .fn side_find_1 []] (.tup [.int .i64 (low y l : Nat), .bool (isAt y l)]) [] := by
  refine told_of_ev (fn := slices_BinarySearchFunc_api_Mark_api_Mark_int_fn) tabOk mixed (by kernel_rfl) (by kernel_rfl) (by kernel_rfl) (by kernel_rfl) ?_
  have hlow := low_le y l
  refine LoopN.mk ⟨[0, 1, 2, 8, 9, 10], fun vs L => ∃ i j : Nat, vs = [.lst t_api_Mark (l.map encM), .int .i64 y, .fn side_find_1 [], .int .i64 (l.map encM).length, .int .i64 (i : Nat), .int .i64 (j : Nat)] ∧ L = [] ∧ i ≤ low y l ∧ low y l ≤ j ∧ j ≤ l.length,
    fun vs L => match vs with | [_, _, _, _, .int _ i, .int _ j] => j.toNat - i.toNat | _ => 0, [], [], rfl, ⟨0, (l.map encM).length, rfl, rfl, Nat.zero_le _, by rw [List.length_map]; exact hlow, by rw [List.length_map]; exact Nat.le_refl _⟩, ?_⟩
  rintro vs L ⟨i, j, rfl, rfl, h1, h2, h3⟩
  refine IfB.mk (fun h4 => ?_) (fun h4 => ?_)
  · have hij : i < j := by have := of_decide_eq_true h4; omega
    refine fits (wrap64 (by omega) (by omega)) ?_
    refine Fits.mk ?_
    refine Need.mk (by decide) ?_
    refine Fits.mk ?_
    have eh : IntKind.i64.wrap ((IntKind.u64.wrap ((i : Int) + j)).fdiv (2 ^ min (Int.toNat 1) IntKind.u64.bits)) = (((i + j) / 2 : Nat) : Int) := by
      rw [IntKind.wrap_u64, show (2 : Int) ^ min (Int.toNat 1) IntKind.u64.bits = 2 from rfl, Int.fdiv_eq_ediv_of_nonneg _ (by omega), IntKind.wrap_i64]
      omega
    rw [eh]
    generalize hq : (i + j) / 2 = q
    have hqj : q < l.length := by omega
    refine Idx.mk ⟨encM l[q], by omega, by simp [hqj], ?_⟩
    refine Choice.mk ⟨false, Choice.mk ⟨false, _, _, find1_told l[q] y, ?_⟩⟩
    have hs := low_spec (y := y) hr q hqj
    refine IfB.mk (fun h5 => ?_) (fun h5 => ?_)
    · have hlt : (l[q]).at' < y := by
        have := of_decide_eq_true h5
        unfold cmpI at this
        split at this
        · assumption
        · split at this <;> omega
      refine fits (wrap64 (by omega) (by omega)) ?_
      refine ⟨[], [], rfl, ⟨q + 1, j, ?_, rfl, by have := hs.2 hlt; omega, h2, h3⟩, ?_⟩
      · rw [show (((q + 1 : Nat)) : Int) = ((q : Nat) : Int) + 1 by omega]; rfl
      · show ((j : Nat) : Int).toNat - (((q : Nat) : Int) + 1).toNat < ((j : Nat) : Int).toNat - ((i : Nat) : Int).toNat
        omega
    · have hge : ¬ (l[q]).at' < y := by
        intro hlt
        have := of_decide_eq_false h5
        simp [cmpI, hlt] at this
      refine ⟨[], [], rfl, ⟨i, q, rfl, rfl, h1, by have := fun h => hge (hs.1 h); omega, by omega⟩, ?_⟩
      show ((q : Nat) : Int).toNat - ((i : Nat) : Int).toNat < ((j : Nat) : Int).toNat - ((i : Nat) : Int).toNat
      omega
  · have hij : i = low y l := by have := of_decide_eq_false h4; omega
    subst hij
    refine IfB.mk (fun h5 => ?_) (fun h5 => ?_)
    · have hlt : low y l < l.length := by have := of_decide_eq_true h5; simp at this; omega
      repeat refine IfB.tt rfl ?_
      refine Idx.mk ⟨encM l[low y l], by omega, by simp [hlt], ?_⟩
      repeat refine IfB.tt rfl ?_
      refine Choice.mk ⟨false, Choice.mk ⟨false, _, _, find1_told _ y, ?_⟩⟩
      repeat refine IfB.tt rfl ?_
      refine RetN.mk ⟨[], rfl, ?_, rfl⟩
      show AV.tup [.int .i64 _, .bool (cmpI _ y == 0)] = AV.tup [.int .i64 _, .bool (isAt y l)]
      have : (cmpI (l[low y l]).at' y == 0) = isAt y l := by
        unfold isAt
        rw [List.getElem?_eq_getElem hlt]
        simp only [cmpI]
        split
        · rename_i h; simp; omega
        · split
          · rename_i h; simp; omega
          · simp; omega
      rw [this]
    · have hge : ¬ low y l < l.length := by have := of_decide_eq_false h5; simp at this; omega
      repeat refine IfB.ff rfl ?_
      refine RetN.mk ⟨[], rfl, ?_, rfl⟩
      show AV.tup [.int .i64 _, .bool false] = AV.tup [.int .i64 _, .bool (isAt y l)]
      have : isAt y l = false := by
        unfold isAt
        rw [List.getElem?_eq_none (by omega)]
      rw [this]
end Go.Ev.W
namespace Go.Ev.W
open Go.Ev Go.Ev.N

theorem find_told (l : List M) (hr : Rise l) (y : Int) (hl : l.length ≤ 1000000) :
    Told P T side_find [] [.lst t_api_Mark (l.map encM), .int .i64 y] (.tup [.int .i64 (low y l : Nat), .bool (isAt y l)]) [] := by
  refine told_of_ev (fn := side_find_fn) tabOk mixed (by kernel_rfl) (by kernel_rfl) (by kernel_rfl) (by kernel_rfl) ?_
  refine Choice.mk ⟨false, Choice.mk ⟨false, _, _, bsearch_told l hr y hl, ?_⟩⟩
  exact RetN.mk ⟨[], rfl, rfl, rfl⟩

def putM (l : List M) (m : M) : List M := if isAt m.at' l = true then l.set (low m.at' l) m else l.take (low m.at' l) ++ (m :: l.drop (low m.at' l))

theorem isAt_lt {y : Int} {l : List M} (h : isAt y l = true) : low y l < l.length := by
  unfold isAt at h
  split at h
  · rename_i m hm; exact (List.getElem?_eq_some_iff.1 hm).1
  · cases h

def takeM (l : List M) (y : Int) : List M := l.take (low y l) ++ l.drop (low y l + 1)
def clsM (l : List M) (y : Int) : Int := match l[low y l]? with | some m => m.cl | none => 0
end Go.Ev.W
namespace Go.Ev.W
open Go.Ev Go.Ev.N

theorem low_at {y : Int} {l : List M} (hr : Rise l) {k : Nat} (hk : k < l.length) : (l[k]).at' = y ↔ (k = low y l ∧ isAt y l = true) := by
  have hs := low_spec (y := y) hr
  constructor
  · intro e
    have h1 : ¬ k < low y l := fun h => by have := (hs k hk).1 h; omega
    have h2 : k = low y l := by
      rcases Nat.lt_or_ge (low y l) k with h | h
      · exfalso
        have h3 : low y l < l.length := by omega
        have h4 : ¬ (l[low y l]).at' < y := fun h5 => by have := (hs _ h3).2 h5; omega
        have h5 := List.pairwise_iff_getElem.1 hr (low y l) k h3 hk h
        omega
      · omega
    refine ⟨h2, ?_⟩
    subst h2
    unfold isAt
    rw [List.getElem?_eq_getElem hk]
    simpa using e
  · rintro ⟨rfl, h⟩
    unfold isAt at h
    rw [List.getElem?_eq_getElem hk] at h
    simpa using h

theorem isAt_get {y : Int} {l : List M} (h : isAt y l = true) : ∃ x, l[low y l]? = some x ∧ x.at' = y := by
  have hlt := isAt_lt h
  refine ⟨l[low y l], List.getElem?_eq_getElem hlt, ?_⟩
  unfold isAt at h
  rw [List.getElem?_eq_getElem hlt] at h
  simpa using h
end Go.Ev.W
namespace Go.Ev.W
open Go.Ev Go.Ev.N

theorem rise_put {l : List M} (hr : Rise l) (m : M) : Rise (putM l m) := by
  have hs := low_spec (y := m.at') hr
  have hle := low_le m.at' l
  have hr' := List.pairwise_iff_getElem.1 hr
  have low1 : ∀ a ∈ l.take (low m.at' l), a.at' < m.at' := by
    intro a ha
    obtain ⟨i, hi, rfl⟩ := List.mem_iff_getElem.1 ha
    rw [List.length_take] at hi
    rw [List.getElem_take]
    exact (hs i (by omega)).1 (by omega)
  have key : ∀ k', low m.at' l ≤ k' → (∀ b ∈ l.drop k', m.at' < b.at') → Rise (l.take (low m.at' l) ++ (m :: l.drop k')) := by
    intro k' hk hb
    refine List.pairwise_append.2 ⟨List.Pairwise.sublist (List.take_sublist _ _) hr, List.pairwise_cons.2 ⟨hb, List.Pairwise.sublist (List.drop_sublist _ _) hr⟩, ?_⟩
    intro a ha b hb'
    have h1 := low1 a ha
    rcases List.mem_cons.1 hb' with rfl | h2
    · exact h1
    · have := hb b h2; omega
  unfold putM
  split
  · rename_i h
    have hlt := isAt_lt h
    rw [List.set_eq_take_append_cons_drop, if_pos hlt]
    refine key _ (by omega) ?_
    intro b hb
    obtain ⟨i, hi, rfl⟩ := List.mem_iff_getElem.1 hb
    rw [List.length_drop] at hi
    rw [List.getElem_drop]
    have h1 := hr' (low m.at' l) (low m.at' l + 1 + i) hlt (by omega) (by omega)
    have h2 := (low_at (y := m.at') hr hlt).2 ⟨rfl, h⟩
    omega
  · rename_i h
    refine key _ (Nat.le_refl _) ?_
    intro b hb
    obtain ⟨i, hi, rfl⟩ := List.mem_iff_getElem.1 hb
    rw [List.length_drop] at hi
    rw [List.getElem_drop]
    have h3 : ¬ (l[low m.at' l + i]).at' < m.at' := fun h5 => by have := (hs _ (by omega)).2 h5; omega
    have h4 : ¬ (l[low m.at' l + i]).at' = m.at' := fun h5 => by have := (low_at hr (by omega)).1 h5; exact h this.2
    omega
end Go.Ev.W
namespace Go.Ev.W
open Go.Ev Go.Ev.N

theorem rise_nodup {l : List M} (hr : Rise l) : l.Pairwise (fun a b => a.at' ≠ b.at') := hr.imp fun h => by omega

/-- What stands at a place, and what there is. -/
theorem cls_mem {l : List M} (hr : Rise l) {y c : Int} : (isAt y l = true ∧ clsM l y = c) ↔ (⟨y, c⟩ : M) ∈ l := by
  constructor
  · rintro ⟨h1, h2⟩
    obtain ⟨x, hx, he⟩ := isAt_get h1
    unfold clsM at h2
    rw [hx] at h2
    have := List.mem_of_getElem? hx
    have hx' : x = ⟨y, c⟩ := by cases x; simp at he h2; rw [he, h2]
    rw [← hx']; exact this
  · intro h
    obtain ⟨k, hk, e⟩ := List.mem_iff_getElem.1 h
    have h3 := (low_at (y := y) hr hk).1 (by rw [e])
    refine ⟨h3.2, ?_⟩
    unfold clsM
    rw [← h3.1, List.getElem?_eq_getElem hk, e]
theorem mem_putM {l : List M} (hr : Rise l) (x : M) : ∀ m, m ∈ putM l x ↔ (m = x ∨ (m ∈ l ∧ m.at' ≠ x.at')) := by
  intro m
  have hle := low_le x.at' l
  have other : ∀ {k : Nat} (hk : k < l.length), (isAt x.at' l = true ∧ k = low x.at' l) ↔ (l[k]).at' = x.at' := fun hk => by rw [low_at hr hk]; exact ⟨fun ⟨a, b⟩ => ⟨b, a⟩, fun ⟨a, b⟩ => ⟨b, a⟩⟩
  unfold putM
  split
  · rename_i h
    have hlt := isAt_lt h
    rw [List.mem_iff_getElem]
    constructor
    · rintro ⟨k, hk, e⟩
      rw [List.length_set] at hk
      rw [List.getElem_set] at e
      split at e
      · exact .inl e.symm
      · rename_i hne
        refine .inr ⟨by rw [← e]; exact List.getElem_mem _, fun e2 => hne ?_⟩
        rw [← e] at e2
        exact ((other hk).2 e2).2.symm
    · rintro (rfl | ⟨hm, hne⟩)
      · exact ⟨low m.at' l, by simpa using hlt, by simp⟩
      · obtain ⟨k, hk, e⟩ := List.mem_iff_getElem.1 hm
        refine ⟨k, by simpa using hk, ?_⟩
        rw [List.getElem_set]
        split
        · rename_i h4
          exact absurd (by rw [← e]; exact (other hk).1 ⟨h, h4.symm⟩) hne
        · exact e
  · rename_i h
    have h : isAt x.at' l = false := by simpa using h
    have all : m ∈ l ↔ (m ∈ l.take (low x.at' l) ∨ m ∈ l.drop (low x.at' l)) := by
      rw [← List.mem_append, List.take_append_drop]
    have ne : m ∈ l → m.at' ≠ x.at' := by
      intro hm e
      obtain ⟨k, hk, e'⟩ := List.mem_iff_getElem.1 hm
      have := ((other hk).2 (by rw [e', e])).1
      rw [h] at this; cases this
    rw [List.mem_append, List.mem_cons]
    constructor
    · rintro (a | a | a)
      · exact .inr ⟨all.2 (.inl a), ne (all.2 (.inl a))⟩
      · exact .inl a
      · exact .inr ⟨all.2 (.inr a), ne (all.2 (.inr a))⟩
    · rintro (a | ⟨a, _⟩)
      · exact .inr (.inl a)
      · rcases all.1 a with a | a
        · exact .inl a
        · exact .inr (.inr a)
theorem mem_takeM {l : List M} (hr : Rise l) {y : Int} (h : isAt y l = true) : ∀ m, m ∈ takeM l y ↔ (m ∈ l ∧ m.at' ≠ y) := by
  intro m
  have hlt := isAt_lt h
  have hy := (low_at (y := y) hr hlt).2 ⟨rfl, h⟩
  have split' : l = l.take (low y l) ++ l[low y l] :: l.drop (low y l + 1) := by rw [← List.drop_eq_getElem_cons hlt, List.take_append_drop]
  have nd : l.Pairwise (fun a b => a.at' ≠ b.at') := rise_nodup hr
  rw [split'] at nd
  obtain ⟨n1, n2, n3⟩ := List.pairwise_append.1 nd
  obtain ⟨n4, n5⟩ := List.pairwise_cons.1 n2
  have hm : m ∈ l ↔ (m ∈ l.take (low y l) ∨ m = l[low y l] ∨ m ∈ l.drop (low y l + 1)) := by
    conv => lhs; rw [split']
    rw [List.mem_append, List.mem_cons]
  unfold takeM
  rw [List.mem_append, hm]
  constructor
  · rintro (a | a)
    · exact ⟨.inl a, fun e => n3 m a _ (List.mem_cons_self ..) (by rw [e, hy])⟩
    · exact ⟨.inr (.inr a), fun e => n4 m a (by rw [e, hy])⟩
  · rintro ⟨a | a | a, hne⟩
    · exact .inl a
    · exact absurd (by rw [a, hy]) hne
    · exact .inr a
theorem rise_take {l : List M} (hr : Rise l) (y : Int) : Rise (takeM l y) := by
  unfold takeM
  refine List.Pairwise.sublist ?_ hr
  conv => rhs; rw [← List.take_append_drop (low y l) l]
  refine List.Sublist.append_left ?_ _
  rw [← List.drop_drop]
  exact List.drop_sublist _ _
end Go.Ev.W
namespace Go.Ev.W
open Go.Ev Go.Ev.N
theorem Get.of {es : List (AV × AV)} {k : AV} {P : Option AV → Prop} {m v : Option AV} (h : m = v) (p : P v) : Get es k P m := ⟨h ▸ p⟩
end Go.Ev.W
namespace Go.Ev.W
open Go.Ev Go.Ev.N

def lM (l : List M) : AV := .lst t_api_Mark (l.map encM)
set_option maxHeartbeats 4000000 in
theorem putZ (l : List M) (hr : Rise l) (m : M) (hl : l.length ≤ 1000000) : Told P T side_Put [] [lM l, encM m] (lM (putM l m)) [] := by
  have hml : (l.map encM).length = l.length := by simp
  refine told_of_ev (fn := side_Put_fn) tabOk mixed (by kernel_rfl) (by kernel_rfl) (by kernel_rfl) (by kernel_rfl) ?_
  (refine gw ?_; refine Choice.mk ⟨false, Choice.mk ⟨false, _, _, clone_Mark (l.map encM) (by omega), ?_⟩⟩)
  (refine gw ?_; refine Choice.mk ⟨false, Choice.mk ⟨false, _, _, find_told l hr m.at' hl, ?_⟩⟩)
  refine IfB.mk (fun h1 => ?_) (fun h1 => ?_)
  · have hlt := isAt_lt h1
    (refine gw ?_; refine RetN.fz ⟨[true], [], rfl, ?_, rfl⟩)
    show AV.lst t_api_Mark ((l.map encM).set (low m.at' l) (encM m)) = _
    rw [lM, putM, if_pos h1, List.map_set]
  · have h1 : isAt m.at' l = false := h1
    have hi := insert_Mark (l.map encM) (encM m) (low m.at' l) (by rw [hml]; exact low_le _ _) (by omega)
    (refine gw ?_; refine Choice.mk ⟨true, Choice.mk ⟨false, _, _, hi, ?_⟩⟩)
    (refine gw ?_; refine RetN.fz ⟨[true], [], rfl, ?_, rfl⟩)
    show AV.lst t_api_Mark ((l.map encM).take (low m.at' l) ++ (encM m :: (l.map encM).drop (low m.at' l))) = _
    rw [lM, putM, if_neg (by rw [h1]; decide)]
    simp [List.map_take, List.map_drop]
set_option maxHeartbeats 4000000 in
theorem takeZ (l : List M) (hr : Rise l) (y : Int) (hl : l.length ≤ 1000000) : Told P T side_Take [] [lM l, i64 y] (.tup [lM (if isAt y l = true then takeM l y else l), i64 (if isAt y l = true then clsM l y else 0), .bool (isAt y l)]) [] := by
  have hml : (l.map encM).length = l.length := by simp
  refine told_of_ev (fn := side_Take_fn) tabOk mixed (by kernel_rfl) (by kernel_rfl) (by kernel_rfl) (by kernel_rfl) ?_
  (refine gw ?_; refine Choice.mk ⟨false, Choice.mk ⟨false, _, _, clone_Mark (l.map encM) (by omega), ?_⟩⟩)
  (refine gw ?_; refine Choice.mk ⟨false, Choice.mk ⟨false, _, _, find_told l hr y hl, ?_⟩⟩)
  cases h : isAt y l with
  | false =>
    (refine gw ?_; exact RetN.fz ⟨[true, true, true], [], rfl, rfl, rfl⟩)
  | true =>
    have hlt := isAt_lt h
    (refine gw ?_; refine Choice.mk ⟨true, Choice.mk ⟨false, _, _, delete_Mark (l.map encM) (low y l) (by omega) (by omega), ?_⟩⟩)
    (refine gw ?_; refine idx_map (hlt) ?_)
    (refine gw ?_; refine RetN.fz ⟨[true, true, true], [], rfl, ?_, rfl⟩)
    have e : clsM l y = (l[low y l]).cl := by unfold clsM; rw [List.getElem?_eq_getElem hlt]
    rw [if_pos rfl, if_pos rfl, e]
    show AV.tup [AV.lst t_api_Mark ((((l.map encM).take (low y l) ++ ((l.map encM).drop (low y l + 1) ++ [zeroE T t_api_Mark])).drop 0).take ((l.map encM).length - 1)), i64 (l[low y l]).cl, AV.bool true] = _
    rw [List.drop_zero, ← List.append_assoc, List.take_append_of_le_length (by simp; omega), List.take_of_length_le (by simp; omega)]
    simp [lM, takeM]
end Go.Ev.W
namespace Go.Ev.W
open Go.Ev Go.Ev.N

/-- An engine: granules of G bytes. -/
def eE (G g c : Nat) (b : Nat → Bool) (l : List M) : AV := .agg [i64 G, .lst t_api_Tree (tL g c b), .lst t_api_Mark (l.map encM)]
def eN : AV := .agg [i64 0, .lst t_api_Tree [], .lst t_api_Mark []]
def placeB (g c : Nat) (b : Nat → Bool) (cl : Int) : Nat → Bool := match lowS g c b cl with
  | some i => setZ b (i * 2 ^ cl.toNat : Nat) (2 ^ cl.toNat : Nat) true
  | none => b
def placeL (G g c : Nat) (b : Nat → Bool) (l : List M) (cl : Int) : List M := match lowS g c b cl with
  | some i => putM l ⟨(i * 2 ^ cl.toNat * G : Nat), cl⟩
  | none => l
def placeA (G g c : Nat) (b : Nat → Bool) (cl : Int) : Int := match lowS g c b cl with
  | some i => (i * 2 ^ cl.toNat * G : Nat)
  | none => 0
def relB (G : Nat) (b : Nat → Bool) (l : List M) (y : Int) : Nat → Bool := if isAt y l = true then setZ b (y.toNat / G : Nat) (2 ^ (clsM l y).toNat : Nat) false else b
def relL (l : List M) (y : Int) : List M := if isAt y l = true then takeM l y else l
def relK (l : List M) (y : Int) : Int := if isAt y l = true then clsM l y else 0
/-- What is needed of an engine that calls are told. -/
structure EgOk (G g c : Nat) (l : List M) : Prop where
  sl : SlOk g c
  g1 : 1 ≤ G
  gG : g * G ≤ 65536
  rise : Rise l
  mks : ∀ m ∈ l, 0 ≤ m.cl ∧ m.cl < c ∧ 0 ≤ m.at' ∧ m.at' ≤ 65536
  len : l.length ≤ 65536
theorem lowS_lt {g c : Nat} (h : SlOk g c) {b : Nat → Bool} {cl : Int} {i : Nat} (hi : lowS g c b cl = some i) : ∃ k : Nat, cl = k ∧ k < c ∧ i < g / 2 ^ k ∧ upB b k i = false ∧ ∀ j, j < i → upB b k j = true := by
  unfold lowS at hi
  split at hi
  · rename_i hc
    obtain ⟨k, rfl⟩ : ∃ k : Nat, cl = k := ⟨cl.toNat, by omega⟩
    rw [Int.toNat_natCast] at hi
    have hz := h.sz (k := k) (by omega)
    refine ⟨k, rfl, by omega, ?_⟩
    rcases firI_spec (n := g / 2 ^ k) (b := upB b k) (f := 0) (by omega) with ⟨h2, _⟩ | ⟨j, h2, _, h4, h5, h6⟩
    · have h2 : firI (g / 2 ^ k) (upB b k) 0 = none := h2
      rw [hi] at h2; cases h2
    · have h2 : firI (g / 2 ^ k) (upB b k) 0 = some j := h2
      rw [hi] at h2
      injection h2 with e
      subst e
      exact ⟨h4, h5, fun x hx => h6 x (by omega) hx⟩
  · cases hi
theorem sz_bound {G g c k i : Nat} (h : SlOk g c) (hG : g * G ≤ 65536) (hk : k < c) (hi : i < g / 2 ^ k) : i * 2 ^ k + 2 ^ k ≤ g ∧ i * 2 ^ k * G + 2 ^ k * G ≤ 65536 ∧ 1 ≤ 2 ^ k ∧ 2 ^ k ≤ 65536 := by
  have hz := h.sz hk
  have h1 : i * 2 ^ k + 2 ^ k ≤ g := by
    have : (i + 1) * 2 ^ k ≤ g / 2 ^ k * 2 ^ k := Nat.mul_le_mul_right _ (by omega)
    rw [hz.2.2, Nat.add_mul, Nat.one_mul] at this
    exact this
  refine ⟨h1, ?_, Nat.one_le_two_pow, ?_⟩
  · rw [← Nat.add_mul]
    exact Nat.le_trans (Nat.mul_le_mul_right G h1) hG
  · exact Nat.le_trans (Nat.le_trans (Nat.le_add_left _ _) h1) h.g2
theorem relL_at {G g c : Nat} {l : List M} (h : EgOk G g c l) {y : Int} (hy : isAt y l = true) : 0 ≤ y ∧ y ≤ 65536 ∧ 0 ≤ clsM l y ∧ clsM l y < c := by
  have hm := (cls_mem h.rise (y := y) (c := clsM l y)).1 ⟨hy, rfl⟩
  have := h.mks _ hm
  exact ⟨this.2.2.1, this.2.2.2, this.1, this.2.1⟩
end Go.Ev.W
