/- Words and lemmas, part 2, for laws of this seat (a part of their proofs). -/
import Derived.Laws.Bits64
import Derived.Test.YtdnelcadmoeeiaaC1
set_option linter.unusedVariables false
set_option linter.unusedSimpArgs false
namespace Go.Ev.W
open Go.Ev Go.Ev.N

/-- A class's bits, while its two ends are looked at again. -/
def enB (b b' : Nat → Bool) (k lo hi : Nat) (on : Bool) (j : Nat) : Nat → Bool :=
  let B := setZ (upB b k) lo ((hi : Int) - lo + 1) on
  if 0 < k ∧ on = false then (if j = 0 then B else if j = 1 then setZ B lo 1 (upB b' k lo) else setZ (setZ B lo 1 (upB b' k lo)) hi 1 (upB b' k hi)) else B
theorem set1 (b : Nat → Bool) (lo : Nat) (v : Bool) (i : Nat) : setZ b lo 1 v i = if i = lo then v else b i := by
  unfold setZ
  by_cases h : i = lo
  · rw [if_pos (by omega), if_pos h]
  · rw [if_neg (by omega), if_neg h]
theorem enB_zero (b b' : Nat → Bool) (k lo hi : Nat) (on : Bool) : enB b b' k lo hi on 0 = setZ (upB b k) lo ((hi : Int) - lo + 1) on := by
  unfold enB
  split
  · rw [if_pos rfl]
  · rfl
theorem enB_off {b b' : Nat → Bool} {k lo hi : Nat} {on : Bool} (h : ¬ (0 < k ∧ on = false)) (j j' : Nat) : enB b b' k lo hi on j = enB b b' k lo hi on j' := by
  unfold enB
  rw [if_neg h, if_neg h]
theorem enB_one {b b' : Nat → Bool} {k lo hi : Nat} {on : Bool} (h : 0 < k ∧ on = false) : setZ (enB b b' k lo hi on 0) lo 1 (upB b' k lo) = enB b b' k lo hi on 1 := by
  unfold enB
  rw [if_pos h, if_pos h, if_pos rfl, if_neg (by omega), if_pos rfl]
theorem enB_two {b b' : Nat → Bool} {k lo hi : Nat} {on : Bool} (h : 0 < k ∧ on = false) : setZ (enB b b' k lo hi on 1) hi 1 (upB b' k hi) = enB b b' k lo hi on 2 := by
  unfold enB
  rw [if_pos h, if_pos h, if_neg (by omega), if_pos rfl, if_neg (by omega), if_neg (by omega)]
theorem enB_end {b : Nat → Bool} {f last k : Nat} {on : Bool} (h1 : f ≤ last) (i : Nat) : enB b (setB b f (last + 1 - f) on) k (f / 2 ^ k) (last / 2 ^ k) on 2 i = upB (setB b f (last + 1 - f) on) k i := by
  unfold enB
  cases on with
  | true =>
    rw [if_neg (by simp)]
    exact use_on (g := 0) h1
  | false =>
    by_cases hk : 0 < k
    · rw [if_pos ⟨hk, rfl⟩, if_neg (by omega), if_neg (by omega), set1, set1]
      by_cases e1 : i = last / 2 ^ k
      · rw [if_pos e1, e1]
      · rw [if_neg e1]
        by_cases e2 : i = f / 2 ^ k
        · rw [if_pos e2, e2]
        · rw [if_neg e2]
          exact use_off (g := 0) h1 ⟨e2, e1⟩
    · obtain rfl : k = 0 := by omega
      rw [if_neg (by omega)]
      show setZ b ((f / 2 ^ 0 : Nat) : Int) _ false i = setB b f (last + 1 - f) false i
      rw [Nat.pow_zero, Nat.div_one, Nat.div_one]
      unfold setZ setB
      by_cases hq : f ≤ i ∧ i ≤ last
      · rw [if_pos (by omega), if_pos (by omega)]
      · rw [if_neg (by omega), if_neg (by omega)]
theorem setB_last {g : Nat} {b : Nat → Bool} {f last : Nat} {n : Int} {on : Bool} (hf : f < g) (hl : (last : Int) = f + min n (g - f) - 1) (h1 : 1 ≤ n) : ∀ x, x < g → setB b f (last + 1 - f) on x = setZ b f n on x := by
  intro x hx
  unfold setB setZ
  by_cases hq : f ≤ x ∧ x < f + (last + 1 - f)
  · rw [if_pos hq, if_pos (by omega)]
  · rw [if_neg hq, if_neg (by omega)]
set_option maxRecDepth 20000 in
set_option maxHeartbeats 8000000 in
theorem slUse_told {g c : Nat} (h : SlOk g c) (b : Nat → Bool) (f n : Int) (hf : -9223372036854775808 ≤ f ∧ f ≤ 9223372036854775807) (hn : -9223372036854775808 ≤ n ∧ n ≤ 9223372036854775807) (on : Bool) :
    Told P T slots_Use [] [eS g c b, i64 f, i64 n, .bool on] (eS g c (setZ b f n on)) [] := by
  have h1 := h.c1
  have h2 := h.c17
  have h3 := h.g1
  have h4 := h.g2
  have htl := tL_len g c b
  have c1 := slTwin_told h b
  have hg0 : ((g / 2 ^ 0 : Nat) : Int) = g := by rw [Nat.pow_zero, Nat.div_one]
  have same : (f < 0 ∨ n < 1 ∨ f ≥ g) → eS g c (setZ b f n on) = eS g c b := fun hh => eS_congr fun x hx => by
    unfold setZ
    rw [if_neg (by omega)]
  refine told_of_ev (fn := slots_Use_fn) tabOk mixed (by kernel_rfl) (by kernel_rfl) (by kernel_rfl) (by kernel_rfl) ?_
  (refine gw ?_; refine Choice.mk ⟨false, Choice.mk ⟨false, _, _, c1, ?_⟩⟩)
  (refine gw ?_)
  rw [htl]
  (refine gw ?_; refine IfB.ff (by simp; omega) ?_)
  by_cases hf0 : f < 0
  · rw [same (.inl hf0)]
    (refine gw ?_; refine IfB.tt (by simp; omega) ?_)
    (refine gw ?_)
    exact RetN.fz ⟨[true], [], rfl, rfl, rfl⟩
  · (refine gw ?_; refine IfB.ff (by simp; omega) ?_)
    by_cases hn1 : n < 1
    · rw [same (.inr (.inl hn1))]
      (refine gw ?_; refine IfB.tt (by simp; omega) ?_)
      (refine gw ?_)
      exact RetN.fz ⟨[true], [], rfl, rfl, rfl⟩
    · (refine gw ?_; refine IfB.ff (by simp; omega) ?_)
      (refine gw ?_)
      refine tL_at (k := 0) (by omega) ?_
      by_cases hfg : f ≥ g
      · rw [same (.inr (.inr hfg))]
        (refine gw ?_; refine IfB.tt (by rw [hg0]; simp; omega) ?_)
        (refine gw ?_)
        exact RetN.fz ⟨[true], [], rfl, rfl, rfl⟩
      · (refine gw ?_; refine IfB.ff (by rw [hg0]; simp; omega) ?_)
        obtain ⟨a, rfl⟩ : ∃ a : Nat, f = a := ⟨f.toNat, by omega⟩
        (refine gw ?_)
        refine tL_at (k := 0) (by omega) ?_
        obtain ⟨last, hl⟩ : ∃ last : Nat, (last : Int) = (a : Int) + (if ((g / 2 ^ 0 : Nat) : Int) - (a : Int) < n then ((g / 2 ^ 0 : Nat) : Int) - (a : Int) else n) - 1 := ⟨((a : Int) + (if ((g / 2 ^ 0 : Nat) : Int) - (a : Int) < n then ((g / 2 ^ 0 : Nat) : Int) - (a : Int) else n) - 1).toNat, by rw [hg0]; split <;> omega⟩
        have hl2 : (last : Int) = a + min n (g - a) - 1 := by rw [hl, hg0]; split <;> omega
        have hal : a ≤ last := by omega
        have hlg : last < g := by omega
        have hend : eS g c (setB b a (last + 1 - a) on) = eS g c (setZ b a n on) := eS_congr (setB_last (by omega) hl2 (by omega))
        rw [← hend]
        have hB := fun k i => enB_end (b := b) (f := a) (last := last) (k := k) (on := on) hal i
        generalize hb' : setB b a (last + 1 - a) on = b' at *
        have hul := fun k => usL_len g c b b' k
        (refine gw ?_; refine LoopN.mk ⟨[1,3,8,9,10,54,55,56], fun vs L => ∃ k : Nat, vs = [i64 a, .bool on, .ptr 0 0 0, .ptr 1 0 0, i64 last, .ref 2, i64 (tL g c b).length, i64 k] ∧ L = [.var (.agg [.und]), .var (.agg [.ref 2]), .row t_api_Tree (usL g c b b' k)] ∧ k ≤ c, fun vs L => match vs with | [_, _, _, _, _, _, _, .int _ i] => c - i.toNat | _ => 0, [], [1,4,3], rfl, ⟨0, by rw [hl]; rfl, by rw [usL_zero]; rfl, by omega⟩, ?_⟩)
        rintro vs L ⟨k, rfl, rfl, hk⟩
        have hulk := hul k
        by_cases hkc : k < c
        · have hz := h.sz hkc
          have hs1 := shrI (g := a) (k := k) (by omega)
          have hs2 := shrI (g := last) (k := k) (by omega)
          have hlo : a / 2 ^ k ≤ last / 2 ^ k := Nat.div_le_div_right hal
          have hhi : last / 2 ^ k < g / 2 ^ k := by
            have := hz.2.2
            exact Nat.div_lt_of_lt_mul (by rw [Nat.mul_comm, this]; exact hlg)
          have hB := hB k
          have htk : ∀ k', k = k' + 1 → ∀ i, i < g / 2 ^ k → Told P T slots_taken [] [tS g b' k', i64 (i : Nat)] (.bool (upB b' k i)) [] := fun k' e i hi => by
            subst e
            have hz' := h.sz (k := k') (by omega)
            have := slTaken_told hz'.1 hz'.2.1 (upB b' k') i (by omega)
            rw [up_taken h hkc b' hi] at this
            exact this
          have hset := usL_set (g := g) (c := c) (k := k) (b := b) (b' := b')
          have hn0 : g / 2 ^ k = g / 2 ^ k := rfl
          generalize hlo' : a / 2 ^ k = lo at *
          generalize hhi' : last / 2 ^ k = hi at *
          have d1 := treeSet_told hz.1 hz.2.1 (upB b k) (lo : Nat) (((hi : Nat) : Int) - (lo : Nat) + 1) (by omega) on
          (refine gw ?_; refine IfB.tt (by rw [htl]; simp; omega) ?_)
          (refine gw ?_)
          refine usL_at hkc ?_
          rw [if_neg (Nat.lt_irrefl k)]
          (refine gw ?_)
          rw [hs1]
          (refine gw ?_)
          rw [hs2]
          (refine gw ?_; refine Choice.mk ⟨false, Choice.mk ⟨false, _, _, d1, ?_⟩⟩)
          (refine gw ?_; refine LoopN.mk ⟨[1,3,8,9,10,11,12,54,55,56,79,80,81], fun vs L => ∃ j : Nat, vs = [i64 a, .bool on, .ptr 0 0 0, .ptr 1 0 0, i64 last, i64 k, .ptr 3 0 0, .ref 2, i64 (tL g c b).length, i64 k, .lst t_int [i64 lo, i64 hi], i64 2, i64 j] ∧ L = [.var (.agg [.und]), .var (.agg [.ref 2]), .row t_api_Tree (usL g c b b' k), .var (eTr (g / 2 ^ k) (enB b b' k lo hi on j))] ∧ j ≤ 2, fun vs L => match vs with | [_, _, _, _, _, _, _, _, _, _, _, _, .int _ i] => 2 - i.toNat | _ => 0, [79], [0,1,2,3], rfl, ⟨0, rfl, by rw [enB_zero]; rfl, by omega⟩, ?_⟩)
          rintro vs L ⟨j, rfl, rfl, hj⟩
          rcases (show j = 0 ∨ j = 1 ∨ j = 2 by omega) with rfl | rfl | rfl
          · (refine gw ?_)
            refine ⟨_, by decide, rfl, ?_⟩
            by_cases hko : 0 < k ∧ on = false
            · obtain ⟨hk0, rfl⟩ := hko
              obtain ⟨k', rfl⟩ : ∃ k', k = k' + 1 := ⟨k - 1, by omega⟩
              have e1 := htk k' rfl lo (by omega)
              have e2 := treeSet_told hz.1 hz.2.1 (enB b b' (k' + 1) lo hi false 0) (lo : Nat) 1 (by omega) (upB b' (k' + 1) lo)
              rw [enB_one ⟨hk0, rfl⟩] at e2
              (refine gw ?_)
              rw [show ((k' + 1 : Nat) : Int) - 1 = (k' : Int) by omega]
              (refine gw ?_)
              refine usL_at (j := k') (by omega) ?_
              rw [if_pos (by omega)]
              (refine gw ?_; refine Choice.mk ⟨false, Choice.mk ⟨false, _, _, e1, ?_⟩⟩)
              (refine gw ?_; refine Choice.mk ⟨false, Choice.mk ⟨false, _, _, e2, ?_⟩⟩)
              (refine gw ?_; refine ⟨[], [0,1,2,3], rfl, ⟨1, rfl, rfl, by omega⟩, (by omega : 2 - (((0 : Nat) : Int) + 1).toNat < 2 - ((0 : Nat) : Int).toNat)⟩)
            · have eo := enB_off (b := b) (b' := b') (lo := lo) (hi := hi) hko 0 1
              rw [eo]
              by_cases hk0 : 0 < k
              · have hon : on = true := by cases on with
                  | true => rfl
                  | false => exact absurd ⟨hk0, rfl⟩ hko
                subst hon
                (refine gw ?_; refine IfB.tt (by simp; omega) ?_)
                (refine gw ?_; refine ⟨[], [0,1,2,3], rfl, ⟨1, rfl, rfl, by omega⟩, (by omega : 2 - (((0 : Nat) : Int) + 1).toNat < 2 - ((0 : Nat) : Int).toNat)⟩)
              · (refine gw ?_; refine IfB.ff (by simp; omega) ?_)
                (refine gw ?_; refine ⟨[], [0,1,2,3], rfl, ⟨1, rfl, rfl, by omega⟩, (by omega : 2 - (((0 : Nat) : Int) + 1).toNat < 2 - ((0 : Nat) : Int).toNat)⟩)
          · (refine gw ?_)
            refine ⟨_, by decide, rfl, ?_⟩
            by_cases hko : 0 < k ∧ on = false
            · obtain ⟨hk0, rfl⟩ := hko
              obtain ⟨k', rfl⟩ : ∃ k', k = k' + 1 := ⟨k - 1, by omega⟩
              have e1 := htk k' rfl hi (by omega)
              have e2 := treeSet_told hz.1 hz.2.1 (enB b b' (k' + 1) lo hi false 1) (hi : Nat) 1 (by omega) (upB b' (k' + 1) hi)
              rw [enB_two ⟨hk0, rfl⟩] at e2
              (refine gw ?_)
              rw [show ((k' + 1 : Nat) : Int) - 1 = (k' : Int) by omega]
              (refine gw ?_)
              refine usL_at (j := k') (by omega) ?_
              rw [if_pos (by omega)]
              (refine gw ?_; refine Choice.mk ⟨false, Choice.mk ⟨false, _, _, e1, ?_⟩⟩)
              (refine gw ?_; refine Choice.mk ⟨false, Choice.mk ⟨false, _, _, e2, ?_⟩⟩)
              (refine gw ?_; refine ⟨[], [0,1,2,3], rfl, ⟨2, rfl, rfl, by omega⟩, (by omega : 2 - (((1 : Nat) : Int) + 1).toNat < 2 - ((1 : Nat) : Int).toNat)⟩)
            · have eo := enB_off (b := b) (b' := b') (lo := lo) (hi := hi) hko 1 2
              rw [eo]
              by_cases hk0 : 0 < k
              · have hon : on = true := by cases on with
                  | true => rfl
                  | false => exact absurd ⟨hk0, rfl⟩ hko
                subst hon
                (refine gw ?_; refine IfB.tt (by simp; omega) ?_)
                (refine gw ?_; refine ⟨[], [0,1,2,3], rfl, ⟨2, rfl, rfl, by omega⟩, (by omega : 2 - (((1 : Nat) : Int) + 1).toNat < 2 - ((1 : Nat) : Int).toNat)⟩)
              · (refine gw ?_; refine IfB.ff (by simp; omega) ?_)
                (refine gw ?_; refine ⟨[], [0,1,2,3], rfl, ⟨2, rfl, rfl, by omega⟩, (by omega : 2 - (((1 : Nat) : Int) + 1).toNat < 2 - ((1 : Nat) : Int).toNat)⟩)
          · rw [show eTr (g / 2 ^ k) (enB b b' k lo hi on 2) = tS g b' k from eTr_congr fun i _ => hB i]
            (refine gw ?_; refine ⟨[], [0,1,2], rfl, ⟨k + 1, rfl, by rw [← hset]; rfl, hkc⟩, (by omega : c - ((k : Int) + 1).toNat < c - (k : Int).toNat)⟩)
        · obtain rfl : k = c := by omega
          (refine gw ?_; refine IfB.ff (by rw [htl]; simp) ?_)
          (refine gw ?_)
          rw [usL_end]
          exact RetN.fz ⟨[true], [], rfl, rfl, rfl⟩
end Go.Ev.W
namespace Go.Ev.W
open Go.Ev Go.Ev.N

set_option maxHeartbeats 8000000 in
theorem rOf_told {g c : Nat} (h : SlOk g c) (b : Nat → Bool) : Told P T ref8_Of [] [.lst t_bool (bitR g b), i64 c] (eS g c b) [] := by
  have h1 := h.c1
  have h2 := h.c17
  have h3 := h.g1
  have h4 := h.g2
  have hb0 : bitR g b = bitR (g / 2 ^ 0) (upB b 0) := by rw [Nat.pow_zero, Nat.div_one]; rfl
  rw [hb0]
  refine told_of_ev (fn := ref8_Of_fn) tabOk mixed (by kernel_rfl) (by kernel_rfl) (by kernel_rfl) (by kernel_rfl) ?_
  (refine gw ?_; refine LoopN.mk ⟨[0,1,4,5,6], fun vs L => ∃ k : Nat, vs = [.lst t_bool (bitR (g / 2 ^ k) (upB b k)), i64 c, .ptr 0 0 0, .ptr 1 0 0, i64 k] ∧ L = [.var (.agg [.und]), .var (.agg [.ref 2]), .row t_api_Tree (tL g k b)] ∧ k ≤ c, fun vs L => match vs with | [_, _, _, _, .int _ i] => c - i.toNat | _ => 0, [], [0,2,4], rfl, ⟨0, rfl, rfl, by omega⟩, ?_⟩)
  rintro vs L ⟨k, rfl, rfl, hk⟩
  by_cases hkc : k < c
  · have hz := h.sz hkc
    have hbl := bitR_len (g / 2 ^ k) (upB b k)
    have d1 : Told P T ref3_Made [] [i64 (bitR (g / 2 ^ k) (upB b k)).length, .lst t_bool (bitR (g / 2 ^ k) (upB b k))] (tS g b k) [] := by
      rw [hbl]; exact rMade_told hz.1 hz.2.1 (upB b k)
    have hu := tL_suc g k b
    have htl := tL_len g k b
    have hsh := sz_half g k
    have hup : ∀ i, upB b (k + 1) i = (upB b k (2 * i) || upB b k (2 * i + 1)) := fun i => rfl
    have hdv : (((bitR (g / 2 ^ k) (upB b k)).length : Nat) : Int).tdiv 2 = ((g / 2 ^ k / 2 : Nat) : Int) := by rw [hbl]; exact (Int.ofNat_tdiv _ 2).symm
    have hix : ∀ j, j < g / 2 ^ k → ∀ Q : AV → Prop, Q (.bool (upB b k j)) → Idx (bitR (g / 2 ^ k) (upB b k)) ((j : Nat) : Int) Q := fun j hj Q q => bitR_idx hj q
    generalize hU : upB b (k + 1) = u at *
    generalize hA : upB b k = a at *
    generalize hm : g / 2 ^ k = m at *
    generalize hm2 : g / 2 ^ (k + 1) = m2 at *
    (refine gw ?_; refine IfB.tt (by simp; omega) ?_)
    (refine gw ?_; refine Choice.mk ⟨false, Choice.mk ⟨false, _, _, d1, ?_⟩⟩)
    (refine gw ?_)
    refine Room.mk (by rw [htl]; simp; omega) ?_
    (refine gw ?_)
    rw [hdv, Int.toNat_natCast]
    refine Room.mk (by omega) ?_
    have hz0 : List.replicate (m / 2) (AV.bool false) = bitR (m / 2) (haB u 0) := (haB_zero _ _).symm
    (refine gw ?_; refine LoopN.mk ⟨[0,1,4,5,6,7,8], fun vs L => ∃ i : Nat, vs = [.lst t_bool (bitR m a), i64 c, .ptr 0 0 0, .ptr 1 0 0, i64 k, .ref 3, i64 i] ∧ L = [.var (.agg [.und]), .var (.agg [.ref 2]), .row t_api_Tree (tL g (k + 1) b), .row t_bool (bitR (m / 2) (haB u i))] ∧ i ≤ m / 2, fun vs L => match vs with | [_, _, _, _, _, _, .int _ i] => m / 2 - i.toNat | _ => 0, [], [0,1,4,5], rfl, ⟨0, rfl, by rw [hu, ← hz0]; rfl, by omega⟩, ?_⟩)
    rintro vs L ⟨i, rfl, rfl, hi⟩
    have hhl := bitR_len (m / 2) (haB u i)
    by_cases him : i < m / 2
    · have hs := haB_set (m := m / 2) (i := i) u
      have e1 := hix (2 * i) (by omega)
      have e2 := hix (2 * i + 1) (by omega)
      have hui := hup i
      (refine gw ?_; refine IfB.tt (by rw [hhl]; simp; omega) ?_)
      (refine gw ?_)
      refine e1 _ ?_
      cases ha : a (2 * i) with
      | true =>
        rw [ha, Bool.true_or] at hui
        rw [hui] at hs
        (refine gw ?_; refine ⟨[], [0,1,2,3], rfl, ⟨i + 1, rfl, by rw [← hs]; rfl, by omega⟩, (by omega : m / 2 - ((i : Int) + 1).toNat < m / 2 - (i : Int).toNat)⟩)
      | false =>
        rw [ha, Bool.false_or] at hui
        rw [hui] at hs
        (refine gw ?_)
        refine e2 _ ?_
        (refine gw ?_; refine ⟨[], [0,1,2,3], rfl, ⟨i + 1, rfl, by rw [← hs]; rfl, by omega⟩, (by omega : m / 2 - ((i : Int) + 1).toNat < m / 2 - (i : Int).toNat)⟩)
    · obtain rfl : i = m / 2 := by omega
      have he := haB_end (m / 2) u
      (refine gw ?_; refine IfB.ff (by rw [hhl]; simp) ?_)
      refine gw ?_
      refine ⟨[0], [0, 1, 2], rfl, ⟨k + 1, ?_, rfl, hkc⟩, (by omega : c - ((k : Int) + 1).toNat < c - (k : Int).toNat)⟩
      rw [hm2, hsh, hU, ← he]
      rfl
  · obtain rfl : k = c := by omega
    (refine gw ?_)
    exact RetN.fz ⟨[true], [], rfl, rfl, rfl⟩
end Go.Ev.W
namespace Go.Ev.W
open Go.Ev Go.Ev.N

/-- Trees, whatever they are. -/
def eTp (p : Int × LV) : AV := eT p.1 p.2
def eSl (ts : List (Int × LV)) : AV := .agg [.lst t_api_Tree (ts.map eTp)]
def slT (g c : Nat) (b : Nat → Bool) : List (Int × LV) := (List.range c).map fun k => (((g / 2 ^ k : Nat) : Int), lvT (g / 2 ^ k) (upB b k))
theorem eS_sl (g c : Nat) (b : Nat → Bool) : eS g c b = eSl (slT g c b) := by
  unfold eS eSl tL slT
  rw [List.map_map]; rfl
theorem sN_sl : sN = eSl [] := rfl
def TpOk (p : Int × LV) : Prop := p.2.length ≤ 1000 ∧ ∀ r ∈ p.2, r.length ≤ 100000
theorem slT_ok {g c : Nat} (h : SlOk g c) (b : Nat → Bool) : ∀ p ∈ slT g c b, TpOk p := by
  intro p hp
  unfold slT at hp
  obtain ⟨k, hk, rfl⟩ := List.mem_map.1 hp
  have hk : k < c := by simpa using hk
  have hz := h.sz hk
  exact ⟨by show (lvT _ _).length ≤ 1000; rw [lvT_len]; have := hT_le (g / 2 ^ k); omega, mixT_all_row hz.1 hz.2.1 _⟩
theorem slT_len (g c : Nat) (b : Nat → Bool) : (slT g c b).length = c := by simp [slT]
theorem slT_congr {g c : Nat} {b b' : Nat → Bool} (h : ∀ x, x < g → b x = b' x) : slT g c b = slT g c b' := by
  unfold slT
  refine List.map_congr_left fun k _ => ?_
  rw [lvT_congr fun i hi => upB_congr fun x hx => h x ?_]
  subst hx
  by_cases e : x < g
  · exact e
  · have : g / 2 ^ k ≤ x / 2 ^ k := Nat.div_le_div_right (by omega)
    omega
set_option maxHeartbeats 2000000 in
theorem rSameSlots (ts us : List (Int × LV)) (ht : ts.length ≤ 1000) (hu : us.length ≤ 1000) (hto : ∀ p ∈ ts, TpOk p) (huo : ∀ p ∈ us, TpOk p) : Told P T ref8_SameSlots [] [eSl ts, eSl us] (.bool (decide (ts = us))) [] := by
  have hma : (ts.map eTp).length = ts.length := by simp
  have hmb : (us.map eTp).length = us.length := by simp
  refine told_of_ev (fn := ref8_SameSlots_fn) tabOk mixed (by kernel_rfl) (by kernel_rfl) (by kernel_rfl) (by kernel_rfl) ?_
  by_cases h1 : ts.length = us.length
  · (refine gw ?_; refine IfB.ff (by rw [hma, hmb]; simp; omega) ?_)
    (refine gw ?_; refine LoopN.mk ⟨[2,3,5], fun vs L => ∃ i : Nat, vs = [.ptr 0 0 0, .ptr 1 0 0, i64 i] ∧ i ≤ ts.length ∧ L = [.var (eSl ts), .var (eSl us)] ∧ ts.take i = us.take i, fun vs L => match vs with | [_, _, .int _ i] => ts.length - i.toNat | _ => 0, [], [0,1], rfl, ⟨0, rfl, by omega, rfl, rfl⟩, ?_⟩)
    rintro vs L ⟨i, rfl, hi, rfl, he⟩
    by_cases h2 : i < ts.length
    · have h3 : i < us.length := by omega
      have o1 := hto _ (List.getElem_mem h2)
      have o2 := huo _ (List.getElem_mem h3)
      have c1 := rSameTree (s := ts[i].1) (t := us[i].1) ts[i].2 us[i].2 (by have := o1.1; omega) (by have := o2.1; omega) o1.2 o2.2
      by_cases h4 : ts[i] = us[i]
      · rw [show decide (ts[i].1 = us[i].1 ∧ ts[i].2 = us[i].2) = true from decide_eq_true ⟨by rw [h4], by rw [h4]⟩] at c1
        (refine gw ?_; refine IfB.tt (by rw [hma]; simp; omega) ?_)
        (refine gw ?_; refine idx_map (h2) ?_)
        (refine gw ?_; refine idx_map (h3) ?_)
        (refine gw ?_; refine Choice.mk ⟨false, Choice.mk ⟨false, _, _, c1, ?_⟩⟩)
        (refine gw ?_; refine ⟨[], [0,1], rfl, ⟨i + 1, rfl, h2, rfl, take_suc_eq h2 h3 he h4⟩, (by omega : ts.length - ((i : Int) + 1).toNat < ts.length - (i : Int).toNat)⟩)
      · rw [show decide (ts[i].1 = us[i].1 ∧ ts[i].2 = us[i].2) = false from decide_eq_false fun e => h4 (Prod.ext e.1 e.2)] at c1
        rw [show decide (ts = us) = false from decide_eq_false fun e => h4 (by subst e; rfl)]
        (refine gw ?_; refine IfB.tt (by rw [hma]; simp; omega) ?_)
        (refine gw ?_; refine idx_map (h2) ?_)
        (refine gw ?_; refine idx_map (h3) ?_)
        (refine gw ?_; refine Choice.mk ⟨false, Choice.mk ⟨false, _, _, c1, ?_⟩⟩)
        (refine gw ?_; exact RetN.mk ⟨[], rfl, rfl, rfl⟩)
    · (refine gw ?_; refine IfB.ff (by rw [hma]; simp; omega) ?_)
      rw [List.take_of_length_le (by omega), List.take_of_length_le (by omega)] at he
      rw [decide_eq_true he]
      (refine gw ?_; exact RetN.mk ⟨[], rfl, rfl, rfl⟩)
  · rw [decide_eq_false fun e => h1 (by rw [e])]
    (refine gw ?_; refine IfB.tt (by rw [hma, hmb]; simp; omega) ?_)
    (refine gw ?_; exact RetN.mk ⟨[], rfl, rfl, rfl⟩)
theorem sameS_told {g c : Nat} (h : SlOk g c) (b : Nat → Bool) : Told P T ref8_SameSlots [] [eS g c b, eS g c b] (.bool true) [] := by
  have h2 := h.c17
  have t := rSameSlots (slT g c b) (slT g c b) (by rw [slT_len]; omega) (by rw [slT_len]; omega) (slT_ok h b) (slT_ok h b)
  rw [decide_eq_true rfl, ← eS_sl] at t
  exact t
theorem sameSN_told : Told P T ref8_SameSlots [] [sN, sN] (.bool true) [] := by
  have t := rSameSlots [] [] (by simp) (by simp) (by simp) (by simp)
  rw [decide_eq_true rfl] at t
  exact t
instance (g c : Int) : Decidable (SlOkI g c) := by unfold SlOkI; infer_instance
theorem pow2_mul {i : Nat} (h : i ≤ 16) : ((2 ^ i : Nat) : Int) * 2 = ((2 ^ (i + 1) : Nat) : Int) := by rw [Nat.pow_succ]; simp
set_option maxHeartbeats 4000000 in
theorem rNewSlots_told (g c : Int) (hg : -9223372036854775808 ≤ g ∧ g ≤ 9223372036854775807) (hc : -9223372036854775808 ≤ c ∧ c ≤ 9223372036854775807) : Told P T ref8_NewSlots [] [i64 g, i64 c] (if SlOkI g c then eS g.toNat c.toNat offB else sN) [] := by
  refine told_of_ev (fn := ref8_NewSlots_fn) tabOk mixed (by kernel_rfl) (by kernel_rfl) (by kernel_rfl) (by kernel_rfl) ?_
  by_cases h1 : c < 1
  · rw [if_neg fun h => by have := h.1; omega]
    (refine gw ?_; refine IfB.tt (by simp; omega) ?_)
    (refine gw ?_)
    exact RetN.fz ⟨[true], [], rfl, rfl, rfl⟩
  · (refine gw ?_; refine IfB.ff (by simp; omega) ?_)
    by_cases h2 : c > 17
    · rw [if_neg fun h => by have := h.2.1; omega]
      (refine gw ?_; refine IfB.tt (by simp; omega) ?_)
      (refine gw ?_)
      exact RetN.fz ⟨[true], [], rfl, rfl, rfl⟩
    · (refine gw ?_; refine IfB.ff (by simp; omega) ?_)
      by_cases h3 : g < 1
      · rw [if_neg fun h => by have := h.2.2.1; omega]
        (refine gw ?_; refine IfB.tt (by simp; omega) ?_)
        (refine gw ?_)
        exact RetN.fz ⟨[true], [], rfl, rfl, rfl⟩
      · (refine gw ?_; refine IfB.ff (by simp; omega) ?_)
        by_cases h4 : g > 65536
        · rw [if_neg fun h => by have := h.2.2.2.1; omega]
          (refine gw ?_; refine IfB.tt (by simp; omega) ?_)
          (refine gw ?_)
          exact RetN.fz ⟨[true], [], rfl, rfl, rfl⟩
        · (refine gw ?_; refine IfB.ff (by simp; omega) ?_)
          obtain ⟨n, rfl⟩ : ∃ n : Nat, g = n := ⟨g.toNat, by omega⟩
          obtain ⟨k, rfl⟩ : ∃ k : Nat, c = k := ⟨c.toNat, by omega⟩
          rw [Int.toNat_natCast, Int.toNat_natCast]
          (refine gw ?_; refine LoopN.mk ⟨[0,1,4,5,6], fun vs L => ∃ i : Nat, vs = [i64 n, i64 k, .ptr 0 0 0, i64 (2 ^ (i - 1) : Nat), i64 i] ∧ L = [.var (.agg [.und])] ∧ 1 ≤ i ∧ i ≤ k, fun vs L => match vs with | [_, _, _, _, .int _ i] => k - i.toNat | _ => 0, [], [0], rfl, ⟨1, rfl, rfl, by omega, by omega⟩, ?_⟩)
          rintro vs L ⟨i, rfl, rfl, hi1, hi2⟩
          obtain ⟨j, rfl⟩ : ∃ j, i = j + 1 := ⟨i - 1, by omega⟩
          rw [show j + 1 - 1 = j by omega]
          have hp : 2 ^ j ≤ 2 ^ 16 := Nat.pow_le_pow_right (by omega) (by omega)
          have hp0 : 0 < 2 ^ j := Nat.pow_pos (by omega)
          have hp2 := pow2_mul (i := j) (by omega)
          have hmd : ((n : Nat) : Int).tmod ((2 ^ j : Nat) : Int) = ((n % 2 ^ j : Nat) : Int) := (Int.ofNat_tmod n (2 ^ j)).symm
          by_cases hik : j + 1 < k
          · (refine gw ?_; refine IfB.tt (by simp; omega) ?_)
            (refine gw ?_; refine ⟨[], [0], rfl, ⟨j + 2, by rw [show j + 2 - 1 = j + 1 by omega, ← hp2]; rfl, rfl, by omega, by omega⟩, (by omega : k - (((j + 1 : Nat) : Int) + 1).toNat < k - ((j + 1 : Nat) : Int).toNat)⟩)
          · obtain rfl : k = j + 1 := by omega
            have hne : ((2 ^ j : Nat) : Int) ≠ 0 := by omega
            (refine gw ?_)
            rw [hmd]
            by_cases hz : n % 2 ^ j = 0
            · have hk : SlOkI n (j + 1 : Nat) := ⟨by omega, by omega, by omega, by omega, by rw [Int.toNat_natCast, Int.toNat_natCast, show j + 1 - 1 = j by omega]; exact hz⟩
              have d1 := rOf_told hk.ok offB
              rw [bitR_off] at d1
              rw [if_pos hk, hz]
              (refine gw ?_)
              refine Room.mk (by omega) ?_
              (refine gw ?_; refine Choice.mk ⟨false, Choice.mk ⟨false, _, _, d1, ?_⟩⟩)
              (refine gw ?_; exact RetN.mk ⟨[], rfl, rfl, rfl⟩)
            · rw [if_neg fun h => hz (by have := h.2.2.2.2; rw [Int.toNat_natCast, Int.toNat_natCast, show j + 1 - 1 = j by omega] at this; exact this)]
              generalize n % 2 ^ j = r at *
              (refine gw ?_; refine IfB.tt (by simp; omega) ?_)
              (refine gw ?_)
              exact RetN.fz ⟨[true], [], rfl, rfl, rfl⟩
end Go.Ev.W
namespace Go.Ev.W
open Go.Ev Go.Ev.N

/-- The lowest place of a class. -/
def lowS (g c : Nat) (b : Nat → Bool) (cl : Int) : Option Nat := if 0 ≤ cl ∧ cl < c then firI (g / 2 ^ cl.toNat) (upB b cl.toNat) 0 else none
set_option maxHeartbeats 2000000 in
theorem slLowest_told {g c : Nat} (h : SlOk g c) (b : Nat → Bool) (cl : Int) (hcl : -9223372036854775808 ≤ cl ∧ cl ≤ 9223372036854775807) : Told P T slots_Lowest [] [eS g c b, i64 cl] (eFir (lowS g c b cl)) [] := by
  have htl := tL_len g c b
  have h2 := h.c17
  refine told_of_ev (fn := slots_Lowest_fn) tabOk mixed (by kernel_rfl) (by kernel_rfl) (by kernel_rfl) (by kernel_rfl) ?_
  by_cases h3 : cl < 0
  · rw [show lowS g c b cl = none by unfold lowS; rw [if_neg (by omega)]]
    (refine gw ?_; refine IfB.tt (by simp; omega) ?_)
    (refine gw ?_; exact RetN.mk ⟨[], rfl, rfl, rfl⟩)
  · (refine gw ?_; refine IfB.ff (by simp; omega) ?_)
    obtain ⟨k, rfl⟩ : ∃ k : Nat, cl = k := ⟨cl.toNat, by omega⟩
    by_cases h4 : k < c
    · have hz := h.sz h4
      rw [show lowS g c b k = firI (g / 2 ^ k) (upB b k) 0 by unfold lowS; rw [if_pos (by omega), Int.toNat_natCast]]
      have c1 := treeFirst_told hz.1 hz.2.1 (upB b k) 0 (by omega)
      cases hf : firI (g / 2 ^ k) (upB b k) 0 with
      | none =>
        rw [hf] at c1
        (refine gw ?_; refine IfB.ff (by rw [htl]; simp; omega) ?_)
        (refine gw ?_)
        refine tL_idx h4 ?_
        (refine gw ?_; refine Choice.mk ⟨false, Choice.mk ⟨false, _, _, c1, ?_⟩⟩)
        (refine gw ?_; exact RetN.mk ⟨[], rfl, rfl, rfl⟩)
      | some i =>
        rw [hf] at c1
        (refine gw ?_; refine IfB.ff (by rw [htl]; simp; omega) ?_)
        (refine gw ?_)
        refine tL_idx h4 ?_
        (refine gw ?_; refine Choice.mk ⟨false, Choice.mk ⟨false, _, _, c1, ?_⟩⟩)
        (refine gw ?_; exact RetN.mk ⟨[], rfl, rfl, rfl⟩)
    · rw [show lowS g c b k = none by unfold lowS; rw [if_neg (by omega)]]
      (refine gw ?_; refine IfB.tt (by rw [htl]; simp; omega) ?_)
      (refine gw ?_; exact RetN.mk ⟨[], rfl, rfl, rfl⟩)
set_option maxHeartbeats 2000000 in
theorem rLowest_told {g c : Nat} (h : SlOk g c) (b : Nat → Bool) (cl : Int) (hcl : -9223372036854775808 ≤ cl ∧ cl ≤ 9223372036854775807) : Told P T ref8_Lowest [] [eS g c b, i64 cl] (eFir (lowS g c b cl)) [] := by
  have htl := tL_len g c b
  have h2 := h.c17
  refine told_of_ev (fn := ref8_Lowest_fn) tabOk mixed (by kernel_rfl) (by kernel_rfl) (by kernel_rfl) (by kernel_rfl) ?_
  by_cases h3 : cl < 0
  · rw [show lowS g c b cl = none by unfold lowS; rw [if_neg (by omega)]]
    (refine gw ?_; refine IfB.tt (by simp; omega) ?_)
    (refine gw ?_; exact RetN.mk ⟨[], rfl, rfl, rfl⟩)
  · (refine gw ?_; refine IfB.ff (by simp; omega) ?_)
    obtain ⟨k, rfl⟩ : ∃ k : Nat, cl = k := ⟨cl.toNat, by omega⟩
    by_cases h4 : k < c
    · have hz := h.sz h4
      rw [show lowS g c b k = firI (g / 2 ^ k) (upB b k) 0 by unfold lowS; rw [if_pos (by omega), Int.toNat_natCast]]
      have c1 := rFirst_told hz.1 hz.2.1 (upB b k) 0 (by omega)
      cases hf : firI (g / 2 ^ k) (upB b k) 0 with
      | none =>
        rw [hf] at c1
        (refine gw ?_; refine IfB.ff (by rw [htl]; simp; omega) ?_)
        (refine gw ?_)
        refine tL_idx h4 ?_
        (refine gw ?_; refine Choice.mk ⟨false, Choice.mk ⟨false, _, _, c1, ?_⟩⟩)
        (refine gw ?_; exact RetN.mk ⟨[], rfl, rfl, rfl⟩)
      | some i =>
        rw [hf] at c1
        (refine gw ?_; refine IfB.ff (by rw [htl]; simp; omega) ?_)
        (refine gw ?_)
        refine tL_idx h4 ?_
        (refine gw ?_; refine Choice.mk ⟨false, Choice.mk ⟨false, _, _, c1, ?_⟩⟩)
        (refine gw ?_; exact RetN.mk ⟨[], rfl, rfl, rfl⟩)
    · rw [show lowS g c b k = none by unfold lowS; rw [if_neg (by omega)]]
      (refine gw ?_; refine IfB.tt (by rw [htl]; simp; omega) ?_)
      (refine gw ?_; exact RetN.mk ⟨[], rfl, rfl, rfl⟩)
set_option maxHeartbeats 2000000 in
theorem rUse_told {g c : Nat} (h : SlOk g c) (b : Nat → Bool) (f n : Int) (hf : -9223372036854775808 ≤ f ∧ f ≤ 9223372036854775807) (on : Bool) :
    Told P T ref8_Use [] [eS g c b, i64 f, i64 n, .bool on] (eS g c (setZ b f n on)) [] := by
  have h1 := h.c1
  have h2 := h.c17
  have htl := tL_len g c b
  have hz := h.sz (k := 0) (by omega)
  have hg0 : g / 2 ^ 0 = g := by rw [Nat.pow_zero, Nat.div_one]
  have hT0 : tS g b 0 = eTr g b := by unfold tS; rw [hg0]; rfl
  have c1 := rSetTree_told h.g1 h.g2 b f n hf on
  have c2 := rBits_told h.g1 h.g2 (setZ b f n on)
  have c3 : Told P T ref8_Of [] [.lst t_bool (bitR g (setZ b f n on)), i64 ((tL g c b).length : Nat)] (eS g c (setZ b f n on)) [] := by
    rw [htl]; exact rOf_told h (setZ b f n on)
  refine told_of_ev (fn := ref8_Use_fn) tabOk mixed (by kernel_rfl) (by kernel_rfl) (by kernel_rfl) (by kernel_rfl) ?_
  (refine gw ?_; refine IfB.ff (by rw [htl]; simp; omega) ?_)
  (refine gw ?_)
  refine tL_idx (k := 0) (by omega) ?_
  rw [hT0]
  (refine gw ?_; refine Choice.mk ⟨false, Choice.mk ⟨false, _, _, c1, ?_⟩⟩)
  (refine gw ?_; refine Choice.mk ⟨false, Choice.mk ⟨false, _, _, c2, ?_⟩⟩)
  (refine gw ?_; refine Choice.mk ⟨false, Choice.mk ⟨false, _, _, c3, ?_⟩⟩)
  (refine gw ?_; exact RetN.mk ⟨[], rfl, rfl, rfl⟩)
end Go.Ev.W
namespace Go.Ev.W
open Go.Ev Go.Ev.N

theorem clone_Mark (es : List AV) (hl : es.length ≤ 1000000) : Told P T slices_Clone_api_Mark_api_Mark [] [.lst t_api_Mark es] (.ref 0) [.row t_api_Mark es] := by
  refine told_of_ev (fn := slices_Clone_api_Mark_api_Mark_fn) tabOk mixed (by kernel_rfl) (by kernel_rfl) (by kernel_rfl) (by kernel_rfl) ?_
  refine AnyB.mk (fun b hb => ?_)
  refine IfB.mk (fun h1 => ?_) (fun h1 => ?_)
  · obtain rfl := hb h1
    exact RetN.mk ⟨[1], rfl, rfl, rfl⟩
  · refine Room.mk (by first | omega | (simp; omega) | (simp; done)) ?_
    exact RetN.mk ⟨[2], rfl, rfl, rfl⟩


theorem overlaps_Mark (xs es : List AV) (hx : 0 < xs.length) (i n : Nat) : Told P T slices_overlaps_api_Mark [.row t_api_Mark xs, .row t_api_Mark es] [.ref 0, .sub 1 i n] (.bool false) [.row t_api_Mark xs, .row t_api_Mark es] :=
  told_overlaps (fn := slices_overlaps_api_Mark_fn) (tS := ts_api_Mark) (tR := t_bool) tabOk (by kernel_rfl) (by kernel_rfl) (by kernel_rfl) (by kernel_rfl) (by kernel_rfl) (by kernel_rfl) (by kernel_rfl) xs es hx i n

theorem ins_splice_Mark (es : List AV) (x : AV) (i : Nat) (hi : i < es.length) :
    es.take i ++ (x :: es.drop i) = (es.take i ++ ([x] ++ es.drop i)) := by simp
set_option maxHeartbeats 4000000 in
theorem insert_Mark (es : List AV) (x : AV) (i : Nat) (hi : i ≤ es.length) (hl : es.length ≤ 1000000) :
    Told P T slices_Insert_api_Mark_api_Mark [.row t_api_Mark es, .row t_api_Mark [x]] [.ref 0, .int .i64 (i : Nat), .ref 1] (.ref 2) [.dead, .row t_api_Mark [x], .row t_api_Mark (es.take i ++ (x :: es.drop i))] := by
  refine told_of_ev_drop (fn := slices_Insert_api_Mark_api_Mark_fn) tabOk mixed (by kernel_rfl) (by kernel_rfl) (by kernel_rfl) (by kernel_rfl) ?_
  refine Cut.mk (by omega) (by omega) (by omega) ?_
  refine IfB.ff rfl ?_
  refine IfB.mk (fun h1 => ?_) (fun h1 => ?_)
  · have hie : i = es.length := by have := of_decide_eq_true h1; omega
    refine Room.mk (by first | omega | (simp; omega) | (simp; done)) ?_
    refine RetN.mk ⟨[3], rfl, rfl, .inl rfl, .inl rfl, .inl ?_, trivial⟩
    subst hie
    show Blk.row t_api_Mark (es.take es.length ++ (x :: es.drop es.length)) = Blk.row t_api_Mark (es ++ [x])
    rw [List.take_length, List.drop_length]
  · have hlt : i < es.length := by have := of_decide_eq_false h1; omega
    refine fits (wrap64 (by first | omega | (simp; omega) | (simp; done)) (by first | omega | (simp; omega) | (simp; done))) ?_
    refine AnyN.mk (fun c hc => ?_)
    refine IfB.mk (fun h2 => ?_) (fun h2 => ?_)
    · have hcc : c < es.length + 1 := by have := of_decide_eq_true h2; simp at this; omega
      refine Choice.mk ⟨false, ?_⟩
      refine Cut.mk (Int.le_refl _) (by omega) (by omega) ?_
      refine fits (wrap64 (by first | omega | (simp; omega) | (simp; done)) (by first | omega | (simp; omega) | (simp; done))) ?_
      refine fits (wrap64 (by first | omega | (simp; omega) | (simp; done)) (by first | omega | (simp; omega) | (simp; done))) ?_
      refine Need.mk (by first | omega | (simp; omega) | (simp; done)) ?_
      refine Need.mk (by first | omega | (simp; omega) | (simp; done)) ?_
      refine Room.mk (by first | omega | (simp; omega) | (simp; done)) ?_
      refine Cut.mk (by omega) (by first | omega | (simp; omega) | (simp; done)) (by first | omega | (simp; omega) | (simp; done)) ?_
      refine fits (wrap64 (by first | omega | (simp; omega) | (simp; done)) (by first | omega | (simp; omega) | (simp; done))) ?_
      refine Cut.mk (by first | omega | (simp; omega) | (simp; done)) (by first | omega | (simp; omega) | (simp; done)) (by first | omega | (simp; omega) | (simp; done)) ?_
      refine Cut.mk (by omega) (by omega) (by omega) ?_
      refine Sure.mk (by kernel_rfl) ?_
      refine RetN.mk ⟨[3], rfl, rfl, .inr rfl, .inl rfl, .inl ?_, trivial⟩
      show Blk.row t_api_Mark (es.take i ++ (x :: es.drop i)) = Blk.row t_api_Mark _
      refine congrArg _ ?_
      have e1 : ((es.length : Int) + (([x] : List AV).length : Int) - (i : Int)).toNat = es.length + 1 - i := by first | (simp; done) | (simp; omega)
      have e2 : ((i : Int) + (([x] : List AV).length : Int)).toNat = i + 1 := by first | (simp; done) | (simp; omega)
      have e3 : min 1 (es.length + 1 - i) = 1 := by omega
      simp only [e1, e2, Int.toNat_natCast]
      have e4 : i + (1 + (es.length + 1 - i - 1)) - (i + 1) = es.length - i := by omega
      have e5 : i + 1 + (es.length - i) - i - 1 = es.length - i := by omega
      have e6 : es.length + 1 - i - 1 - (es.length - i) = 0 := by omega
      have e7 : (es.take i).length = i := by rw [List.length_take]; omega
      have d1 : ∀ k, i ≤ k → (es.take i).drop k = [] := fun k hk => List.drop_eq_nil_of_le (by omega)
      have d2 : ∀ k, 1 ≤ k → ([x] : List AV).drop k = [] := fun k hk => List.drop_eq_nil_of_le (by simpa using hk)
      have d3 : ([x] : List AV).take 1 = [x] := rfl
      have d4 : (es.drop i).take (es.length - i) = es.drop i := List.take_of_length_le (by simp)
      have e8 : i + 1 + (es.length - i) - i = 1 + (es.length - i) := by omega
      simp [List.take_append, List.drop_append, List.take_of_length_le, Nat.min_eq_left (Nat.le_of_lt hlt), e3, e4, e8, d3, d4, d2, d1, e6]
      have e9 : i + (es.length + 1 - i - 1 + 1) - (i + 1) = es.length - i := by omega
      have d5 : ∀ z : AV, (x :: List.replicate (es.length + 1 - i - 1) z).drop (i + 1 + (es.length - i) - i) = [] := fun z => List.drop_eq_nil_of_le (by rw [List.length_cons, List.length_replicate]; omega)
      rw [e9, Nat.min_self, d4, d1 _ (by omega), d5]
      simp
    · have hcc : es.length + 1 ≤ c := by have := of_decide_eq_false h2; simp at this; omega
      refine fits (wrap64 (by first | omega | (simp; omega) | (simp; done)) (by first | omega | (simp; omega) | (simp; done))) ?_
      refine Choice.mk ⟨true, ?_⟩
      refine Cut.mk (by omega) (by first | omega | (simp; omega) | (simp; done)) (by first | omega | (simp; omega) | (simp; done)) ?_
      refine fits (wrap64 (by first | omega | (simp; omega) | (simp; done)) (by first | omega | (simp; omega) | (simp; done))) ?_
      refine Cut.mk (by first | omega | (simp; omega) | (simp; done)) (by first | omega | (simp; omega) | (simp; done)) (by first | omega | (simp; omega) | (simp; done)) ?_
      refine Choice.mk ⟨true, Choice.mk ⟨false, _, _, overlaps_Mark [x] _ (by simp) _ _, ?_⟩⟩
      refine IfB.tt rfl ?_
      refine fits (wrap64 (by first | omega | (simp; omega) | (simp; done)) (by first | omega | (simp; omega) | (simp; done))) ?_
      refine Cut.mk (by first | omega | (simp; omega) | (simp; done)) (by first | omega | (simp; omega) | (simp; done)) (by first | omega | (simp; omega) | (simp; done)) ?_
      refine Cut.mk (by simp) (by first | omega | (simp; omega) | (simp; done)) (by first | omega | (simp; omega) | (simp; done)) ?_
      refine Sure.mk (by kernel_rfl) ?_
      refine Cut.mk (by simp) (by first | omega | (simp; omega) | (simp; done)) (by first | omega | (simp; omega) | (simp; done)) ?_
      refine RetN.mk ⟨[3], rfl, rfl, .inl rfl, .inl rfl, .inl ?_, trivial⟩
      show Blk.row t_api_Mark (es.take i ++ (x :: es.drop i)) = Blk.row t_api_Mark _
      refine congrArg _ ?_
      have n1 : ((es.length : Int) + (([x] : List AV).length : Int)).toNat - es.length = 1 := by first | (simp; done) | (simp; omega)
      have n2 : ((i : Int) + (([x] : List AV).length : Int)).toNat = i + 1 := by first | (simp; done) | (simp; omega)
      have r := ins_room es x (junkE T t_api_Mark) i hlt
      have m1 : min ([x] : List AV).length (es.length + 1 - i) = 1 := by first | (simp; done) | (simp; omega)
      simp only [n1, n2, Int.toNat_natCast, List.replicate_one]
      rw [r.2.2, m1, r.1, r.2.1]
      rfl

set_option maxHeartbeats 4000000 in
theorem delete_Mark (es : List AV) (i : Nat) (hi : i < es.length) (hl : es.length ≤ 1000000) :
    Told P T slices_Delete_api_Mark_api_Mark [.row t_api_Mark es] [.ref 0, .int .i64 (i : Nat), .int .i64 ((i : Nat) + 1)] (.sub 0 0 (es.length - 1)) [.row t_api_Mark (es.take i ++ (es.drop (i + 1) ++ [zeroE T t_api_Mark]))] := by
  refine told_of_ev (fn := slices_Delete_api_Mark_api_Mark_fn) tabOk mixed (by kernel_rfl) (by kernel_rfl) (by kernel_rfl) (by kernel_rfl) ?_
  refine Cut.mk (by omega) (by omega) (by omega) ?_
  refine Need.mk (by omega) ?_
  refine IfB.ff (by simp; omega) ?_
  refine Cut.mk (by omega) (by omega) (by omega) ?_
  refine Cut.mk (by omega) (by omega) (by omega) ?_
  refine Need.mk (by simp; omega) ?_
  refine Sure.mk (by kernel_rfl) ?_
  refine Cut.mk (by omega) (by simp; omega) (by simp; omega) ?_
  have f0 : Int.toNat 0 = 0 := rfl
  have f1 : (((i : Nat) : Int) + 1).toNat = i + 1 := by omega
  have f2 : (es.drop (i + 1)).take (es.length - (i + 1)) = es.drop (i + 1) := List.take_of_length_le (by simp)
  have f3 : (es.drop (i + 1)).length = es.length - (i + 1) := by simp
  have f4 : i + (es.length - (i + 1)) = es.length - 1 := by omega
  have f5 : es.length - (es.length - 1) = 1 := by omega
  have f6 : es.length - 1 + 1 = es.length := by omega
  refine RetN.mk ⟨[], rfl, ?_, ?_⟩
  · show AV.sub 0 0 _ = AV.sub 0 0 _
    congr 1
    simp only [Int.toNat_natCast, f1, f2, f3, f0, Nat.sub_zero]
    omega
  · show [Blk.row t_api_Mark _] = [Blk.row t_api_Mark _]
    congr 2
    simp only [Int.toNat_natCast, f1, f2, f3, f0, Nat.sub_zero, Nat.zero_add, f4, f5, f6]
    have g1 : (es.take i ++ es.drop (i + 1)).length = es.length - 1 := by rw [List.length_append, List.length_take, f3]; omega
    have R : es.take i ++ (es.drop (i + 1) ++ es.drop (es.length - 1)) = (es.take i ++ es.drop (i + 1)) ++ es.drop (es.length - 1) := by simp
    have g3 : ((es.take i ++ es.drop (i + 1)) ++ es.drop (es.length - 1)).drop es.length = [] := List.drop_eq_nil_of_le (by rw [List.length_append, g1, List.length_drop]; omega)
    rw [R, List.take_append_of_le_length (by omega), List.take_of_length_le (by omega), g3, List.append_nil, List.append_assoc]
    rfl

end Go.Ev.W
namespace Go.Ev.W
open Go.Ev Go.Ev.N

structure M where
  at' : Int
  cl : Int
  deriving DecidableEq
def encM (m : M) : AV := .agg [.int .i64 m.at', .int .i64 m.cl]
def cmpI (x y : Int) : Int := if x < y then -1 else if x > y then 1 else 0

theorem isNaN_told (x : Int) : Told P T cmp_isNaN_int [] [.int .i64 x] (.bool false) [] := by
  refine told_of_ev (fn := cmp_isNaN_int_fn) tabOk mixed (by kernel_rfl) (by kernel_rfl) (by kernel_rfl) (by kernel_rfl) ?_
  refine RetN.mk ⟨[], rfl, ?_, rfl⟩
  show AV.bool (x != x) = AV.bool false
  simp
theorem compare_told (x y : Int) : Told P T cmp_Compare_int [] [.int .i64 x, .int .i64 y] (.int .i64 (cmpI x y)) [] := by
  refine told_of_ev (fn := cmp_Compare_int_fn) tabOk mixed (by kernel_rfl) (by kernel_rfl) (by kernel_rfl) (by kernel_rfl) ?_
  refine Choice.mk ⟨false, Choice.mk ⟨false, _, _, isNaN_told x, ?_⟩⟩
  refine Choice.mk ⟨false, Choice.mk ⟨false, _, _, isNaN_told y, ?_⟩⟩
  refine IfB.ff rfl ?_
  refine IfB.ff rfl ?_
  refine IfB.mk (fun h1 => ?_) (fun h1 => ?_)
  · refine RetN.mk ⟨[], rfl, ?_, rfl⟩
    show AV.int .i64 (-1) = AV.int .i64 (cmpI x y)
    have := of_decide_eq_true h1
    simp [cmpI, this]
  · have h1 := of_decide_eq_false h1
    refine IfB.mk (fun h2 => ?_) (fun h2 => ?_)
    · refine RetN.mk ⟨[], rfl, ?_, rfl⟩
      have := of_decide_eq_true h2
      show AV.int .i64 1 = AV.int .i64 (cmpI x y)
      simp [cmpI, h1, this]
    · refine RetN.mk ⟨[], rfl, ?_, rfl⟩
      have := of_decide_eq_false h2
      show AV.int .i64 0 = AV.int .i64 (cmpI x y)
      simp [cmpI, h1, this]
theorem find1_told (m : M) (y : Int) : Told P T side_find_1 [] [encM m, .int .i64 y] (.int .i64 (cmpI m.at' y)) [] := by
  refine told_of_ev (fn := side_find_1_fn) tabOk mixed (by kernel_rfl) (by kernel_rfl) (by kernel_rfl) (by kernel_rfl) ?_
  refine Choice.mk ⟨false, Choice.mk ⟨false, _, _, compare_told m.at' y, ?_⟩⟩
  exact RetN.mk ⟨[], rfl, rfl, rfl⟩

/-- Marks that rise. -/
def Rise (l : List M) : Prop := l.Pairwise fun a b => a.at' < b.at'
/-- How many begin below. -/
def low (y : Int) : List M → Nat
  | [] => 0
  | m :: l => if m.at' < y then low y l + 1 else 0
theorem low_le (y : Int) : ∀ l, low y l ≤ l.length
  | [] => Nat.le_refl _
  | m :: l => by
    have := low_le y l
    unfold low; split <;> simp <;> omega
theorem low_spec {y : Int} : ∀ {l : List M}, Rise l → ∀ k (h : k < l.length), (k < low y l ↔ (l[k]).at' < y)
  | [], _, k, h => by simp at h
  | m :: l, hr, k, h => by
    have hr' : Rise l := (List.pairwise_cons.1 hr).2
    have hm := (List.pairwise_cons.1 hr).1
    unfold low
    split
    · rename_i hlt
      cases k with
      | zero => simpa using hlt
      | succ k =>
        have := low_spec (y := y) hr' k (by simpa using h)
        simpa using this
    · rename_i hge
      constructor
      · intro h; omega
      · intro h2
        cases k with
        | zero => exact absurd h2 hge
        | succ k =>
          have hk : k < l.length := by simpa using h
          have := hm l[k] (List.getElem_mem hk)
          simp at h2; omega
def isAt (y : Int) (l : List M) : Bool := match l[low y l]? with
  | some m => m.at' == y
  | none => false

set_option maxHeartbeats 4000000 in
theorem bsearch_told (l : List M) (hr : Rise l) (y : Int) (hl : l.length ≤ 1000000) :
    Told P T slices_BinarySearchFunc_api_Mark_api_Mark_int [] [.lst t_api_Mark (l.map encM), .int .i64 y, .fn side_find_1 []] (.tup [.int .i64 (low y l : Nat), .bool (isAt y l)]) [] := by
  refine told_of_ev (fn := slices_BinarySearchFunc_api_Mark_api_Mark_int_fn) tabOk mixed (by kernel_rfl) (by kernel_rfl) (by kernel_rfl) (by kernel_rfl) ?_
  have hlow := low_le y l
  refine LoopN.mk ⟨[0, 1, 2, 8, 9, 10], fun vs L => ∃ i j : Nat, vs = [.lst t_api_Mark (l.map encM), .int .i64 y, .fn side_find_1 [], .int .i64 (l.map encM).length, .int .i64 (i : Nat), .int .i64 (j : Nat)] ∧ L = [] ∧ i ≤ low y l ∧ low y l ≤ j ∧ j ≤ l.length,
    fun vs L => match vs with | [_, _, _, _, .int _ i, .int _ j] => j.toNat - i.toNat | _ => 0, [], [], rfl, ⟨0, (l.map encM).length, rfl, rfl, Nat.zero_le _, by rw [List.length_map]; exact hlow, by rw [List.length_map]; exact Nat.le_refl _⟩, ?_⟩
  rintro vs L ⟨i, j, rfl, rfl, h1, h2, h3⟩
  refine IfB.mk (fun h4 => ?_) (fun h4 => ?_)
  · have hij : i < j := by have := of_decide_eq_true h4; omega
    refine fits (wrap64 (by omega) (by omega)) ?_
    refine Fits.mk ?_
    refine Need.mk (by decide) ?_
    refine Fits.mk ?_
    have eh : IntKind.i64.wrap ((IntKind.u64.wrap ((i : Int) + j)).fdiv (2 ^ min (Int.toNat 1) IntKind.u64.bits)) = (((i + j) / 2 : Nat) : Int) := by
      rw [IntKind.wrap_u64, show (2 : Int) ^ min (Int.toNat 1) IntKind.u64.bits = 2 from rfl, Int.fdiv_eq_ediv_of_nonneg _ (by omega), IntKind.wrap_i64]
      omega
    rw [eh]
    generalize hq : (i + j) / 2 = q
    have hqj : q < l.length := by omega
    refine Idx.mk ⟨encM l[q], by omega, by simp [hqj], ?_⟩
    refine Choice.mk ⟨false, Choice.mk ⟨false, _, _, find1_told l[q] y, ?_⟩⟩
    have hs := low_spec (y := y) hr q hqj
    refine IfB.mk (fun h5 => ?_) (fun h5 => ?_)
    · have hlt : (l[q]).at' < y := by
        have := of_decide_eq_true h5
        unfold cmpI at this
        split at this
        · assumption
        · split at this <;> omega
      refine fits (wrap64 (by omega) (by omega)) ?_
      refine ⟨[], [], rfl, ⟨q + 1, j, ?_, rfl, by have := hs.2 hlt; omega, h2, h3⟩, ?_⟩
      · rw [show (((q + 1 : Nat)) : Int) = ((q : Nat) : Int) + 1 by omega]; rfl
      · show ((j : Nat) : Int).toNat - (((q : Nat) : Int) + 1).toNat < ((j : Nat) : Int).toNat - ((i : Nat) : Int).toNat
        omega
    · have hge : ¬ (l[q]).at' < y := by
        intro hlt
        have := of_decide_eq_false h5
        simp [cmpI, hlt] at this
      refine ⟨[], [], rfl, ⟨i, q, rfl, rfl, h1, by have := fun h => hge (hs.1 h); omega, by omega⟩, ?_⟩
      show ((q : Nat) : Int).toNat - ((i : Nat) : Int).toNat < ((j : Nat) : Int).toNat - ((i : Nat) : Int).toNat
      omega
  · have hij : i = low y l := by have := of_decide_eq_false h4; omega
    subst hij
    refine IfB.mk (fun h5 => ?_) (fun h5 => ?_)
    · have hlt : low y l < l.length := by have := of_decide_eq_true h5; simp at this; omega
      repeat refine IfB.tt rfl ?_
      refine Idx.mk ⟨encM l[low y l], by omega, by simp [hlt], ?_⟩
      repeat refine IfB.tt rfl ?_
      refine Choice.mk ⟨false, Choice.mk ⟨false, _, _, find1_told _ y, ?_⟩⟩
      repeat refine IfB.tt rfl ?_
      refine RetN.mk ⟨[], rfl, ?_, rfl⟩
      show AV.tup [.int .i64 _, .bool (cmpI _ y == 0)] = AV.tup [.int .i64 _, .bool (isAt y l)]
      have : (cmpI (l[low y l]).at' y == 0) = isAt y l := by
        unfold isAt
        rw [List.getElem?_eq_getElem hlt]
        simp only [cmpI]
        split
        · rename_i h; simp; omega
        · split
          · rename_i h; simp; omega
          · simp; omega
      rw [this]
    · have hge : ¬ low y l < l.length := by have := of_decide_eq_false h5; simp at this; omega
      repeat refine IfB.ff rfl ?_
      refine RetN.mk ⟨[], rfl, ?_, rfl⟩
      show AV.tup [.int .i64 _, .bool false] = AV.tup [.int .i64 _, .bool (isAt y l)]
      have : isAt y l = false := by
        unfold isAt
        rw [List.getElem?_eq_none (by omega)]
      rw [this]
end Go.Ev.W
namespace Go.Ev.W
open Go.Ev Go.Ev.N

theorem find_told (l : List M) (hr : Rise l) (y : Int) (hl : l.length ≤ 1000000) :
    Told P T side_find [] [.lst t_api_Mark (l.map encM), .int .i64 y] (.tup [.int .i64 (low y l : Nat), .bool (isAt y l)]) [] := by
  refine told_of_ev (fn := side_find_fn) tabOk mixed (by kernel_rfl) (by kernel_rfl) (by kernel_rfl) (by kernel_rfl) ?_
  refine Choice.mk ⟨false, Choice.mk ⟨false, _, _, bsearch_told l hr y hl, ?_⟩⟩
  exact RetN.mk ⟨[], rfl, rfl, rfl⟩

def putM (l : List M) (m : M) : List M := if isAt m.at' l = true then l.set (low m.at' l) m else l.take (low m.at' l) ++ (m :: l.drop (low m.at' l))

theorem isAt_lt {y : Int} {l : List M} (h : isAt y l = true) : low y l < l.length := by
  unfold isAt at h
  split at h
  · rename_i m hm; exact (List.getElem?_eq_some_iff.1 hm).1
  · cases h

set_option maxHeartbeats 4000000 in
theorem put_told (l : List M) (hr : Rise l) (m : M) (hl : l.length ≤ 1000000) : Told P T side_Put [] [.lst t_api_Mark (l.map encM), encM m] (.ref 0) [.row t_api_Mark ((putM l m).map encM)] := by
  have hml : (l.map encM).length = l.length := by simp
  refine told_of_ev (fn := side_Put_fn) tabOk mixed (by kernel_rfl) (by kernel_rfl) (by kernel_rfl) (by kernel_rfl) ?_
  refine Choice.mk ⟨false, Choice.mk ⟨false, _, _, clone_Mark (l.map encM) (by omega), ?_⟩⟩
  refine Choice.mk ⟨false, Choice.mk ⟨false, _, _, find_told l hr m.at' hl, ?_⟩⟩
  refine IfB.mk (fun h1 => ?_) (fun h1 => ?_)
  · have hlt := isAt_lt h1
    refine InB.mk (by omega) (by omega) ?_
    refine RetN.mk ⟨[2], rfl, rfl, ?_⟩
    show [Blk.row t_api_Mark ((l.map encM).set (low m.at' l) (encM m))] = _
    rw [putM, if_pos h1, List.map_set]
  · have h1 : isAt m.at' l = false := h1
    have hi := insert_Mark (l.map encM) (encM m) (low m.at' l) (by rw [hml]; exact low_le _ _) (by omega)
    refine Choice.mk ⟨true, Choice.mk ⟨false, _, _, hi, ?_⟩⟩
    refine RetN.mk ⟨[4], rfl, rfl, ?_⟩
    show [Blk.row t_api_Mark ((l.map encM).take (low m.at' l) ++ (encM m :: (l.map encM).drop (low m.at' l)))] = _
    rw [putM, if_neg (by rw [h1]; decide)]
    simp [List.map_take, List.map_drop]

def takeM (l : List M) (y : Int) : List M := l.take (low y l) ++ l.drop (low y l + 1)
def clsM (l : List M) (y : Int) : Int := match l[low y l]? with | some m => m.cl | none => 0

set_option maxHeartbeats 4000000 in
theorem take_no (l : List M) (hr : Rise l) (y : Int) (hl : l.length ≤ 1000000) (h : isAt y l = false) : Told P T side_Take [] [.lst t_api_Mark (l.map encM), .int .i64 y] (.tup [.ref 0, .int .i64 0, .bool false]) [.row t_api_Mark (l.map encM)] := by
  have hml : (l.map encM).length = l.length := by simp
  refine told_of_ev (fn := side_Take_fn) tabOk mixed (by kernel_rfl) (by kernel_rfl) (by kernel_rfl) (by kernel_rfl) ?_
  refine Choice.mk ⟨false, Choice.mk ⟨false, _, _, clone_Mark (l.map encM) (by omega), ?_⟩⟩
  refine Choice.mk ⟨false, Choice.mk ⟨false, _, _, find_told l hr y hl, ?_⟩⟩
  refine IfB.tt (by rw [h]; rfl) ?_
  exact RetN.mk ⟨[1], rfl, rfl, rfl⟩
set_option maxHeartbeats 4000000 in
theorem take_yes (l : List M) (hr : Rise l) (y : Int) (hl : l.length ≤ 1000000) (h : isAt y l = true) : Told P T side_Take [] [.lst t_api_Mark (l.map encM), .int .i64 y] (.tup [.sub 0 0 (l.length - 1), .int .i64 (clsM l y), .bool true])
    [.row t_api_Mark ((takeM l y).map encM ++ [zeroE T t_api_Mark])] := by
  have hml : (l.map encM).length = l.length := by simp
  have hlt := isAt_lt h
  refine told_of_ev (fn := side_Take_fn) tabOk mixed (by kernel_rfl) (by kernel_rfl) (by kernel_rfl) (by kernel_rfl) ?_
  refine Choice.mk ⟨false, Choice.mk ⟨false, _, _, clone_Mark (l.map encM) (by omega), ?_⟩⟩
  refine Choice.mk ⟨false, Choice.mk ⟨false, _, _, find_told l hr y hl, ?_⟩⟩
  refine IfB.ff (by rw [h]; rfl) ?_
  refine fits (wrap64 (by omega) (by omega)) ?_
  refine Choice.mk ⟨true, Choice.mk ⟨false, _, _, delete_Mark (l.map encM) (low y l) (by omega) (by omega), ?_⟩⟩
  refine Idx.mk ⟨encM l[low y l], by omega, by simp [hlt], ?_⟩
  refine Sure.mk (by kernel_rfl) ?_
  refine RetN.mk ⟨[1], rfl, ?_, ?_⟩
  · show AV.tup [.sub 0 0 ((l.map encM).length - 1), .int .i64 (l[low y l]).cl, .bool true] = AV.tup [.sub 0 0 (l.length - 1), .int .i64 (clsM l y), .bool true]
    have : clsM l y = (l[low y l]).cl := by unfold clsM; rw [List.getElem?_eq_getElem hlt]
    rw [hml, this]
  · show [Blk.row t_api_Mark ((l.map encM).take (low y l) ++ ((l.map encM).drop (low y l + 1) ++ [zeroE T t_api_Mark]))] = _
    simp [takeM, List.map_take, List.map_drop]
end Go.Ev.W
namespace Go.Ev.W
open Go.Ev Go.Ev.N

set_option maxHeartbeats 4000000 in
theorem sameMarks (xs ys : List M) (hx : xs.length ≤ 1000000) : Told P T ref8_SameMarks [] [.lst t_api_Mark (xs.map encM), .lst t_api_Mark (ys.map encM)] (.bool (decide (xs = ys))) [] := by
  refine told_of_ev (fn := ref8_SameMarks_fn) tabOk mixed (by kernel_rfl) (by kernel_rfl) (by kernel_rfl) (by kernel_rfl) ?_
  refine IfB.mk (fun hb => ?_) (fun hb => ?_)
  · refine RetN.mk ⟨[], rfl, ?_, rfl⟩
    show AV.bool false = AV.bool _
    rw [decide_eq_false]
    rintro rfl
    simp at hb
  · have hl : xs.length = ys.length := by simp at hb; omega
    refine LoopN.mk ⟨[0,1,5], fun vs L => ∃ i : Nat, vs = [.lst t_api_Mark (xs.map encM), .lst t_api_Mark (ys.map encM), .int .i64 i] ∧ i ≤ xs.length ∧ L = [] ∧ xs.take i = ys.take i, fun vs L => match vs with | [_, _, .int _ i] => xs.length - i.toNat | _ => 0, [], [], rfl, ⟨0, rfl, by omega, rfl, rfl⟩, ?_⟩
    rintro vs L ⟨i, rfl, hi, rfl, ht⟩
    refine IfB.mk (fun hb => ?_) (fun hb => ?_)
    · have hlt : i < xs.length := by simpa using hb
      refine Idx.mk ⟨encM xs[i], by omega, by simp [hlt], ?_⟩
      refine Idx.mk ⟨encM ys[i], by omega, by simp [hl ▸ hlt], ?_⟩
      refine Sure.mk (by kernel_rfl) ?_
      refine IfB.mk (fun hc => ?_) (fun hc => ?_)
      · refine RetN.mk ⟨[], rfl, ?_, rfl⟩
        show AV.bool false = AV.bool _
        rw [decide_eq_false]
        rintro rfl
        simp at hc
      · refine fits (wrap64 (by omega) (by omega)) ?_
        refine ⟨[], [], rfl, ⟨i + 1, rfl, hlt, rfl, ?_⟩, ?_⟩
        · have : xs[i] = ys[i] := by
            cases hx : xs[i]; cases hy : ys[i]
            rw [hx, hy] at hc
            simpa [encM] using hc
          rw [List.take_succ_eq_append_getElem hlt, List.take_succ_eq_append_getElem (hl ▸ hlt), ht, this]
        · show xs.length - (((i : Int) + 1).toNat) < xs.length - ((i : Int)).toNat
          omega
    · have hge : ¬ i < xs.length := by simpa using hb
      refine RetN.mk ⟨[], rfl, ?_, rfl⟩
      show AV.bool true = AV.bool _
      have : i = xs.length := by omega
      subst this
      rw [List.take_length, hl, List.take_length] at ht
      subst ht
      simp

theorem low_at {y : Int} {l : List M} (hr : Rise l) {k : Nat} (hk : k < l.length) : (l[k]).at' = y ↔ (k = low y l ∧ isAt y l = true) := by
  have hs := low_spec (y := y) hr
  constructor
  · intro e
    have h1 : ¬ k < low y l := fun h => by have := (hs k hk).1 h; omega
    have h2 : k = low y l := by
      rcases Nat.lt_or_ge (low y l) k with h | h
      · exfalso
        have h3 : low y l < l.length := by omega
        have h4 : ¬ (l[low y l]).at' < y := fun h5 => by have := (hs _ h3).2 h5; omega
        have h5 := List.pairwise_iff_getElem.1 hr (low y l) k h3 hk h
        omega
      · omega
    refine ⟨h2, ?_⟩
    subst h2
    unfold isAt
    rw [List.getElem?_eq_getElem hk]
    simpa using e
  · rintro ⟨rfl, h⟩
    unfold isAt at h
    rw [List.getElem?_eq_getElem hk] at h
    simpa using h

def skipAt (y : Int) (l : List M) : Nat := if isAt y l = true then 1 else 0
def outM (l : List M) (m : M) (i : Nat) : List M := if i ≤ low m.at' l then l.take i else l.take (low m.at' l) ++ (m :: (l.take i).drop (low m.at' l + skipAt m.at' l))
theorem outM_zero (l : List M) (m : M) : outM l m 0 = [] := by simp [outM]
theorem outM_len (l : List M) (m : M) (i : Nat) : (outM l m i).length ≤ i + 1 := by
  unfold outM
  split
  · simp; omega
  · simp; omega
theorem outM_below {l : List M} {m : M} {i : Nat} (h : i < low m.at' l) (hl : i < l.length) : outM l m (i + 1) = outM l m i ++ [l[i]] := by
  unfold outM
  rw [if_pos (by omega), if_pos (by omega), List.take_succ_eq_append_getElem hl]
theorem outM_at {l : List M} {m : M} (hl : low m.at' l < l.length) : outM l m (low m.at' l + 1) = outM l m (low m.at' l) ++ (m :: if isAt m.at' l = true then [] else [l[low m.at' l]]) := by
  unfold outM skipAt
  rw [if_neg (by omega), if_pos (Nat.le_refl _)]
  split
  · rw [List.drop_eq_nil_of_le (by simp; omega)]
  · rw [List.take_succ_eq_append_getElem hl, Nat.add_zero]
    have : (l.take (low m.at' l)).length = low m.at' l := by rw [List.length_take]; omega
    congr 2
    rw [List.drop_append_of_le_length (by omega), List.drop_eq_nil_of_le (by omega), List.nil_append]
theorem outM_above {l : List M} {m : M} {i : Nat} (h : low m.at' l < i) (hl : i < l.length) : outM l m (i + 1) = outM l m i ++ [l[i]] := by
  unfold outM
  rw [if_neg (by omega), if_neg (by omega), List.take_succ_eq_append_getElem hl, List.append_assoc, List.cons_append]
  congr 2
  rw [List.drop_append_of_le_length]
  unfold skipAt
  split <;> simp <;> omega
theorem outM_end {l : List M} {m : M} (h : low m.at' l < l.length) : outM l m l.length = putM l m := by
  unfold outM putM skipAt
  rw [if_neg (by omega), List.take_length]
  split
  · rw [List.set_eq_take_append_cons_drop, if_pos h]
  · rw [Nat.add_zero]
theorem outM_last {l : List M} {m : M} (h : ¬ low m.at' l < l.length) : outM l m l.length ++ [m] = putM l m := by
  have := low_le m.at' l
  have e : low m.at' l = l.length := by omega
  have ha : isAt m.at' l = false := by unfold isAt; rw [List.getElem?_eq_none (by omega)]
  unfold outM putM
  rw [if_pos (by omega), if_neg (by rw [ha]; decide), e]
  simp

set_option maxHeartbeats 8000000 in
theorem putMark_told (l : List M) (hr : Rise l) (m : M) (hl : l.length ≤ 1000000) : Told P T ref8_PutMark [] [.lst t_api_Mark (l.map encM), encM m] (.ref 0) [.row t_api_Mark ((putM l m).map encM)] := by
  have hml : (l.map encM).length = l.length := by simp
  have hs := low_spec (y := m.at') hr
  refine told_of_ev (fn := ref8_PutMark_fn) tabOk mixed (by kernel_rfl) (by kernel_rfl) (by kernel_rfl) (by kernel_rfl) ?_
  refine LoopN.mk ⟨[0, 3, 5, 6, 7], fun vs L => ∃ i : Nat, vs = [.lst t_api_Mark (l.map encM), .ptr 0 0 0, .ref 1, .bool (decide (low m.at' l < i)), .int .i64 (i : Nat)] ∧ L = [.var (encM m), .row t_api_Mark ((outM l m i).map encM)] ∧ i ≤ l.length,
    fun vs L => match vs with | [_, _, _, _, .int _ i] => l.length - i.toNat | _ => 0, [], [0, 2], rfl, ⟨0, ?_, by rw [outM_zero]; rfl, Nat.zero_le _⟩, ?_⟩
  · have : decide (low m.at' l < 0) = false := by simp
    rw [this]; rfl
  rintro vs L ⟨i, rfl, rfl, hi⟩
  have hol := outM_len l m i
  have holm : ((outM l m i).map encM).length = (outM l m i).length := by simp
  refine IfB.mk (fun h1 => ?_) (fun h1 => ?_)
  · have hlt : i < l.length := by have := of_decide_eq_true h1; rw [hml] at this; omega
    have hat := low_at (y := m.at') hr hlt
    have hix : (l.map encM)[((i : Nat) : Int).toNat]? = some (encM l[i]) := by simp [hlt]
    rcases Nat.lt_trichotomy (low m.at' l) i with hc | hc | hc
    · rw [show decide (low m.at' l < i) = true by simp [hc]]
      repeat refine IfB.ff rfl ?_
      refine Sure.mk (by kernel_rfl) ?_
      refine IfB.ff rfl ?_
      refine Idx.mk ⟨encM l[i], by omega, hix, ?_⟩
      refine Sure.mk (by kernel_rfl) ?_
      refine IfB.tt (by simp; rw [hat]; omega) ?_
      refine Idx.mk ⟨encM l[i], by omega, hix, ?_⟩
      refine Room.mk (by simp; omega) ?_
      refine fits (wrap64 (by omega) (by omega)) ?_
      refine ⟨[], [0, 3], rfl, ⟨i + 1, ?_, ?_, hlt⟩, ?_⟩
      · rw [show decide (low m.at' l < i + 1) = true by simp; omega]; rfl
      · show [Blk.var _, Blk.row _ _] = [Blk.var _, Blk.row _ _]; rw [outM_above hc hlt, List.map_append]; rfl
      · show l.length - (((i : Int) + 1).toNat) < l.length - ((i : Int)).toNat
        omega
    · rw [show decide (low m.at' l < i) = false by simp; omega]
      have hge : ¬ l[i].at' < m.at' := fun h => by have := (hs i hlt).2 h; omega
      repeat refine IfB.tt rfl ?_
      refine Idx.mk ⟨encM l[i], by omega, hix, ?_⟩
      repeat refine IfB.tt rfl ?_
      refine Sure.mk (by kernel_rfl) ?_
      refine IfB.tt (by simp; omega) ?_
      refine Room.mk (by simp; omega) ?_
      refine Idx.mk ⟨encM l[i], by omega, hix, ?_⟩
      refine Sure.mk (by kernel_rfl) ?_
      have hol2 : (outM l m i ++ [m]).length ≤ i + 2 := by simp; omega
      refine IfB.mk (fun h2 => ?_) (fun h2 => ?_)
      · have hna : isAt m.at' l = false := by
          cases ha : isAt m.at' l
          · rfl
          · have := hat.2 ⟨hc.symm, ha⟩; simp [this] at h2
        refine Idx.mk ⟨encM l[i], by omega, hix, ?_⟩
        refine Room.mk (by simp; omega) ?_
        refine fits (wrap64 (by omega) (by omega)) ?_
        refine ⟨[], [0, 5], rfl, ⟨i + 1, ?_, ?_, hlt⟩, ?_⟩
        · rw [show decide (low m.at' l < i + 1) = true by simp; omega]; rfl
        · show [Blk.var _, Blk.row _ _] = [Blk.var _, Blk.row _ _]
          subst hc
          rw [outM_at hlt, hna, List.map_append]
          simp; exact ⟨rfl, rfl, rfl⟩
        · show l.length - (((i : Int) + 1).toNat) < l.length - ((i : Int)).toNat
          omega
      · have hya : isAt m.at' l = true := by
          have : l[i].at' = m.at' := by simpa using h2
          exact (hat.1 this).2
        refine fits (wrap64 (by omega) (by omega)) ?_
        refine ⟨[], [0, 3], rfl, ⟨i + 1, ?_, ?_, hlt⟩, ?_⟩
        · rw [show decide (low m.at' l < i + 1) = true by simp; omega]; rfl
        · show [Blk.var _, Blk.row _ _] = [Blk.var _, Blk.row _ _]
          subst hc
          rw [outM_at hlt, hya, List.map_append]
          rfl
        · show l.length - (((i : Int) + 1).toNat) < l.length - ((i : Int)).toNat
          omega
    · rw [show decide (low m.at' l < i) = false by simp; omega]
      have hge : l[i].at' < m.at' := (hs i hlt).1 hc
      repeat refine IfB.tt rfl ?_
      refine Idx.mk ⟨encM l[i], by omega, hix, ?_⟩
      repeat refine IfB.tt rfl ?_
      refine Sure.mk (by kernel_rfl) ?_
      refine IfB.ff (by simp; omega) ?_
      refine Idx.mk ⟨encM l[i], by omega, hix, ?_⟩
      refine Sure.mk (by kernel_rfl) ?_
      refine IfB.tt (by simp; rw [hat]; omega) ?_
      refine Idx.mk ⟨encM l[i], by omega, hix, ?_⟩
      refine Room.mk (by simp; omega) ?_
      refine fits (wrap64 (by omega) (by omega)) ?_
      refine ⟨[], [0, 3], rfl, ⟨i + 1, ?_, ?_, hlt⟩, ?_⟩
      · rw [show decide (low m.at' l < i + 1) = false by simp; omega]; rfl
      · show [Blk.var _, Blk.row _ _] = [Blk.var _, Blk.row _ _]; rw [outM_below hc hlt, List.map_append]; rfl
      · show l.length - (((i : Int) + 1).toNat) < l.length - ((i : Int)).toNat
        omega
  · have hle : l.length ≤ i := by have := of_decide_eq_false h1; rw [hml] at this; omega
    obtain rfl : i = l.length := by omega
    by_cases hlo : low m.at' l < l.length
    · rw [show decide (low m.at' l < l.length) = true by simp; exact hlo]
      refine IfB.ff rfl ?_
      refine RetN.mk ⟨[1], rfl, rfl, ?_⟩
      rw [← outM_end hlo]; rfl
    · rw [show decide (low m.at' l < l.length) = false by simp; omega]
      refine IfB.tt rfl ?_
      refine Room.mk (by simp; omega) ?_
      refine RetN.mk ⟨[3], rfl, rfl, ?_⟩
      show [Blk.row _ _] = [Blk.row _ _]; rw [← outM_last hlo, List.map_append]; rfl

theorem isAt_get {y : Int} {l : List M} (h : isAt y l = true) : ∃ x, l[low y l]? = some x ∧ x.at' = y := by
  have hlt := isAt_lt h
  refine ⟨l[low y l], List.getElem?_eq_getElem hlt, ?_⟩
  unfold isAt at h
  rw [List.getElem?_eq_getElem hlt] at h
  simpa using h

set_option maxHeartbeats 4000000 in
theorem takeMark_no (l : List M) (hr : Rise l) (y : Int) (hl : l.length ≤ 1000000) (h : isAt y l = false) : Told P T ref8_TakeMark [] [.lst t_api_Mark (l.map encM), .int .i64 y] (.tup [.lst t_api_Mark (l.map encM), .int .i64 0, .bool false]) [] := by
  have hml : (l.map encM).length = l.length := by simp
  refine told_of_ev (fn := ref8_TakeMark_fn) tabOk mixed (by kernel_rfl) (by kernel_rfl) (by kernel_rfl) (by kernel_rfl) ?_
  refine LoopN.mk ⟨[0, 1, 7], fun vs L => ∃ i : Nat, vs = [.lst t_api_Mark (l.map encM), .int .i64 y, .int .i64 (i : Nat)] ∧ L = [] ∧ i ≤ l.length,
    fun vs L => match vs with | [_, _, .int _ i] => l.length - i.toNat | _ => 0, [], [], rfl, ⟨0, rfl, rfl, Nat.zero_le _⟩, ?_⟩
  rintro vs L ⟨i, rfl, rfl, hi⟩
  refine IfB.mk (fun h1 => ?_) (fun h1 => ?_)
  · have hlt : i < l.length := by have := of_decide_eq_true h1; rw [hml] at this; omega
    have hat := low_at (y := y) hr hlt
    refine Idx.mk ⟨encM l[i], by omega, by simp [hlt], ?_⟩
    refine IfB.ff (by simp; rw [hat]; simp [h]) ?_
    refine fits (wrap64 (by omega) (by omega)) ?_
    refine ⟨[], [], rfl, ⟨i + 1, rfl, rfl, hlt⟩, ?_⟩
    show l.length - (((i : Int) + 1).toNat) < l.length - ((i : Int)).toNat
    omega
  · refine RetN.mk ⟨[], rfl, rfl, rfl⟩

set_option maxHeartbeats 4000000 in
theorem takeMark_yes (l : List M) (hr : Rise l) (y : Int) (hl : l.length ≤ 1000000) (h : isAt y l = true) : Told P T ref8_TakeMark [] [.lst t_api_Mark (l.map encM), .int .i64 y] (.tup [.ref 0, .int .i64 (clsM l y), .bool true]) [.row t_api_Mark ((takeM l y).map encM)] := by
  have hml : (l.map encM).length = l.length := by simp
  have hlo := isAt_lt h
  refine told_of_ev (fn := ref8_TakeMark_fn) tabOk mixed (by kernel_rfl) (by kernel_rfl) (by kernel_rfl) (by kernel_rfl) ?_
  refine LoopN.mk ⟨[0, 1, 7], fun vs L => ∃ i : Nat, vs = [.lst t_api_Mark (l.map encM), .int .i64 y, .int .i64 (i : Nat)] ∧ L = [] ∧ i ≤ low y l,
    fun vs L => match vs with | [_, _, .int _ i] => l.length - i.toNat | _ => 0, [], [], rfl, ⟨0, rfl, rfl, Nat.zero_le _⟩, ?_⟩
  rintro vs L ⟨i, rfl, rfl, hi⟩
  have hlt : i < l.length := by omega
  have hat := low_at (y := y) hr hlt
  refine IfB.tt (by simp; omega) ?_
  refine Idx.mk ⟨encM l[i], by omega, by simp [hlt], ?_⟩
  refine IfB.mk (fun h2 => ?_) (fun h2 => ?_)
  · have hil : i = low y l := (hat.1 (by simpa using h2)).1
    refine Cut.mk (by omega) (by omega) (by rw [hml]; omega) ?_
    refine Room.mk (by simp; omega) ?_
    refine fits (wrap64 (by omega) (by omega)) ?_
    refine Cut.mk (by omega) (by rw [hml]; omega) (by omega) ?_
    refine Room.mk (by simp; omega) ?_
    refine Idx.mk ⟨encM l[i], by omega, by simp [hlt], ?_⟩
    refine Sure.mk (by kernel_rfl) ?_
    refine RetN.mk ⟨[2], rfl, ?_, ?_⟩
    · have : clsM l y = l[i].cl := by unfold clsM; rw [← hil, List.getElem?_eq_getElem hlt]
      rw [this]; rfl
    · show [Blk.row _ _] = [Blk.row _ _]
      unfold takeM
      rw [← hil, List.map_append, List.map_take, List.map_drop]
      rw [show ((i : Int) + 1).toNat = i + 1 by omega, List.nil_append]
      rfl
  · have : ¬ l[i].at' = y := by simpa using h2
    have hne : i ≠ low y l := fun e => this (hat.2 ⟨e, h⟩)
    refine fits (wrap64 (by omega) (by omega)) ?_
    refine ⟨[], [], rfl, ⟨i + 1, rfl, rfl, by omega⟩, ?_⟩
    show l.length - (((i : Int) + 1).toNat) < l.length - ((i : Int)).toNat
    omega
end Go.Ev.W
namespace Go.Ev.W
open Go.Ev Go.Ev.N

theorem putM_len (l : List M) (m : M) : (putM l m).length ≤ l.length + 1 := by
  unfold putM
  split
  · simp
  · simp; have := low_le m.at' l; omega

theorem rise_put {l : List M} (hr : Rise l) (m : M) : Rise (putM l m) := by
  have hs := low_spec (y := m.at') hr
  have hle := low_le m.at' l
  have hr' := List.pairwise_iff_getElem.1 hr
  have low1 : ∀ a ∈ l.take (low m.at' l), a.at' < m.at' := by
    intro a ha
    obtain ⟨i, hi, rfl⟩ := List.mem_iff_getElem.1 ha
    rw [List.length_take] at hi
    rw [List.getElem_take]
    exact (hs i (by omega)).1 (by omega)
  have key : ∀ k', low m.at' l ≤ k' → (∀ b ∈ l.drop k', m.at' < b.at') → Rise (l.take (low m.at' l) ++ (m :: l.drop k')) := by
    intro k' hk hb
    refine List.pairwise_append.2 ⟨List.Pairwise.sublist (List.take_sublist _ _) hr, List.pairwise_cons.2 ⟨hb, List.Pairwise.sublist (List.drop_sublist _ _) hr⟩, ?_⟩
    intro a ha b hb'
    have h1 := low1 a ha
    rcases List.mem_cons.1 hb' with rfl | h2
    · exact h1
    · have := hb b h2; omega
  unfold putM
  split
  · rename_i h
    have hlt := isAt_lt h
    rw [List.set_eq_take_append_cons_drop, if_pos hlt]
    refine key _ (by omega) ?_
    intro b hb
    obtain ⟨i, hi, rfl⟩ := List.mem_iff_getElem.1 hb
    rw [List.length_drop] at hi
    rw [List.getElem_drop]
    have h1 := hr' (low m.at' l) (low m.at' l + 1 + i) hlt (by omega) (by omega)
    have h2 := (low_at (y := m.at') hr hlt).2 ⟨rfl, h⟩
    omega
  · rename_i h
    refine key _ (Nat.le_refl _) ?_
    intro b hb
    obtain ⟨i, hi, rfl⟩ := List.mem_iff_getElem.1 hb
    rw [List.length_drop] at hi
    rw [List.getElem_drop]
    have h3 : ¬ (l[low m.at' l + i]).at' < m.at' := fun h5 => by have := (hs _ (by omega)).2 h5; omega
    have h4 : ¬ (l[low m.at' l + i]).at' = m.at' := fun h5 => by have := (low_at hr (by omega)).1 h5; exact h this.2
    omega
end Go.Ev.W
namespace Go.Ev.W
open Go.Ev Go.Ev.N

def dget (y : Int) : List M → Option Int
  | [] => none
  | m :: ds => bif y == m.at' then some m.cl else dget y ds
def dset (x : M) : List M → List M
  | [] => [x]
  | m :: ds => bif x.at' == m.at' then x :: ds else m :: dset x ds
def ddel (y : Int) : List M → List M
  | [] => []
  | m :: ds => bif y == m.at' then ds else m :: ddel y ds
def encD (ds : List M) : List (AV × AV) := ds.map fun m => (.int .i64 m.at', .int .i64 m.cl)
theorem mget_encD (y : Int) : ∀ ds, mget (encD ds) (.int .i64 y) = (dget y ds).map fun c => .int .i64 c
  | [] => rfl
  | m :: ds => by
    show (bif (y == m.at') then some (AV.int .i64 m.cl) else mget (encD ds) (.int .i64 y)) = _
    unfold dget
    cases y == m.at' with
    | true => rfl
    | false => exact mget_encD y ds
theorem mset_encD (x : M) : ∀ ds, mset (encD ds) (.int .i64 x.at') (.int .i64 x.cl) = encD (dset x ds)
  | [] => rfl
  | m :: ds => by
    show (bif (x.at' == m.at') then (AV.int .i64 x.at', AV.int .i64 x.cl) :: encD ds else (AV.int .i64 m.at', AV.int .i64 m.cl) :: mset (encD ds) (.int .i64 x.at') (.int .i64 x.cl)) = _
    unfold dset
    cases x.at' == m.at' with
    | true => rfl
    | false => show _ :: _ = _; rw [mset_encD x ds]; rfl
theorem mdel_encD (y : Int) : ∀ ds, mdel (encD ds) (.int .i64 y) = encD (ddel y ds)
  | [] => rfl
  | m :: ds => by
    show (bif (y == m.at') then encD ds else (AV.int .i64 m.at', AV.int .i64 m.cl) :: mdel (encD ds) (.int .i64 y)) = _
    unfold ddel
    cases y == m.at' with
    | true => rfl
    | false => show _ :: _ = _; rw [mdel_encD y ds]; rfl

/-- A map's entries are a row's marks. -/
def Same (ds l : List M) : Prop := ds.Pairwise (fun a b => a.at' ≠ b.at') ∧ ∀ m, m ∈ ds ↔ m ∈ l
theorem dget_mem {y c : Int} : ∀ {ds : List M}, ds.Pairwise (fun a b => a.at' ≠ b.at') → (dget y ds = some c ↔ (⟨y, c⟩ : M) ∈ ds)
  | [], _ => by simp [dget]
  | m :: ds, h => by
    obtain ⟨h1, h2⟩ := List.pairwise_cons.1 h
    unfold dget
    cases he : y == m.at' with
    | true =>
      have he := eq_of_beq he
      subst he
      constructor
      · intro e; simp at e; subst e; cases m; simp
      · intro e
        rcases List.mem_cons.1 e with e | e
        · rw [← e]; rfl
        · exact absurd (rfl : m.at' = m.at') (h1 (⟨m.at', c⟩ : M) e)
    | false =>
      have hne : y ≠ m.at' := by simpa using he
      rw [cond_false, dget_mem h2]
      constructor
      · intro e; simp [e]
      · intro e
        rcases List.mem_cons.1 e with e | e
        · exact absurd (by rw [← e]) hne
        · exact e
theorem dset_mem {x : M} : ∀ {ds : List M}, ds.Pairwise (fun a b => a.at' ≠ b.at') → (dset x ds).Pairwise (fun a b => a.at' ≠ b.at') ∧ ∀ m, m ∈ dset x ds ↔ (m = x ∨ (m ∈ ds ∧ m.at' ≠ x.at'))
  | [], _ => by simp [dset]
  | a :: ds, h => by
    obtain ⟨h1, h2⟩ := List.pairwise_cons.1 h
    unfold dset
    cases he : x.at' == a.at' with
    | true =>
      have he := eq_of_beq he
      refine ⟨List.pairwise_cons.2 ⟨fun b hb => by rw [he]; exact h1 b hb, h2⟩, fun m => ?_⟩
      constructor
      · intro hm
        rcases List.mem_cons.1 hm with rfl | hm
        · exact .inl rfl
        · exact .inr ⟨by simp [hm], by rw [he]; exact (h1 m hm).symm⟩
      · rintro (rfl | ⟨hm, hne⟩)
        · simp
        · rcases List.mem_cons.1 hm with rfl | hm
          · exact absurd he.symm hne
          · simp [hm]
    | false =>
      have hne : x.at' ≠ a.at' := by simpa using he
      obtain ⟨i1, i2⟩ := dset_mem (x := x) h2
      refine ⟨List.pairwise_cons.2 ⟨fun b hb => ?_, i1⟩, fun m => ?_⟩
      · rcases (i2 b).1 hb with rfl | ⟨hb, _⟩
        · exact hne.symm
        · exact h1 b hb
      · constructor
        · intro hm
          rcases List.mem_cons.1 hm with rfl | hm
          · exact .inr ⟨by simp, hne.symm⟩
          · rcases (i2 m).1 hm with e | ⟨e1, e2⟩
            · exact .inl e
            · exact .inr ⟨by simp [e1], e2⟩
        · rintro (rfl | ⟨hm, hn⟩)
          · exact List.mem_cons_of_mem _ ((i2 _).2 (.inl rfl))
          · rcases List.mem_cons.1 hm with rfl | hm
            · simp
            · exact List.mem_cons_of_mem _ ((i2 _).2 (.inr ⟨hm, hn⟩))
theorem ddel_mem {y : Int} : ∀ {ds : List M}, ds.Pairwise (fun a b => a.at' ≠ b.at') → (ddel y ds).Pairwise (fun a b => a.at' ≠ b.at') ∧ ∀ m, m ∈ ddel y ds ↔ (m ∈ ds ∧ m.at' ≠ y)
  | [], _ => by simp [ddel]
  | a :: ds, h => by
    obtain ⟨h1, h2⟩ := List.pairwise_cons.1 h
    unfold ddel
    cases he : y == a.at' with
    | true =>
      have he := eq_of_beq he
      refine ⟨h2, fun m => ⟨fun hm => ⟨by simp [show m ∈ ds from hm], by rw [he]; exact (h1 m hm).symm⟩, fun ⟨hm, hne⟩ => ?_⟩⟩
      rcases List.mem_cons.1 hm with rfl | hm
      · exact absurd he.symm hne
      · exact hm
    | false =>
      have hne : y ≠ a.at' := by simpa using he
      obtain ⟨i1, i2⟩ := ddel_mem (y := y) h2
      refine ⟨List.pairwise_cons.2 ⟨fun b hb => h1 b ((i2 b).1 hb).1, i1⟩, fun m => ?_⟩
      constructor
      · intro hm
        rcases List.mem_cons.1 hm with rfl | hm
        · exact ⟨by simp, hne.symm⟩
        · exact ⟨List.mem_cons_of_mem _ ((i2 m).1 hm).1, ((i2 m).1 hm).2⟩
      · rintro ⟨hm, hn⟩
        rcases List.mem_cons.1 hm with rfl | hm
        · simp
        · exact List.mem_cons_of_mem _ ((i2 m).2 ⟨hm, hn⟩)

theorem rise_nodup {l : List M} (hr : Rise l) : l.Pairwise (fun a b => a.at' ≠ b.at') := hr.imp fun h => by omega
theorem nodup_at {l : List M} (h : l.Pairwise (fun a b => a.at' ≠ b.at')) : l.Nodup := h.imp fun hne e => hne (by rw [e])
theorem Same.len {ds l : List M} (s : Same ds l) (hr : Rise l) : ds.length = l.length :=
  ((List.perm_ext_iff_of_nodup (nodup_at s.1) (nodup_at (rise_nodup hr))).2 s.2).length_eq

/-- What stands at a place, and what there is. -/
theorem cls_mem {l : List M} (hr : Rise l) {y c : Int} : (isAt y l = true ∧ clsM l y = c) ↔ (⟨y, c⟩ : M) ∈ l := by
  constructor
  · rintro ⟨h1, h2⟩
    obtain ⟨x, hx, he⟩ := isAt_get h1
    unfold clsM at h2
    rw [hx] at h2
    have := List.mem_of_getElem? hx
    have hx' : x = ⟨y, c⟩ := by cases x; simp at he h2; rw [he, h2]
    rw [← hx']; exact this
  · intro h
    obtain ⟨k, hk, e⟩ := List.mem_iff_getElem.1 h
    have h3 := (low_at (y := y) hr hk).1 (by rw [e])
    refine ⟨h3.2, ?_⟩
    unfold clsM
    rw [← h3.1, List.getElem?_eq_getElem hk, e]
theorem mem_putM {l : List M} (hr : Rise l) (x : M) : ∀ m, m ∈ putM l x ↔ (m = x ∨ (m ∈ l ∧ m.at' ≠ x.at')) := by
  intro m
  have hle := low_le x.at' l
  have other : ∀ {k : Nat} (hk : k < l.length), (isAt x.at' l = true ∧ k = low x.at' l) ↔ (l[k]).at' = x.at' := fun hk => by rw [low_at hr hk]; exact ⟨fun ⟨a, b⟩ => ⟨b, a⟩, fun ⟨a, b⟩ => ⟨b, a⟩⟩
  unfold putM
  split
  · rename_i h
    have hlt := isAt_lt h
    rw [List.mem_iff_getElem]
    constructor
    · rintro ⟨k, hk, e⟩
      rw [List.length_set] at hk
      rw [List.getElem_set] at e
      split at e
      · exact .inl e.symm
      · rename_i hne
        refine .inr ⟨by rw [← e]; exact List.getElem_mem _, fun e2 => hne ?_⟩
        rw [← e] at e2
        exact ((other hk).2 e2).2.symm
    · rintro (rfl | ⟨hm, hne⟩)
      · exact ⟨low m.at' l, by simpa using hlt, by simp⟩
      · obtain ⟨k, hk, e⟩ := List.mem_iff_getElem.1 hm
        refine ⟨k, by simpa using hk, ?_⟩
        rw [List.getElem_set]
        split
        · rename_i h4
          exact absurd (by rw [← e]; exact (other hk).1 ⟨h, h4.symm⟩) hne
        · exact e
  · rename_i h
    have h : isAt x.at' l = false := by simpa using h
    have all : m ∈ l ↔ (m ∈ l.take (low x.at' l) ∨ m ∈ l.drop (low x.at' l)) := by
      rw [← List.mem_append, List.take_append_drop]
    have ne : m ∈ l → m.at' ≠ x.at' := by
      intro hm e
      obtain ⟨k, hk, e'⟩ := List.mem_iff_getElem.1 hm
      have := ((other hk).2 (by rw [e', e])).1
      rw [h] at this; cases this
    rw [List.mem_append, List.mem_cons]
    constructor
    · rintro (a | a | a)
      · exact .inr ⟨all.2 (.inl a), ne (all.2 (.inl a))⟩
      · exact .inl a
      · exact .inr ⟨all.2 (.inr a), ne (all.2 (.inr a))⟩
    · rintro (a | ⟨a, _⟩)
      · exact .inr (.inl a)
      · rcases all.1 a with a | a
        · exact .inl a
        · exact .inr (.inr a)
theorem mem_takeM {l : List M} (hr : Rise l) {y : Int} (h : isAt y l = true) : ∀ m, m ∈ takeM l y ↔ (m ∈ l ∧ m.at' ≠ y) := by
  intro m
  have hlt := isAt_lt h
  have hy := (low_at (y := y) hr hlt).2 ⟨rfl, h⟩
  have split' : l = l.take (low y l) ++ l[low y l] :: l.drop (low y l + 1) := by rw [← List.drop_eq_getElem_cons hlt, List.take_append_drop]
  have nd : l.Pairwise (fun a b => a.at' ≠ b.at') := rise_nodup hr
  rw [split'] at nd
  obtain ⟨n1, n2, n3⟩ := List.pairwise_append.1 nd
  obtain ⟨n4, n5⟩ := List.pairwise_cons.1 n2
  have hm : m ∈ l ↔ (m ∈ l.take (low y l) ∨ m = l[low y l] ∨ m ∈ l.drop (low y l + 1)) := by
    conv => lhs; rw [split']
    rw [List.mem_append, List.mem_cons]
  unfold takeM
  rw [List.mem_append, hm]
  constructor
  · rintro (a | a)
    · exact ⟨.inl a, fun e => n3 m a _ (List.mem_cons_self ..) (by rw [e, hy])⟩
    · exact ⟨.inr (.inr a), fun e => n4 m a (by rw [e, hy])⟩
  · rintro ⟨a | a | a, hne⟩
    · exact .inl a
    · exact absurd (by rw [a, hy]) hne
    · exact .inr a
theorem rise_take {l : List M} (hr : Rise l) (y : Int) : Rise (takeM l y) := by
  unfold takeM
  refine List.Pairwise.sublist ?_ hr
  conv => rhs; rw [← List.take_append_drop (low y l) l]
  refine List.Sublist.append_left ?_ _
  rw [← List.drop_drop]
  exact List.drop_sublist _ _
theorem Same.put {ds l : List M} (s : Same ds l) (hr : Rise l) (x : M) : Same (dset x ds) (putM l x) := by
  obtain ⟨i1, i2⟩ := dset_mem (x := x) s.1
  exact ⟨i1, fun m => by rw [i2, mem_putM hr, s.2]⟩
theorem Same.take {ds l : List M} (s : Same ds l) (hr : Rise l) {y : Int} (h : isAt y l = true) : Same (ddel y ds) (takeM l y) := by
  obtain ⟨i1, i2⟩ := ddel_mem (y := y) s.1
  exact ⟨i1, fun m => by rw [i2, mem_takeM hr h, s.2]⟩
theorem Same.no {ds l : List M} (s : Same ds l) (hr : Rise l) {y : Int} (h : isAt y l = false) : Same (ddel y ds) l := by
  obtain ⟨i1, i2⟩ := ddel_mem (y := y) s.1
  refine ⟨i1, fun m => ?_⟩
  rw [i2, s.2]
  refine ⟨fun a => a.1, fun a => ⟨a, fun e => ?_⟩⟩
  have := (cls_mem (y := y) (c := m.cl) hr).2 (by rw [← e]; exact a)
  rw [h] at this; cases this.1
/-- What the map tells is what stands there. -/
theorem Same.get {ds l : List M} (s : Same ds l) (hr : Rise l) (y : Int) : dget y ds = if isAt y l = true then some (clsM l y) else none := by
  split
  · rename_i h
    exact (dget_mem s.1).2 ((s.2 _).2 ((cls_mem hr).1 ⟨h, rfl⟩))
  · rename_i h
    cases hg : dget y ds with
    | none => rfl
    | some c => exact absurd ((cls_mem hr).2 ((s.2 _).1 ((dget_mem s.1).1 hg))).1 h
end Go.Ev.W
namespace Go.Ev.W
open Go.Ev Go.Ev.N
theorem Get.of {es : List (AV × AV)} {k : AV} {P : Option AV → Prop} {m v : Option AV} (h : m = v) (p : P v) : Get es k P m := ⟨h ▸ p⟩
/-- Keys that are told apart by a number. -/
def KeyOf (key : Int → AV) : Prop := ∀ x y, eqKey (key x) (key y) = (x == y)
theorem KeyOf.e {key : Int → AV} (h : KeyOf key) (x y : Int) : eqKey (key x) (key y) = (x == y) := h x y
theorem KeyOf.inj {key : Int → AV} (h : KeyOf key) {x y : Int} (e : key x = key y) : x = y := by
  have := h x y; rw [e, h y y] at this; simpa using this
/-- What a map says, by numbers. -/
structure MapIs (key : Int → AV) (es : List (AV × AV)) (g : Int → Option AV) : Prop where
  keys : ∀ p ∈ es, ∃ x, p.1 = key x
  get : ∀ y, mget es (key y) = g y
  uniq : (es.map (·.1)).Nodup
theorem MapIs.nil (key : Int → AV) : MapIs key [] fun _ => none := ⟨fun p h => by simp at h, fun _ => rfl, List.nodup_nil⟩
theorem mget_mset {key : Int → AV} (hk : KeyOf key) (x y : Int) (v : AV) : ∀ {es : List (AV × AV)}, (∀ p ∈ es, ∃ x, p.1 = key x) → mget (mset es (key x) v) (key y) = if y = x then some v else mget es (key y)
  | [], _ => by
    simp only [mset, mget, hk.e]
    by_cases h : y = x
    · simp [h]
    · rw [show (y == x) = false by simpa using h]; simp [h]
  | (k, u) :: es, h => by
    obtain ⟨z, hz⟩ := h (k, u) (by simp)
    simp only at hz
    subst hz
    have ih := mget_mset hk x y v (es := es) fun p hp => h p (by simp [hp])
    simp only [mset, hk.e]
    by_cases h1 : x = z
    · subst h1
      simp only [beq_self_eq_true, cond_true, mget, hk.e]
      by_cases h2 : y = x
      · simp [h2]
      · rw [show (y == x) = false by simpa using h2]; simp [h2]
    · rw [show (x == z) = false by simpa using h1]
      simp only [cond_false, mget, hk.e]
      by_cases h2 : y = z
      · subst h2
        simp [Ne.symm h1]
      · rw [show (y == z) = false by simpa using h2]
        simp only [cond_false]; exact ih
open Classical in
theorem mset_keys {key : Int → AV} (hk : KeyOf key) (x : Int) (v : AV) : ∀ {es : List (AV × AV)}, (∀ p ∈ es, ∃ x, p.1 = key x) → (mset es (key x) v).map (·.1) = if key x ∈ es.map (·.1) then es.map (·.1) else es.map (·.1) ++ [key x]
  | [], _ => by simp [mset]
  | (k, u) :: es, h => by
    obtain ⟨z, hz⟩ := h (k, u) (by simp)
    simp only at hz
    subst hz
    have ih := mset_keys hk x v (es := es) fun p hp => h p (by simp [hp])
    simp only [mset, hk.e]
    by_cases h1 : x = z
    · subst h1; simp
    · rw [show (x == z) = false by simpa using h1]
      simp only [cond_false, List.map_cons, ih, List.mem_cons]
      have : key x ≠ key z := fun e => h1 (hk.inj e)
      by_cases h2 : key x ∈ es.map (·.1)
      · rw [if_pos h2, if_pos (.inr h2)]
      · rw [if_neg h2, if_neg (by rintro (h | h) <;> contradiction)]; rfl
theorem MapIs.set {key : Int → AV} (hk : KeyOf key) {es : List (AV × AV)} {g : Int → Option AV} (h : MapIs key es g) (x : Int) (v : AV) : MapIs key (mset es (key x) v) fun y => if y = x then some v else g y := by
  refine ⟨fun p hp => ?_, fun y => by rw [mget_mset hk x y v h.keys, h.get], ?_⟩
  · rcases mem_mset p hp with h1 | h1
    · exact h.keys p h1
    · exact ⟨x, h1⟩
  · rw [mset_keys hk x v h.keys]
    split
    · exact h.uniq
    · rename_i hn
      exact List.nodup_append.2 ⟨h.uniq, List.pairwise_singleton _ _, fun a ha b hb e => hn (by rw [List.mem_singleton.1 hb] at e; exact e ▸ ha)⟩
theorem mget_none {key : Int → AV} (hk : KeyOf key) (y : Int) : ∀ {es : List (AV × AV)}, (∀ p ∈ es, ∃ x, p.1 = key x) → key y ∉ es.map (·.1) → mget es (key y) = none
  | [], _, _ => rfl
  | (k, u) :: es, h, hn => by
    obtain ⟨z, hz⟩ := h (k, u) (by simp)
    simp only at hz
    subst hz
    simp only [List.map_cons, List.mem_cons, not_or] at hn
    simp only [mget, hk.e]
    rw [show (y == z) = false by simpa using fun e => hn.1 (by rw [e])]
    exact mget_none hk y (fun p hp => h p (by simp [hp])) hn.2
theorem mget_mdel {key : Int → AV} (hk : KeyOf key) (x y : Int) : ∀ {es : List (AV × AV)}, (∀ p ∈ es, ∃ x, p.1 = key x) → (es.map (·.1)).Nodup → mget (mdel es (key x)) (key y) = if y = x then none else mget es (key y)
  | [], _, _ => by simp [mdel, mget]
  | (k, u) :: es, h, hu => by
    obtain ⟨z, hz⟩ := h (k, u) (by simp)
    simp only at hz
    subst hz
    simp only [List.map_cons, List.nodup_cons] at hu
    have ih := mget_mdel hk x y (es := es) (fun p hp => h p (by simp [hp])) hu.2
    simp only [mdel, hk.e]
    by_cases h1 : x = z
    · subst h1
      simp only [beq_self_eq_true, cond_true, mget, hk.e]
      by_cases h2 : y = x
      · subst h2
        rw [if_pos rfl]
        exact mget_none hk _ (fun p hp => h p (by simp [hp])) hu.1
      · rw [if_neg h2, show (y == x) = false by simpa using h2]; rfl
    · rw [show (x == z) = false by simpa using h1]
      simp only [cond_false, mget, hk.e]
      by_cases h2 : y = z
      · subst h2; simp [Ne.symm h1]
      · rw [show (y == z) = false by simpa using h2]
        simp only [cond_false]; exact ih
theorem mdel_sub (x : AV) : ∀ (es : List (AV × AV)), (mdel es x).Sublist es
  | [] => List.Sublist.slnil
  | (k, u) :: es => by
    simp only [mdel]
    cases eqKey x k
    · exact (mdel_sub x es).cons_cons _
    · exact List.sublist_cons_self _ _
theorem MapIs.del {key : Int → AV} (hk : KeyOf key) {es : List (AV × AV)} {g : Int → Option AV} (h : MapIs key es g) (x : Int) : MapIs key (mdel es (key x)) fun y => if y = x then none else g y :=
  ⟨fun p hp => h.keys p ((mdel_sub _ _).subset hp), fun y => by rw [mget_mdel hk x y h.keys h.uniq, h.get], ((mdel_sub _ _).map _).nodup h.uniq⟩
end Go.Ev.W
namespace Go.Ev.W
open Go.Ev Go.Ev.N

def lM (l : List M) : AV := .lst t_api_Mark (l.map encM)
set_option maxHeartbeats 4000000 in
theorem putZ (l : List M) (hr : Rise l) (m : M) (hl : l.length ≤ 1000000) : Told P T side_Put [] [lM l, encM m] (lM (putM l m)) [] := by
  have hml : (l.map encM).length = l.length := by simp
  refine told_of_ev (fn := side_Put_fn) tabOk mixed (by kernel_rfl) (by kernel_rfl) (by kernel_rfl) (by kernel_rfl) ?_
  (refine gw ?_; refine Choice.mk ⟨false, Choice.mk ⟨false, _, _, clone_Mark (l.map encM) (by omega), ?_⟩⟩)
  (refine gw ?_; refine Choice.mk ⟨false, Choice.mk ⟨false, _, _, find_told l hr m.at' hl, ?_⟩⟩)
  refine IfB.mk (fun h1 => ?_) (fun h1 => ?_)
  · have hlt := isAt_lt h1
    (refine gw ?_; refine RetN.fz ⟨[true], [], rfl, ?_, rfl⟩)
    show AV.lst t_api_Mark ((l.map encM).set (low m.at' l) (encM m)) = _
    rw [lM, putM, if_pos h1, List.map_set]
  · have h1 : isAt m.at' l = false := h1
    have hi := insert_Mark (l.map encM) (encM m) (low m.at' l) (by rw [hml]; exact low_le _ _) (by omega)
    (refine gw ?_; refine Choice.mk ⟨true, Choice.mk ⟨false, _, _, hi, ?_⟩⟩)
    (refine gw ?_; refine RetN.fz ⟨[true], [], rfl, ?_, rfl⟩)
    show AV.lst t_api_Mark ((l.map encM).take (low m.at' l) ++ (encM m :: (l.map encM).drop (low m.at' l))) = _
    rw [lM, putM, if_neg (by rw [h1]; decide)]
    simp [List.map_take, List.map_drop]
set_option maxHeartbeats 4000000 in
theorem takeZ (l : List M) (hr : Rise l) (y : Int) (hl : l.length ≤ 1000000) : Told P T side_Take [] [lM l, i64 y] (.tup [lM (if isAt y l = true then takeM l y else l), i64 (if isAt y l = true then clsM l y else 0), .bool (isAt y l)]) [] := by
  have hml : (l.map encM).length = l.length := by simp
  refine told_of_ev (fn := side_Take_fn) tabOk mixed (by kernel_rfl) (by kernel_rfl) (by kernel_rfl) (by kernel_rfl) ?_
  (refine gw ?_; refine Choice.mk ⟨false, Choice.mk ⟨false, _, _, clone_Mark (l.map encM) (by omega), ?_⟩⟩)
  (refine gw ?_; refine Choice.mk ⟨false, Choice.mk ⟨false, _, _, find_told l hr y hl, ?_⟩⟩)
  cases h : isAt y l with
  | false =>
    (refine gw ?_; exact RetN.fz ⟨[true, true, true], [], rfl, rfl, rfl⟩)
  | true =>
    have hlt := isAt_lt h
    (refine gw ?_; refine Choice.mk ⟨true, Choice.mk ⟨false, _, _, delete_Mark (l.map encM) (low y l) (by omega) (by omega), ?_⟩⟩)
    (refine gw ?_; refine idx_map (hlt) ?_)
    (refine gw ?_; refine RetN.fz ⟨[true, true, true], [], rfl, ?_, rfl⟩)
    have e : clsM l y = (l[low y l]).cl := by unfold clsM; rw [List.getElem?_eq_getElem hlt]
    rw [if_pos rfl, if_pos rfl, e]
    show AV.tup [AV.lst t_api_Mark ((((l.map encM).take (low y l) ++ ((l.map encM).drop (low y l + 1) ++ [zeroE T t_api_Mark])).drop 0).take ((l.map encM).length - 1)), i64 (l[low y l]).cl, AV.bool true] = _
    rw [List.drop_zero, ← List.append_assoc, List.take_append_of_le_length (by simp; omega), List.take_of_length_le (by simp; omega)]
    simp [lM, takeM]
end Go.Ev.W
namespace Go.Ev.W
open Go.Ev Go.Ev.N

/-- An engine: granules of G bytes. -/
def eE (G g c : Nat) (b : Nat → Bool) (l : List M) : AV := .agg [i64 G, .lst t_api_Tree (tL g c b), .lst t_api_Mark (l.map encM)]
def eN : AV := .agg [i64 0, .lst t_api_Tree [], .lst t_api_Mark []]
def placeB (g c : Nat) (b : Nat → Bool) (cl : Int) : Nat → Bool := match lowS g c b cl with
  | some i => setZ b (i * 2 ^ cl.toNat : Nat) (2 ^ cl.toNat : Nat) true
  | none => b
def placeL (G g c : Nat) (b : Nat → Bool) (l : List M) (cl : Int) : List M := match lowS g c b cl with
  | some i => putM l ⟨(i * 2 ^ cl.toNat * G : Nat), cl⟩
  | none => l
def placeA (G g c : Nat) (b : Nat → Bool) (cl : Int) : Int := match lowS g c b cl with
  | some i => (i * 2 ^ cl.toNat * G : Nat)
  | none => 0
def relB (G : Nat) (b : Nat → Bool) (l : List M) (y : Int) : Nat → Bool := if isAt y l = true then setZ b (y.toNat / G : Nat) (2 ^ (clsM l y).toNat : Nat) false else b
def relL (l : List M) (y : Int) : List M := if isAt y l = true then takeM l y else l
def relK (l : List M) (y : Int) : Int := if isAt y l = true then clsM l y else 0
/-- What is needed of an engine that calls are told. -/
structure EgOk (G g c : Nat) (l : List M) : Prop where
  sl : SlOk g c
  g1 : 1 ≤ G
  gG : g * G ≤ 65536
  rise : Rise l
  mks : ∀ m ∈ l, 0 ≤ m.cl ∧ m.cl < c ∧ 0 ≤ m.at' ∧ m.at' ≤ 65536
  len : l.length ≤ 65536
theorem lowS_lt {g c : Nat} (h : SlOk g c) {b : Nat → Bool} {cl : Int} {i : Nat} (hi : lowS g c b cl = some i) : ∃ k : Nat, cl = k ∧ k < c ∧ i < g / 2 ^ k ∧ upB b k i = false ∧ ∀ j, j < i → upB b k j = true := by
  unfold lowS at hi
  split at hi
  · rename_i hc
    obtain ⟨k, rfl⟩ : ∃ k : Nat, cl = k := ⟨cl.toNat, by omega⟩
    rw [Int.toNat_natCast] at hi
    have hz := h.sz (k := k) (by omega)
    refine ⟨k, rfl, by omega, ?_⟩
    rcases firI_spec (n := g / 2 ^ k) (b := upB b k) (f := 0) (by omega) with ⟨h2, _⟩ | ⟨j, h2, _, h4, h5, h6⟩
    · have h2 : firI (g / 2 ^ k) (upB b k) 0 = none := h2
      rw [hi] at h2; cases h2
    · have h2 : firI (g / 2 ^ k) (upB b k) 0 = some j := h2
      rw [hi] at h2
      injection h2 with e
      subst e
      exact ⟨h4, h5, fun x hx => h6 x (by omega) hx⟩
  · cases hi
theorem sz_bound {G g c k i : Nat} (h : SlOk g c) (hG : g * G ≤ 65536) (hk : k < c) (hi : i < g / 2 ^ k) : i * 2 ^ k + 2 ^ k ≤ g ∧ i * 2 ^ k * G + 2 ^ k * G ≤ 65536 ∧ 1 ≤ 2 ^ k ∧ 2 ^ k ≤ 65536 := by
  have hz := h.sz hk
  have h1 : i * 2 ^ k + 2 ^ k ≤ g := by
    have : (i + 1) * 2 ^ k ≤ g / 2 ^ k * 2 ^ k := Nat.mul_le_mul_right _ (by omega)
    rw [hz.2.2, Nat.add_mul, Nat.one_mul] at this
    exact this
  refine ⟨h1, ?_, Nat.one_le_two_pow, ?_⟩
  · rw [← Nat.add_mul]
    exact Nat.le_trans (Nat.mul_le_mul_right G h1) hG
  · exact Nat.le_trans (Nat.le_trans (Nat.le_add_left _ _) h1) h.g2
theorem placeL_ok {G g c : Nat} {b : Nat → Bool} {l : List M} (h : EgOk G g c l) (hl : l.length < 65536) (cl : Int) : EgOk G g c (placeL G g c b l cl) := by
  unfold placeL
  cases hi : lowS g c b cl with
  | none => exact h
  | some i =>
    obtain ⟨k, rfl, hk, hik, _, _⟩ := lowS_lt h.sl hi
    have hb := sz_bound h.sl h.gG hk hik
    simp only
    rw [Int.toNat_natCast]
    refine ⟨h.sl, h.g1, h.gG, rise_put h.rise _, fun m hm => ?_, by have := putM_len l ⟨(i * 2 ^ k * G : Nat), k⟩; omega⟩
    rcases (mem_putM h.rise _ m).1 hm with rfl | ⟨hm, _⟩
    · simp only
      exact ⟨by omega, by omega, by omega, by omega⟩
    · exact h.mks m hm
theorem relL_ok {G g c : Nat} {l : List M} (h : EgOk G g c l) (y : Int) : EgOk G g c (relL l y) := by
  unfold relL
  split
  · rename_i hi
    refine ⟨h.sl, h.g1, h.gG, rise_take h.rise y, fun m hm => h.mks m ((mem_takeM h.rise hi m).1 hm).1, ?_⟩
    have := h.len
    unfold takeM
    simp
    omega
  · exact h
theorem relL_at {G g c : Nat} {l : List M} (h : EgOk G g c l) {y : Int} (hy : isAt y l = true) : 0 ≤ y ∧ y ≤ 65536 ∧ 0 ≤ clsM l y ∧ clsM l y < c := by
  have hm := (cls_mem h.rise (y := y) (c := clsM l y)).1 ⟨hy, rfl⟩
  have := h.mks _ hm
  exact ⟨this.2.2.1, this.2.2.2, this.1, this.2.1⟩
end Go.Ev.W
namespace Go.Ev.W
open Go.Ev Go.Ev.N

theorem shlG {i k : Nat} (hk : k ≤ 16) : ((i : Nat) : Int) * 2 ^ min ((k : Nat) : Int).toNat IntKind.i64.bits = ((i * 2 ^ k : Nat) : Int) := by
  rw [Int.toNat_natCast, show min k IntKind.i64.bits = k from Nat.min_eq_left (by show k ≤ 64; omega)]
  simp
theorem plTwin_told {G g c : Nat} {b : Nat → Bool} {l : List M} (h : EgOk G g c l) : Told P T place_twin [] [eE G g c b l] (eE G g c b l) [] := by
  have hml : (l.map encM).length = l.length := by simp
  have hl := h.len
  have c1 := slUse_told h.sl b 0 0 (by omega) (by omega) true
  rw [setZ_none] at c1
  have c1 : Told P T slots_Use [] [eS g c b, i64 0, i64 0, .bool true] (eS g c b) [] := c1
  refine told_of_ev (fn := place_twin_fn) tabOk mixed (by kernel_rfl) (by kernel_rfl) (by kernel_rfl) (by kernel_rfl) ?_
  (refine gw ?_; refine Choice.mk ⟨false, Choice.mk ⟨false, _, _, c1, ?_⟩⟩)
  (refine gw ?_; refine Choice.mk ⟨false, Choice.mk ⟨false, _, _, clone_Mark (l.map encM) (by omega), ?_⟩⟩)
  (refine gw ?_)
  exact RetN.fz ⟨[true], [], rfl, rfl, rfl⟩
set_option maxHeartbeats 1000000 in
theorem plPlace_told {G g c : Nat} {b : Nat → Bool} {l : List M} (h : EgOk G g c l) (cl : Int) (hcl : -9223372036854775808 ≤ cl ∧ cl ≤ 9223372036854775807) :
    Told P T place_Place [] [eE G g c b l, i64 cl] (.tup [eE G g c (placeB g c b cl) (placeL G g c b l cl), i64 (placeA G g c b cl), .bool (lowS g c b cl).isSome]) [] := by
  have c1 := slLowest_told h.sl b cl hcl
  have c2 := plTwin_told h (b := b)
  have hml : (l.map encM).length = l.length := by simp
  have hl := h.len
  unfold placeB placeL placeA
  cases hi : lowS g c b cl with
  | none =>
    rw [hi] at c1
    refine told_of_ev (fn := place_Place_fn) tabOk mixed (by kernel_rfl) (by kernel_rfl) (by kernel_rfl) (by kernel_rfl) ?_
    (refine gw ?_; refine Choice.mk ⟨false, Choice.mk ⟨false, _, _, c1, ?_⟩⟩)
    (refine gw ?_; refine Choice.mk ⟨false, Choice.mk ⟨false, _, _, c2, ?_⟩⟩)
    (refine gw ?_; exact RetN.mk ⟨[], rfl, rfl, rfl⟩)
  | some i =>
    rw [hi] at c1
    obtain ⟨k, rfl, hk, hik, _, _⟩ := lowS_lt h.sl hi
    have hb := sz_bound h.sl h.gG hk hik
    have hg2 := h.sl.g2
    have h17 := h.sl.c17
    simp only [Int.toNat_natCast]
    have hs1 := shlG (i := i) (k := k) (by omega)
    have hs2 := shlI (k := k) (by omega)
    have c3 := slUse_told h.sl b (i * 2 ^ k : Nat) (2 ^ k : Nat) (by omega) (by omega) true
    have c4 := putZ l h.rise ⟨(i * 2 ^ k * G : Nat), k⟩ (by omega)
    have hG : ((i * 2 ^ k : Nat) : Int) * (G : Int) = ((i * 2 ^ k * G : Nat) : Int) := (Int.natCast_mul _ G).symm
    have hle : i * 2 ^ k ≤ 65536 := by omega
    generalize i * 2 ^ k * G = a at *
    generalize i * 2 ^ k = f at *
    generalize 2 ^ k = n at *
    refine told_of_ev (fn := place_Place_fn) tabOk mixed (by kernel_rfl) (by kernel_rfl) (by kernel_rfl) (by kernel_rfl) ?_
    (refine gw ?_; refine Choice.mk ⟨false, Choice.mk ⟨false, _, _, c1, ?_⟩⟩)
    (refine gw ?_)
    rw [hs1]
    (refine gw ?_)
    rw [hG]
    (refine gw ?_)
    rw [hs1]
    (refine gw ?_)
    rw [hs2]
    (refine gw ?_; refine Choice.mk ⟨false, Choice.mk ⟨false, _, _, c3, ?_⟩⟩)
    (refine gw ?_; refine Choice.mk ⟨false, Choice.mk ⟨false, _, _, c4, ?_⟩⟩)
    (refine gw ?_; exact RetN.mk ⟨[], rfl, rfl, rfl⟩)
set_option maxHeartbeats 1000000 in
theorem plRel_told {G g c : Nat} {b : Nat → Bool} {l : List M} (h : EgOk G g c l) (y : Int) (hy : -9223372036854775808 ≤ y ∧ y ≤ 9223372036854775807) :
    Told P T place_Release [] [eE G g c b l, i64 y] (.tup [eE G g c (relB G b l y) (relL l y), i64 (relK l y), .bool (isAt y l)]) [] := by
  have c1 := takeZ l h.rise y (by have := h.len; omega)
  have c2 := plTwin_told h (b := b)
  have htl := tL_len g c b
  unfold relB relL relK
  cases hi : isAt y l with
  | false =>
    rw [hi] at c1
    refine told_of_ev (fn := place_Release_fn) tabOk mixed (by kernel_rfl) (by kernel_rfl) (by kernel_rfl) (by kernel_rfl) ?_
    (refine gw ?_; refine Choice.mk ⟨false, Choice.mk ⟨false, _, _, c1, ?_⟩⟩)
    (refine gw ?_; refine Choice.mk ⟨false, Choice.mk ⟨false, _, _, c2, ?_⟩⟩)
    (refine gw ?_; exact RetN.mk ⟨[], rfl, rfl, rfl⟩)
  | true =>
    rw [hi] at c1
    obtain ⟨y1, y2, y3, y4⟩ := relL_at h hi
    obtain ⟨a, rfl⟩ : ∃ a : Nat, y = a := ⟨y.toNat, by omega⟩
    have hg1 := h.g1
    have hg2 := h.sl.g2
    have h17 := h.sl.c17
    simp only [if_true] at c1 ⊢
    generalize takeM l a = l2 at *
    obtain ⟨k, hk⟩ : ∃ k : Nat, clsM l a = k := ⟨(clsM l a).toNat, by omega⟩
    rw [hk] at c1 y4 ⊢
    simp only [Int.toNat_natCast]
    have hs2 := shlI (k := k) (by omega)
    have hdv : ((a : Nat) : Int).tdiv (G : Int) = ((a / G : Nat) : Int) := (Int.ofNat_tdiv a G).symm
    have hdl : a / G ≤ a := Nat.div_le_self a G
    have hp2 : 2 ^ k ≤ 2 ^ 16 := Nat.pow_le_pow_right (by omega) (by omega)
    generalize a / G = f at *
    generalize 2 ^ k = n at *
    have c3 := slUse_told h.sl b f n (by omega) (by omega) false
    have hGne : ((G : Nat) : Int) ≠ 0 := by omega
    refine told_of_ev (fn := place_Release_fn) tabOk mixed (by kernel_rfl) (by kernel_rfl) (by kernel_rfl) (by kernel_rfl) ?_
    (refine gw ?_; refine Choice.mk ⟨false, Choice.mk ⟨false, _, _, c1, ?_⟩⟩)
    (refine gw ?_; refine IfB.ff (by simp; omega) ?_)
    (refine gw ?_; refine IfB.ff (by rw [htl]; simp; omega) ?_)
    (refine gw ?_)
    rw [hdv]
    (refine gw ?_)
    rw [hs2]
    (refine gw ?_; refine Choice.mk ⟨false, Choice.mk ⟨false, _, _, c3, ?_⟩⟩)
    (refine gw ?_; exact RetN.mk ⟨[], rfl, rfl, rfl⟩)
end Go.Ev.W
namespace Go.Ev.W
open Go.Ev Go.Ev.N

/-- The least power of two that is not below a number. -/
def upN (v : Nat) : Nat := if v ≤ 1 then 1 else 2 ^ (Nat.log2 (v - 1) + 1)
theorem upN_pow (v : Nat) : ∃ k, upN v = 2 ^ k := by
  unfold upN; split
  · exact ⟨0, rfl⟩
  · exact ⟨_, rfl⟩
theorem le_upN (v : Nat) : v ≤ upN v := by
  unfold upN; split
  · assumption
  · have := Nat.lt_log2_self (n := v - 1); omega
theorem upN_le {v k : Nat} (h : v ≤ 2 ^ k) : upN v ≤ 2 ^ k := by
  unfold upN; split
  · exact Nat.one_le_two_pow
  · refine Nat.pow_le_pow_right (by omega) ?_
    rw [Nat.succ_le_iff, Nat.log2_lt (by omega)]
    omega
theorem upN_lt {v : Nat} (h : 1 ≤ v) : upN v < 2 * v := by
  unfold upN; split
  · omega
  · have := Nat.log2_self_le (n := v - 1) (by omega)
    rw [Nat.pow_succ]; omega
theorem upN_pos (v : Nat) : 1 ≤ upN v := by obtain ⟨k, h⟩ := upN_pow v; rw [h]; exact Nat.one_le_two_pow
theorem pow_lt_dbl {j k : Nat} (h : 2 ^ j < 2 ^ k) : 2 ^ j * 2 ≤ 2 ^ k := by
  have : j < k := (Nat.pow_lt_pow_iff_right (by omega)).1 h
  rw [← Nat.pow_succ]; exact Nat.pow_le_pow_right (by omega) this

theorem refUp_told (v : Nat) (h1 : 1 ≤ v) (h2 : v ≤ 1000000) : Told P T ref1_Up [] [i64 v] (.tup [i64 (upN v : Nat), .bool true]) [] := by
  have hu := upN_lt h1
  refine told_of_ev (fn := ref1_Up_fn) tabOk mixed (by kernel_rfl) (by kernel_rfl) (by kernel_rfl) (by kernel_rfl) ?_
  (refine gw ?_; first | refine IfB.dec (fun h3 => ?_) (fun h3 => ?_) | refine IfB.eq (fun h3 => ?_) (fun h3 => ?_) | refine IfB.ne (fun h3 => ?_) (fun h3 => ?_) | refine IfB.mk (fun h3 => ?_) (fun h3 => ?_))
  · omega
  · (refine gw ?_; first | refine IfB.dec (fun h4 => ?_) (fun h4 => ?_) | refine IfB.eq (fun h4 => ?_) (fun h4 => ?_) | refine IfB.ne (fun h4 => ?_) (fun h4 => ?_) | refine IfB.mk (fun h4 => ?_) (fun h4 => ?_))
    · omega
    · (refine gw ?_; refine LoopN.mk ⟨[0,4], fun vs L => ∃ j : Nat, vs = [i64 v, i64 (2 ^ j : Nat)] ∧ L = [] ∧ 2 ^ j ≤ upN v, fun vs L => match vs with | [_, .int _ i] => 4000000 - i.toNat | _ => 0, [], [], rfl, ⟨0, rfl, rfl, upN_pos v⟩, ?_⟩)
      rintro vs L ⟨j, rfl, rfl, hj⟩
      obtain ⟨p, hp⟩ : ∃ p, 2 ^ j = p := ⟨_, rfl⟩
      obtain ⟨k, hk⟩ := upN_pow v
      have hle := le_upN v
      (refine gw ?_; first | refine IfB.dec (fun h5 => ?_) (fun h5 => ?_) | refine IfB.eq (fun h5 => ?_) (fun h5 => ?_) | refine IfB.ne (fun h5 => ?_) (fun h5 => ?_) | refine IfB.mk (fun h5 => ?_) (fun h5 => ?_))
      · have hd : 2 ^ j * 2 ≤ upN v := by rw [hk]; exact pow_lt_dbl (by omega)
        have e : ((2 ^ (j + 1) : Nat) : Int) = ((2 ^ j : Nat) : Int) * 2 := by rw [Nat.pow_succ]; omega
        rw [hp] at hd e ⊢
        have hpos : 1 ≤ p := by rw [← hp]; exact Nat.one_le_two_pow
        (refine gw ?_; refine ⟨[], [], rfl, ⟨j + 1, by rw [e]; rfl, rfl, by rw [Nat.pow_succ, hp]; exact hd⟩, (by omega : 4000000 - ((p : Int) * 2).toNat < 4000000 - (p : Int).toNat)⟩)
      · have e : upN v = 2 ^ j := by
          have := upN_le (v := v) (k := j) (by omega)
          omega
        rw [e]
        (refine gw ?_; exact RetN.mk ⟨[], rfl, rfl, rfl⟩)

/-- Which power of two. -/
def logF (v : Int) : Nat × Bool := if 1 ≤ v ∧ v = ((2 ^ Nat.log2 v.toNat : Nat) : Int) then (Nat.log2 v.toNat, true) else (0, false)
theorem logF_pow (k : Nat) : logF ((2 ^ k : Nat) : Int) = (k, true) := by
  have h := Nat.one_le_two_pow (n := k)
  have hl := Nat.log2_two_pow (n := k)
  unfold logF
  obtain ⟨q, hq⟩ : ∃ q, 2 ^ k = q := ⟨_, rfl⟩
  rw [hq] at h hl ⊢
  rw [Int.toNat_natCast, hl, hq, if_pos ⟨by omega, rfl⟩]
theorem refLog_told (v : Int) (h2 : v ≤ 9223372036854775807) : Told P T ref1_Log [] [i64 v] (.tup [i64 ((logF v).1 : Nat), .bool (logF v).2]) [] := by
  refine told_of_ev (fn := ref1_Log_fn) tabOk mixed (by kernel_rfl) (by kernel_rfl) (by kernel_rfl) (by kernel_rfl) ?_
  (refine gw ?_; refine LoopN.mk ⟨[0,4,5], fun vs L => ∃ j : Nat, vs = [i64 v, i64 (2 ^ (min j 62) : Nat), i64 j] ∧ L = [] ∧ j ≤ 63 ∧ ∀ i, i < j → v ≠ ((2 ^ i : Nat) : Int), fun vs L => match vs with | [_, _, .int _ i] => 63 - i.toNat | _ => 0, [], [], rfl, ⟨0, rfl, rfl, by omega, fun i h => by omega⟩, ?_⟩)
  rintro vs L ⟨j, rfl, rfl, hj, hn⟩
  (refine gw ?_; first | refine IfB.dec (fun h1 => ?_) (fun h1 => ?_) | refine IfB.eq (fun h1 => ?_) (fun h1 => ?_) | refine IfB.ne (fun h1 => ?_) (fun h1 => ?_) | refine IfB.mk (fun h1 => ?_) (fun h1 => ?_))
  · have hj2 : j < 63 := by omega
    have em : min j 62 = j := by omega
    rw [em]
    (refine gw ?_; first | refine IfB.dec (fun h2 => ?_) (fun h2 => ?_) | refine IfB.eq (fun h2 => ?_) (fun h2 => ?_) | refine IfB.ne (fun h2 => ?_) (fun h2 => ?_) | refine IfB.mk (fun h2 => ?_) (fun h2 => ?_))
    · have e := logF_pow j
      rw [h2] at e
      rw [e]
      (refine gw ?_; exact RetN.mk ⟨[], rfl, rfl, rfl⟩)
    · have hn' : ∀ i, i < j + 1 → v ≠ ((2 ^ i : Nat) : Int) := fun i hi => by
        rcases Nat.lt_or_ge i j with h | h
        · exact hn i h
        · rw [show i = j by omega]; exact fun h => h2 h.symm
      (refine gw ?_; first | refine IfB.dec (fun h3 => ?_) (fun h3 => ?_) | refine IfB.eq (fun h3 => ?_) (fun h3 => ?_) | refine IfB.ne (fun h3 => ?_) (fun h3 => ?_) | refine IfB.mk (fun h3 => ?_) (fun h3 => ?_))
      · have hp : 2 ^ (j + 1) ≤ 2 ^ 62 := Nat.pow_le_pow_right (by omega) (by omega)
        have e : ((2 ^ (min (j + 1) 62) : Nat) : Int) = ((2 ^ j : Nat) : Int) * 2 := by rw [show min (j + 1) 62 = j + 1 by omega, Nat.pow_succ]; omega
        rw [Nat.pow_succ] at hp
        have hpos : 0 < 2 ^ j := Nat.two_pow_pos j
        generalize 2 ^ j = q at hp e hpos ⊢
        (refine gw ?_; refine ⟨[], [], rfl, ⟨j + 1, by rw [e]; rfl, rfl, by omega, hn'⟩, (by omega : 63 - ((j : Int) + 1).toNat < 63 - (j : Int).toNat)⟩)
      · have e : j = 62 := by omega
        subst e
        (refine gw ?_; refine ⟨[], [], rfl, ⟨63, rfl, rfl, by omega, hn'⟩, (by omega : 63 - (((62 : Nat) : Int) + 1).toNat < 63 - ((62 : Nat) : Int).toNat)⟩)
  · have e : logF v = (0, false) := by
      unfold logF
      rw [if_neg]
      rintro ⟨h3, h4⟩
      refine hn (Nat.log2 v.toNat) ?_ h4
      rw [Nat.log2_lt (by omega)]
      have : v.toNat ≤ 9223372036854775807 := by omega
      have e63 : (2 : Nat) ^ j ≥ 2 ^ 63 := Nat.pow_le_pow_right (by omega) (by omega)
      omega
    rw [e]
    (refine gw ?_; exact RetN.mk ⟨[], rfl, rfl, rfl⟩)

/-- What there is. -/
structure Cf where
  G : Nat
  N : Nat
  M : Nat
  L : Nat
  Pg : Nat
  P : Nat
  H : Nat
  Sd : Nat
  deriving DecidableEq
def eC (c : Cf) : AV := .agg [i64 c.G, i64 c.N, i64 c.M, i64 c.L, i64 c.Pg, i64 c.P, i64 c.H, i64 c.Sd]
/-- What is asked for. -/
structure Rw where
  g : Int
  l : Int
  m : Int
  p : Int
  b : Int
  s : Int
  deriving DecidableEq
def eR (r : Rw) : AV := .agg [i64 r.g, i64 r.l, i64 r.m, i64 r.p, i64 r.b, i64 r.s]
def cf0 : Cf := ⟨0, 0, 0, 0, 0, 0, 0, 0⟩
def inR (v : Int) : Bool := decide (1 ≤ v ∧ v ≤ 65536)
def Rw.ok (r : Rw) : Bool := inR r.g && inR r.l && inR r.m && inR r.p && decide (0 ≤ r.b ∧ r.b ≤ 65536) && decide (0 ≤ r.s ∧ r.s ≤ 255)
def rnd (v t : Nat) : Nat := if v % t = 0 then v else v - v % t + t
def cfOf (r : Rw) : Cf :=
  let g := upN r.g.toNat
  let n := upN (max r.l.toNat g)
  let pg := upN (max r.p.toNat g)
  let m := rnd r.m.toNat (2 * max n pg)
  let l := Nat.log2 (n / g)
  ⟨g, n, m, l, pg, r.b.toNat, m + l * (m / 2), r.s.toNat⟩
def ofF (r : Rw) : Cf × Nat := if r.ok = true ∧ (cfOf r).H ≤ 65536 then (cfOf r, 0) else (cf0, 1)

theorem refAdd_told (a b : Int) (ha : 0 ≤ a) (hb : 1 ≤ b) (hab : a + b ≤ 9223372036854775807) : Told P T ref1_Add [] [i64 a, i64 b] (.tup [i64 (a + b), .bool true]) [] := by
  refine told_of_ev (fn := ref1_Add_fn) tabOk mixed (by kernel_rfl) (by kernel_rfl) (by kernel_rfl) (by kernel_rfl) ?_
  repeat' ((conv => whnf); first | (refine Sure.mk (by kernel_rfl) ?_) | (refine IfB.tt rfl ?_) | (refine IfB.ff rfl ?_) | (refine IfB.tt ?_ ?_; (focus (simp <;> fail))) | (refine IfB.ff ?_ ?_; (focus (simp <;> fail))) | (refine fits (wrap64 ?_ ?_) ?_; (focus omega); (focus omega)) | (refine fits (wrapU64 ?_ ?_) ?_; (focus omega); (focus omega)) | (refine Need.mk ?_ ?_; (focus omega)) | (refine InB.mk ?_ ?_ ?_; (focus omega); (focus omega)) | (refine IfB.dec (fun h => ?_) (fun h => ?_)) | (refine IfB.eq (fun h => ?_) (fun h => ?_)) | (refine IfB.ne (fun h => ?_) (fun h => ?_)))
  all_goals first | omega | (refine gw ?_; exact RetN.mk ⟨[], rfl, rfl, rfl⟩)
theorem refRound_told (v t : Nat) (hv : v ≤ 1000000) (h1 : 1 ≤ t) (h2 : t ≤ 1000000) : Told P T ref1_Round [] [i64 v, i64 t] (.tup [i64 (rnd v t : Nat), .bool true]) [] := by
  have em : ((v : Nat) : Int).tmod (t : Nat) = ((v % t : Nat) : Int) := by rw [Int.tmod_eq_emod_of_nonneg (by omega)]; omega
  have hm := Nat.mod_lt v h1
  have hd := Nat.mod_le v t
  refine told_of_ev (fn := ref1_Round_fn) tabOk mixed (by kernel_rfl) (by kernel_rfl) (by kernel_rfl) (by kernel_rfl) ?_
  (refine gw ?_; first | refine IfB.dec (fun h4 => ?_) (fun h4 => ?_) | refine IfB.eq (fun h4 => ?_) (fun h4 => ?_) | refine IfB.ne (fun h4 => ?_) (fun h4 => ?_) | refine IfB.mk (fun h4 => ?_) (fun h4 => ?_))
  · omega
  · refine gw ?_
    rw [em]
    (refine gw ?_; first | refine IfB.dec (fun h5 => ?_) (fun h5 => ?_) | refine IfB.eq (fun h5 => ?_) (fun h5 => ?_) | refine IfB.ne (fun h5 => ?_) (fun h5 => ?_) | refine IfB.mk (fun h5 => ?_) (fun h5 => ?_))
    · have e : rnd v t = v := by unfold rnd; rw [if_pos (by omega)]
      rw [e]
      (refine gw ?_; exact RetN.mk ⟨[], rfl, rfl, rfl⟩)
    · have e : rnd v t = v - v % t + t := by unfold rnd; rw [if_neg (by omega)]
      have c := refAdd_told ((v : Int) - ((v % t : Nat) : Int)) t (by omega) (by omega) (by omega)
      have e2 : ((v - v % t + t : Nat) : Int) = (v : Int) - ((v % t : Nat) : Int) + t := by omega
      rw [e, e2]
      refine gw ?_
      rw [em]
      refine gw ?_
      (refine gw ?_; refine Choice.mk ⟨false, Choice.mk ⟨true, _, _, c, ?_⟩⟩)
      (refine gw ?_; exact RetN.mk ⟨[], rfl, rfl, rfl⟩)

theorem pow_div {a b : Nat} (h : 2 ^ a ≤ 2 ^ b) : 2 ^ b / 2 ^ a = 2 ^ (b - a) := by
  have : a ≤ b := (Nat.pow_le_pow_iff_right (by omega)).1 h
  exact Nat.pow_div this (by omega)
/-- What holds of what there is. -/
structure Cf.Ok (c : Cf) : Prop where
  g : ∃ a, c.G = 2 ^ a
  n : c.N = c.G * 2 ^ c.L
  p : ∃ e, c.Pg = c.G * 2 ^ e
  m : ∃ q, c.M = 2 * max c.N c.Pg * q
  m1 : 1 ≤ c.M
  h : c.H = c.M + c.L * (c.M / 2)
  h2 : c.H ≤ 65536
  b : c.P ≤ 65536
  s : c.Sd ≤ 255
theorem pow_up {g v : Nat} (hg : ∃ a, g = 2 ^ a) : ∃ e, upN (max v g) = g * 2 ^ e := by
  obtain ⟨a, rfl⟩ := hg
  obtain ⟨b, hb⟩ := upN_pow (max v (2 ^ a))
  have h1 := le_upN (max v (2 ^ a))
  rw [hb] at h1 ⊢
  have : a ≤ b := (Nat.pow_le_pow_iff_right (a := 2) (by omega)).1 (Nat.le_trans (Nat.le_max_right _ _) h1)
  exact ⟨b - a, by rw [← Nat.pow_add]; congr 1; omega⟩
theorem rnd_spec {v t : Nat} (h : 1 ≤ t) : ∃ q, rnd v t = t * q ∧ v ≤ rnd v t ∧ rnd v t < v + t := by
  have h1 := Nat.div_add_mod v t
  have h2 := Nat.mod_lt v h
  unfold rnd
  split
  · exact ⟨v / t, by omega, by omega, by omega⟩
  · refine ⟨v / t + 1, ?_, by omega, by omega⟩
    rw [Nat.mul_add]; omega
theorem log_of {G N k : Nat} (hg : 1 ≤ G) (h : N = G * 2 ^ k) : Nat.log2 (N / G) = k := by
  rw [h, Nat.mul_div_cancel_left _ (by omega), Nat.log2_two_pow]
theorem ofF_ok {r : Rw} (h : (ofF r).2 = 0) : (ofF r).1.Ok ∧ r.ok = true ∧ (ofF r).1 = cfOf r := by
  unfold ofF at h ⊢
  split at h
  · rename_i hh
    rw [if_pos hh]
    obtain ⟨hr, hH⟩ := hh
    refine ⟨?_, hr, rfl⟩
    simp only [Rw.ok, inR, Bool.and_eq_true, decide_eq_true_eq] at hr
    obtain ⟨⟨⟨⟨⟨r1, r2⟩, r3⟩, r4⟩, r5⟩, r6⟩ := hr
    have g := upN_pow r.g.toNat
    obtain ⟨k, hk⟩ := pow_up (v := r.l.toNat) g
    obtain ⟨e, he⟩ := pow_up (v := r.p.toNat) g
    have hg1 := upN_pos r.g.toNat
    have hn1 := upN_pos (max r.l.toNat (upN r.g.toNat))
    have hlog := log_of hg1 hk
    obtain ⟨q, q1, q2, q3⟩ := rnd_spec (v := r.m.toNat) (t := 2 * max (upN (max r.l.toNat (upN r.g.toNat))) (upN (max r.p.toNat (upN r.g.toNat)))) (by omega)
    exact ⟨g, by show upN _ = upN _ * 2 ^ Nat.log2 _; rw [hlog]; exact hk, ⟨e, he⟩, ⟨q, q1⟩, by show 1 ≤ rnd _ _; omega, rfl, hH, by show r.b.toNat ≤ _; omega, by show r.s.toNat ≤ _; omega⟩
  · cases h

set_option maxHeartbeats 2000000 in
theorem refOf_told (r : Rw) : Told P T ref1_Of [] [eR r] (.tup [eC (ofF r).1, i64 ((ofF r).2 : Nat)]) [] := by
  have bad : r.ok = false → ofF r = (cf0, 1) := fun h => by unfold ofF; rw [if_neg (by rw [h]; simp)]
  obtain ⟨g, l, m, p, b, s⟩ := r
  refine told_of_ev (fn := ref1_Of_fn) tabOk mixed (by kernel_rfl) (by kernel_rfl) (by kernel_rfl) (by kernel_rfl) ?_
  (refine gw ?_; refine LoopN.mk ⟨[1,2,4,5], fun vs L => ∃ i : Nat, vs = [.ptr 0 0 0, .ptr 1 0 0, .lst t_int ([g, l, m, p].map i64), i64 i] ∧ L = [.var (.agg [i64 g, i64 l, i64 m, i64 p, i64 b, i64 s]), .var (eC cf0)] ∧ i ≤ 4 ∧ ∀ j (h : j < [g, l, m, p].length), j < i → inR ([g, l, m, p][j]) = true, fun vs L => match vs with | [_, _, _, .int _ i] => 4 - i.toNat | _ => 0, [4], [0,1], rfl, ⟨0, rfl, rfl, by omega, fun j _ h => by omega⟩, ?_⟩)
  rintro vs L ⟨i, rfl, rfl, hi, hin⟩
  (refine gw ?_; first | refine IfB.dec (fun h1 => ?_) (fun h1 => ?_) | refine IfB.eq (fun h1 => ?_) (fun h1 => ?_) | refine IfB.ne (fun h1 => ?_) (fun h1 => ?_) | refine IfB.mk (fun h1 => ?_) (fun h1 => ?_))
  · have hlt : i < [g, l, m, p].length := by simp; omega
    obtain ⟨x, hx⟩ : ∃ x, [g, l, m, p][i] = x := ⟨_, rfl⟩
    have hbad : inR x = false → ofF ⟨g, l, m, p, b, s⟩ = (cf0, 1) := fun h => bad (by
      have : ∃ y ∈ [g, l, m, p], inR y = false := ⟨x, by rw [← hx]; exact List.getElem_mem _, h⟩
      simp only [List.mem_cons, List.not_mem_nil, or_false] at this
      obtain ⟨y, hy, h⟩ := this
      unfold Rw.ok
      rcases hy with rfl | rfl | rfl | rfl <;> simp [h])
    (refine gw ?_; refine idx_map (hlt) ?_)
    rw [hx]
    (refine gw ?_; first | refine IfB.dec (fun h2 => ?_) (fun h2 => ?_) | refine IfB.eq (fun h2 => ?_) (fun h2 => ?_) | refine IfB.ne (fun h2 => ?_) (fun h2 => ?_) | refine IfB.mk (fun h2 => ?_) (fun h2 => ?_))
    · rw [hbad (by simp [inR]; omega)]
      (refine gw ?_; exact RetN.mk ⟨[], rfl, rfl, rfl⟩)
    · (refine gw ?_; refine idx_map (hlt) ?_)
      rw [hx]
      (refine gw ?_; first | refine IfB.dec (fun h3 => ?_) (fun h3 => ?_) | refine IfB.eq (fun h3 => ?_) (fun h3 => ?_) | refine IfB.ne (fun h3 => ?_) (fun h3 => ?_) | refine IfB.mk (fun h3 => ?_) (fun h3 => ?_))
      · rw [hbad (by simp [inR]; omega)]
        (refine gw ?_; exact RetN.mk ⟨[], rfl, rfl, rfl⟩)
      · have hx' : inR x = true := by simp [inR]; omega
        (refine gw ?_; refine ⟨[4], [0,1], rfl, ⟨i + 1, rfl, rfl, by omega, fun j h hj => ?_⟩, (by omega : 4 - ((i : Int) + 1).toNat < 4 - (i : Int).toNat)⟩)
        rcases Nat.lt_or_ge j i with h' | h'
        · exact hin j h h'
        · have : j = i := by omega
          subst this; rw [hx]; exact hx'
  · have e4 : i = 4 := by omega
    subst e4
    have i1 := hin 0 (by simp) (by omega)
    have i2 := hin 1 (by simp) (by omega)
    have i3 := hin 2 (by simp) (by omega)
    have i4 := hin 3 (by simp) (by omega)
    simp only [List.getElem_cons_zero, List.getElem_cons_succ] at i1 i2 i3 i4
    simp only [inR, decide_eq_true_eq] at i1 i2 i3 i4
    have hr : (Rw.ok ⟨g, l, m, p, b, s⟩) = (decide (0 ≤ b ∧ b ≤ 65536) && decide (0 ≤ s ∧ s ≤ 255)) := by simp [Rw.ok, inR, i1, i2, i3, i4]
    (refine gw ?_; first | refine IfB.dec (fun h2 => ?_) (fun h2 => ?_) | refine IfB.eq (fun h2 => ?_) (fun h2 => ?_) | refine IfB.ne (fun h2 => ?_) (fun h2 => ?_) | refine IfB.mk (fun h2 => ?_) (fun h2 => ?_))
    · rw [bad (by rw [hr]; simp; omega)]
      (refine gw ?_; exact RetN.mk ⟨[], rfl, rfl, rfl⟩)
    · (refine gw ?_; first | refine IfB.dec (fun h3 => ?_) (fun h3 => ?_) | refine IfB.eq (fun h3 => ?_) (fun h3 => ?_) | refine IfB.ne (fun h3 => ?_) (fun h3 => ?_) | refine IfB.mk (fun h3 => ?_) (fun h3 => ?_))
      · rw [bad (by rw [hr]; simp; omega)]
        (refine gw ?_; exact RetN.mk ⟨[], rfl, rfl, rfl⟩)
      · (refine gw ?_; first | refine IfB.dec (fun h4 => ?_) (fun h4 => ?_) | refine IfB.eq (fun h4 => ?_) (fun h4 => ?_) | refine IfB.ne (fun h4 => ?_) (fun h4 => ?_) | refine IfB.mk (fun h4 => ?_) (fun h4 => ?_))
        · rw [bad (by rw [hr]; simp; omega)]
          (refine gw ?_; exact RetN.mk ⟨[], rfl, rfl, rfl⟩)
        · (refine gw ?_; first | refine IfB.dec (fun h5 => ?_) (fun h5 => ?_) | refine IfB.eq (fun h5 => ?_) (fun h5 => ?_) | refine IfB.ne (fun h5 => ?_) (fun h5 => ?_) | refine IfB.mk (fun h5 => ?_) (fun h5 => ?_))
          · rw [bad (by rw [hr]; simp; omega)]
            (refine gw ?_; exact RetN.mk ⟨[], rfl, rfl, rfl⟩)
          · have hok : Rw.ok ⟨g, l, m, p, b, s⟩ = true := by rw [hr]; simp; omega
            obtain ⟨G, hG⟩ : ∃ G, upN g.toNat = G := ⟨_, rfl⟩
            obtain ⟨N, hN⟩ : ∃ N, upN (max l.toNat G) = N := ⟨_, rfl⟩
            obtain ⟨Pg, hPg⟩ : ∃ Pg, upN (max p.toNat G) = Pg := ⟨_, rfl⟩
            obtain ⟨M, hM⟩ : ∃ M, rnd m.toNat (2 * max N Pg) = M := ⟨_, rfl⟩
            obtain ⟨K, hK⟩ : ∃ K, Nat.log2 (N / G) = K := ⟨_, rfl⟩
            have hcf : cfOf ⟨g, l, m, p, b, s⟩ = ⟨G, N, M, K, Pg, b.toNat, M + K * (M / 2), s.toNat⟩ := by
              unfold cfOf; simp only [hG, hN, hPg, hM, hK]
            have bG := upN_lt (v := g.toNat) (by omega)
            have bG0 := upN_pos g.toNat
            rw [hG] at bG bG0
            have bN := upN_lt (v := max l.toNat G) (by omega)
            rw [hN] at bN
            have bN0 := le_upN (max l.toNat G)
            rw [hN] at bN0
            have bP := upN_lt (v := max p.toNat G) (by omega)
            rw [hPg] at bP
            have c1 := refUp_told g.toNat (by omega) (by omega)
            rw [hG, show ((g.toNat : Nat) : Int) = g by omega] at c1
            have c2 := refUp_told (max l.toNat G) (by omega) (by omega)
            rw [hN, show ((max l.toNat G : Nat) : Int) = (if ((G : Nat) : Int) > l then ((G : Nat) : Int) else l) by split <;> omega] at c2
            have c3 := refUp_told (max p.toNat G) (by omega) (by omega)
            rw [hPg, show ((max p.toNat G : Nat) : Int) = (if ((G : Nat) : Int) > p then ((G : Nat) : Int) else p) by split <;> omega] at c3
            have c4 := refRound_told m.toNat (2 * max N Pg) (by omega) (by omega) (by omega)
            rw [hM, show ((2 * max N Pg : Nat) : Int) = 2 * (if ((Pg : Nat) : Int) > ((N : Nat) : Int) then ((Pg : Nat) : Int) else ((N : Nat) : Int)) by split <;> omega, show ((m.toNat : Nat) : Int) = m by omega] at c4
            obtain ⟨q, q1, q2, q3⟩ := rnd_spec (v := m.toNat) (t := 2 * max N Pg) (by omega)
            rw [hM] at q1 q2 q3
            obtain ⟨k0, hk0⟩ := pow_up (v := l.toNat) (hG ▸ upN_pow g.toNat)
            rw [hN] at hk0
            have hK0 : K = k0 := by rw [← hK]; exact log_of bG0 hk0
            have c5 := refLog_told ((N / G : Nat) : Int) (by have := Nat.div_le_self N G; omega)
            have e5 : N / G = 2 ^ K := by rw [hk0, hK0, Nat.mul_div_cancel_left _ (by omega)]
            rw [e5, logF_pow, ← e5, show ((N / G : Nat) : Int) = ((N : Nat) : Int).tdiv ((G : Nat) : Int) by rw [Int.tdiv_eq_ediv_of_nonneg (by omega)]; omega] at c5
            have bK : K < 20 := by
              have h6 : 2 ^ K ≤ 2 ^ 18 := by rw [← e5]; have := Nat.div_le_self N G; omega
              have := (Nat.pow_le_pow_iff_right (a := 2) (by omega)).1 h6
              omega
            have bKM : K * (M / 2) ≤ 20 * (M / 2) := Nat.mul_le_mul_right _ (by omega)
            have hM2 : ((M : Nat) : Int).tdiv 2 = ((M / 2 : Nat) : Int) := by rw [Int.tdiv_eq_ediv_of_nonneg (by omega)]; omega
            have hKM : ((K : Nat) : Int) * ((M / 2 : Nat) : Int) = ((K * (M / 2) : Nat) : Int) := by rw [Int.natCast_mul]
            (refine gw ?_; refine Choice.mk ⟨false, Choice.mk ⟨false, _, _, c1, ?_⟩⟩)
            (refine gw ?_; refine Choice.mk ⟨false, Choice.mk ⟨false, _, _, c2, ?_⟩⟩)
            (refine gw ?_; refine Choice.mk ⟨false, Choice.mk ⟨false, _, _, c3, ?_⟩⟩)
            (refine gw ?_; refine Choice.mk ⟨false, Choice.mk ⟨false, _, _, c4, ?_⟩⟩)
            have hdiv : ((N : Nat) : Int).tdiv ((G : Nat) : Int) = ((N / G : Nat) : Int) := by rw [Int.tdiv_eq_ediv_of_nonneg (by omega)]; omega
            have hdle := Nat.div_le_self N G
            have hd0 : (0 : Int) ≤ ((N / G : Nat) : Int) := Int.natCast_nonneg _
            (refine gw ?_)
            (refine gw ?_; refine Choice.mk ⟨false, Choice.mk ⟨true, _, _, c5, ?_⟩⟩)
            (refine gw ?_)
            rw [hM2]
            (refine gw ?_)
            rw [hKM]
            (refine gw ?_)
            have hH : (M : Int) + ((K * (M / 2) : Nat) : Int) = ((M + K * (M / 2) : Nat) : Int) := by omega
            rw [hH]
            (refine gw ?_; first | refine IfB.dec (fun h6 => ?_) (fun h6 => ?_) | refine IfB.eq (fun h6 => ?_) (fun h6 => ?_) | refine IfB.ne (fun h6 => ?_) (fun h6 => ?_) | refine IfB.mk (fun h6 => ?_) (fun h6 => ?_))
            · rw [show ofF ⟨g, l, m, p, b, s⟩ = (cf0, 1) by unfold ofF; rw [if_neg (by rw [hcf]; simp only; omega)]]
              (refine gw ?_; exact RetN.mk ⟨[], rfl, rfl, rfl⟩)
            · rw [show ofF ⟨g, l, m, p, b, s⟩ = (cfOf ⟨g, l, m, p, b, s⟩, 0) by unfold ofF; rw [if_pos ⟨hok, by rw [hcf]; simp only; omega⟩], hcf]
              (refine gw ?_; refine RetN.mk ⟨[], rfl, ?_, rfl⟩)
              rw [show b = ((b.toNat : Nat) : Int) by omega, show s = ((s.toNat : Nat) : Int) by omega]
              rfl

theorem Cf.Ok.gpos {c : Cf} (h : c.Ok) : 1 ≤ c.G := by obtain ⟨a, e⟩ := h.g; rw [e]; exact Nat.one_le_two_pow
theorem Cf.Ok.nM {c : Cf} (h : c.Ok) : 2 * c.N ≤ c.M := by
  obtain ⟨q, e⟩ := h.m
  have := h.m1
  cases q with
  | zero => rw [Nat.mul_zero] at e; omega
  | succ q =>
    rw [Nat.mul_succ] at e
    have := Nat.zero_le (2 * max c.N c.Pg * q)
    omega
theorem Cf.Ok.mH {c : Cf} (h : c.Ok) : c.M ≤ 65536 := by have := h.h; have := h.h2; omega
theorem Cf.Ok.lL {c : Cf} (h : c.Ok) : c.L ≤ 16 := by
  have h1 := h.nM
  have h2 := h.mH
  have h3 := h.n
  have h4 := h.gpos
  have h5 : 2 ^ c.L ≤ 2 ^ 15 := by
    have : 1 * 2 ^ c.L ≤ c.G * 2 ^ c.L := Nat.mul_le_mul_right _ h4
    omega
  have := (Nat.pow_le_pow_iff_right (a := 2) (by omega)).1 h5
  omega
end Go.Ev.W
namespace Go.Ev.W
open Go.Ev Go.Ev.N

theorem pow2_bit {n : Nat} (h : 1 ≤ n) : n &&& (n - 1) = 0 ↔ n = 2 ^ Nat.log2 n := by
  have h1 : 2 ^ Nat.log2 n ≤ n := Nat.log2_self_le (by omega)
  have h2 : n < 2 ^ (Nat.log2 n + 1) := Nat.lt_log2_self
  constructor
  · intro h0
    by_cases e : n = 2 ^ Nat.log2 n
    · exact e
    · exfalso
      have hb1 : n.testBit (Nat.log2 n) = true := by
        rw [Nat.testBit_eq_decide_div_mod_eq]
        refine decide_eq_true ?_
        have : n / 2 ^ Nat.log2 n = 1 := by
          rw [Nat.pow_succ] at h2
          exact Nat.div_eq_of_lt_le (by omega) (by omega)
        rw [this]
      have hb2 : (n - 1).testBit (Nat.log2 n) = true := by
        rw [Nat.testBit_eq_decide_div_mod_eq]
        refine decide_eq_true ?_
        have : (n - 1) / 2 ^ Nat.log2 n = 1 := by
          rw [Nat.pow_succ] at h2
          exact Nat.div_eq_of_lt_le (by omega) (by omega)
        rw [this]
      have : (n &&& (n - 1)).testBit (Nat.log2 n) = true := by rw [Nat.testBit_and, hb1, hb2]; rfl
      rw [h0, Nat.zero_testBit] at this
      cases this
  · intro e
    generalize Nat.log2 n = k at *
    subst e
    rw [Nat.and_two_pow_sub_one_eq_mod, Nat.mod_self]
theorem size_told8 (k : Nat) (hk : k ≤ 16) : Told P T ref8_size [] [i64 k] (i64 (2 ^ k : Nat)) [] := by
  refine told_of_ev (fn := ref8_size_fn) tabOk mixed (by kernel_rfl) (by kernel_rfl) (by kernel_rfl) (by kernel_rfl) ?_
  (refine gw ?_; refine LoopN.mk ⟨[0,3,4], fun vs L => ∃ i : Nat, vs = [i64 k, i64 (2 ^ i : Nat), i64 i] ∧ L = [] ∧ i ≤ k, fun vs L => match vs with | [_, _, .int _ i] => k - i.toNat | _ => 0, [], [], rfl, ⟨0, rfl, rfl, by omega⟩, ?_⟩)
  rintro vs L ⟨i, rfl, rfl, hi⟩
  have hp : 2 ^ i ≤ 2 ^ 16 := Nat.pow_le_pow_right (by omega) (by omega)
  have hp2 := pow2_mul (i := i) (by omega)
  by_cases h : i < k
  · generalize 2 ^ i = p at *
    (refine gw ?_; refine IfB.tt (by simp; omega) ?_)
    (refine gw ?_; refine ⟨[], [], rfl, ⟨i + 1, by rw [← hp2]; rfl, rfl, h⟩, (by omega : k - ((i : Int) + 1).toNat < k - (i : Int).toNat)⟩)
  · obtain rfl : i = k := by omega
    (refine gw ?_; exact RetN.mk ⟨[], rfl, rfl, rfl⟩)
theorem putMarkZ (l : List M) (hr : Rise l) (m : M) (hl : l.length ≤ 1000000) : Told P T ref8_PutMark [] [lM l, encM m] (.ref 0) [.row t_api_Mark ((putM l m).map encM)] := putMark_told l hr m hl
set_option maxHeartbeats 1000000 in
theorem rPlace_told {G g c : Nat} {b : Nat → Bool} {l : List M} (h : EgOk G g c l) (cl : Int) (hcl : -9223372036854775808 ≤ cl ∧ cl ≤ 9223372036854775807) :
    Told P T ref8_Place [] [eE G g c b l, i64 cl] (.tup [eE G g c (placeB g c b cl) (placeL G g c b l cl), i64 (placeA G g c b cl), .bool (lowS g c b cl).isSome]) [] := by
  have c1 := rLowest_told h.sl b cl hcl
  have hml : (l.map encM).length = l.length := by simp
  have hl := h.len
  unfold placeB placeL placeA
  cases hi : lowS g c b cl with
  | none =>
    rw [hi] at c1
    refine told_of_ev (fn := ref8_Place_fn) tabOk mixed (by kernel_rfl) (by kernel_rfl) (by kernel_rfl) (by kernel_rfl) ?_
    (refine gw ?_; refine Choice.mk ⟨false, Choice.mk ⟨false, _, _, c1, ?_⟩⟩)
    (refine gw ?_; exact RetN.mk ⟨[], rfl, rfl, rfl⟩)
  | some i =>
    rw [hi] at c1
    obtain ⟨k, rfl, hk, hik, _, _⟩ := lowS_lt h.sl hi
    have hb := sz_bound h.sl h.gG hk hik
    have hg2 := h.sl.g2
    have h17 := h.sl.c17
    simp only [Int.toNat_natCast]
    have c2 := size_told8 k (by omega)
    have c3 := rUse_told h.sl b (i * 2 ^ k : Nat) (2 ^ k : Nat) (by omega) true
    have c4 := putMark_told l h.rise ⟨(i * 2 ^ k * G : Nat), k⟩ (by omega)
    have hG : ((i * 2 ^ k : Nat) : Int) * (G : Int) = ((i * 2 ^ k * G : Nat) : Int) := (Int.natCast_mul _ G).symm
    have hI : (i : Int) * ((2 ^ k : Nat) : Int) = ((i * 2 ^ k : Nat) : Int) := (Int.natCast_mul _ _).symm
    have hle : i * 2 ^ k ≤ 65536 := by omega
    generalize i * 2 ^ k * G = a at *
    generalize i * 2 ^ k = f at *
    generalize 2 ^ k = n at *
    refine told_of_ev (fn := ref8_Place_fn) tabOk mixed (by kernel_rfl) (by kernel_rfl) (by kernel_rfl) (by kernel_rfl) ?_
    (refine gw ?_; refine Choice.mk ⟨false, Choice.mk ⟨false, _, _, c1, ?_⟩⟩)
    (refine gw ?_; refine Choice.mk ⟨false, Choice.mk ⟨false, _, _, c2, ?_⟩⟩)
    (refine gw ?_)
    rw [hI]
    (refine gw ?_)
    rw [hG]
    (refine gw ?_)
    rw [hI]
    (refine gw ?_; refine Choice.mk ⟨false, Choice.mk ⟨false, _, _, c3, ?_⟩⟩)
    (refine gw ?_; refine Choice.mk ⟨false, Choice.mk ⟨false, _, _, c4, ?_⟩⟩)
    (refine gw ?_)
    exact RetN.fz ⟨[true], [], rfl, rfl, rfl⟩
set_option maxHeartbeats 1000000 in
theorem rRel_told {G g c : Nat} {b : Nat → Bool} {l : List M} (h : EgOk G g c l) (y : Int) (hy : -9223372036854775808 ≤ y ∧ y ≤ 9223372036854775807) :
    Told P T ref8_Release [] [eE G g c b l, i64 y] (.tup [eE G g c (relB G b l y) (relL l y), i64 (relK l y), .bool (isAt y l)]) [] := by
  unfold relB relL relK
  cases hi : isAt y l with
  | false =>
    have c1 := takeMark_no l h.rise y (by have := h.len; omega) hi
    refine told_of_ev (fn := ref8_Release_fn) tabOk mixed (by kernel_rfl) (by kernel_rfl) (by kernel_rfl) (by kernel_rfl) ?_
    (refine gw ?_; refine Choice.mk ⟨false, Choice.mk ⟨false, _, _, c1, ?_⟩⟩)
    (refine gw ?_; exact RetN.mk ⟨[], rfl, rfl, rfl⟩)
  | true =>
    have c1 := takeMark_yes l h.rise y (by have := h.len; omega) hi
    obtain ⟨y1, y2, y3, y4⟩ := relL_at h hi
    obtain ⟨a, rfl⟩ : ∃ a : Nat, y = a := ⟨y.toNat, by omega⟩
    have hg1 := h.g1
    have hg2 := h.sl.g2
    have h17 := h.sl.c17
    simp only [if_true] at c1 ⊢
    generalize takeM l a = l2 at *
    obtain ⟨k, hk⟩ : ∃ k : Nat, clsM l a = k := ⟨(clsM l a).toNat, by omega⟩
    rw [hk] at c1 y4 ⊢
    simp only [Int.toNat_natCast]
    have hdv : ((a : Nat) : Int).tdiv (G : Int) = ((a / G : Nat) : Int) := (Int.ofNat_tdiv a G).symm
    have hdl : a / G ≤ a := Nat.div_le_self a G
    have c2 := size_told8 k (by omega)
    have hp2 : 2 ^ k ≤ 2 ^ 16 := Nat.pow_le_pow_right (by omega) (by omega)
    generalize a / G = f at *
    generalize 2 ^ k = n at *
    have c3 := rUse_told h.sl b f n (by omega) false
    have hGne : ((G : Nat) : Int) ≠ 0 := by omega
    refine told_of_ev (fn := ref8_Release_fn) tabOk mixed (by kernel_rfl) (by kernel_rfl) (by kernel_rfl) (by kernel_rfl) ?_
    (refine gw ?_; refine Choice.mk ⟨false, Choice.mk ⟨false, _, _, c1, ?_⟩⟩)
    (refine gw ?_; refine Choice.mk ⟨false, Choice.mk ⟨false, _, _, c2, ?_⟩⟩)
    (refine gw ?_)
    rw [hdv]
    (refine gw ?_; refine Choice.mk ⟨false, Choice.mk ⟨false, _, _, c3, ?_⟩⟩)
    (refine gw ?_)
    exact RetN.fz ⟨[true], [], rfl, rfl, rfl⟩
theorem sameE_told {G g c : Nat} {b : Nat → Bool} {l : List M} (h : EgOk G g c l) : Told P T ref8_SameEngine [] [eE G g c b l, eE G g c b l] (.bool true) [] := by
  have c1 : Told P T ref8_SameSlots [] [.agg [.lst t_api_Tree (tL g c b)], .agg [.lst t_api_Tree (tL g c b)]] (.bool true) [] := sameS_told h.sl b
  have c2 := sameMarks l l (by have := h.len; omega)
  rw [decide_eq_true rfl] at c2
  refine told_of_ev (fn := ref8_SameEngine_fn) tabOk mixed (by kernel_rfl) (by kernel_rfl) (by kernel_rfl) (by kernel_rfl) ?_
  (refine gw ?_; refine Choice.mk ⟨false, Choice.mk ⟨false, _, _, c1, ?_⟩⟩)
  (refine gw ?_; refine Choice.mk ⟨false, Choice.mk ⟨false, _, _, c2, ?_⟩⟩)
  (refine gw ?_; exact RetN.mk ⟨[], rfl, rfl, rfl⟩)
theorem sameEN_told : Told P T ref8_SameEngine [] [eN, eN] (.bool true) [] := by
  have c1 : Told P T ref8_SameSlots [] [.agg [.lst t_api_Tree []], .agg [.lst t_api_Tree []]] (.bool true) [] := sameSN_told
  have c2 : Told P T ref8_SameMarks [] [.lst t_api_Mark [], .lst t_api_Mark []] (.bool true) [] := sameMarks [] [] (by simp)
  refine told_of_ev (fn := ref8_SameEngine_fn) tabOk mixed (by kernel_rfl) (by kernel_rfl) (by kernel_rfl) (by kernel_rfl) ?_
  (refine gw ?_; refine Choice.mk ⟨false, Choice.mk ⟨false, _, _, c1, ?_⟩⟩)
  (refine gw ?_; refine Choice.mk ⟨false, Choice.mk ⟨false, _, _, c2, ?_⟩⟩)
  (refine gw ?_; exact RetN.mk ⟨[], rfl, rfl, rfl⟩)
end Go.Ev.W
namespace Go.Ev.W
open Go.Ev Go.Ev.N

def sNw (g c : Int) : List AV := if SlOkI g c then tL g.toNat c.toNat offB else []
theorem sNw_told {g c : Int} (hg : -9223372036854775808 ≤ g ∧ g ≤ 9223372036854775807) (hc : -9223372036854775808 ≤ c ∧ c ≤ 9223372036854775807) : Told P T slots_New [] [i64 g, i64 c] (.agg [.lst t_api_Tree (sNw g c)]) [] := by
  unfold sNw
  by_cases h : SlOkI g c
  · rw [if_pos h]
    obtain ⟨n, rfl⟩ : ∃ n : Nat, g = n := ⟨g.toNat, by have := h.2.2.1; omega⟩
    obtain ⟨k, rfl⟩ : ∃ k : Nat, c = k := ⟨c.toNat, by have := h.1; omega⟩
    exact slNew_told h.ok
  · rw [if_neg h]
    exact slNewNo_told h hg hc
theorem rNw_told {g c : Int} (hg : -9223372036854775808 ≤ g ∧ g ≤ 9223372036854775807) (hc : -9223372036854775808 ≤ c ∧ c ≤ 9223372036854775807) : Told P T ref8_NewSlots [] [i64 g, i64 c] (.agg [.lst t_api_Tree (sNw g c)]) [] := by
  have t := rNewSlots_told g c hg hc
  unfold sNw
  by_cases h : SlOkI g c
  · rw [if_pos h] at t ⊢; exact t
  · rw [if_neg h] at t ⊢; exact t
theorem sNw_len (g c : Int) : (sNw g c).length = if SlOkI g c then c.toNat else 0 := by
  unfold sNw
  split
  · rw [tL_len]
  · rfl
/-- May there be such an engine? -/
def NwOk (G g c : Int) : Prop := (1 ≤ G ∧ G ≤ 65536 ∧ G.toNat = 2 ^ Nat.log2 G.toNat) ∧ SlOkI g c ∧ g ≤ ((65536 / G.toNat : Nat) : Int)
instance (G g c : Int) : Decidable (NwOk G g c) := by unfold NwOk; infer_instance
def nwE (G g c : Int) : AV := if NwOk G g c then eE G.toNat g.toNat c.toNat offB [] else eN
theorem and_pred {n : Nat} (h : 1 ≤ n) (h2 : n ≤ 65536) : bitsOp .and .i64 (n : Int) ((n : Int) - 1) = ((n &&& (n - 1) : Nat) : Int) := by
  rw [show ((n : Nat) : Int) - 1 = ((n - 1 : Nat) : Int) by omega]
  exact and64i (by omega) (by omega)
theorem NwOk.eg {G g c : Int} (h : NwOk G g c) : EgOk G.toNat g.toNat c.toNat [] := by
  obtain ⟨⟨h1, h2, h3⟩, h4, h5⟩ := h
  obtain ⟨n, rfl⟩ : ∃ n : Nat, G = n := ⟨G.toNat, by omega⟩
  obtain ⟨m, rfl⟩ : ∃ m : Nat, g = m := ⟨g.toNat, by have := h4.2.2.1; omega⟩
  obtain ⟨k, rfl⟩ : ∃ k : Nat, c = k := ⟨c.toNat, by have := h4.1; omega⟩
  simp only [Int.toNat_natCast] at *
  refine ⟨h4.ok, by omega, ?_, List.Pairwise.nil, by simp, by simp⟩
  have : m * n ≤ 65536 / n * n := Nat.mul_le_mul_right _ (by omega)
  have h6 := Nat.div_mul_le_self 65536 n
  omega
set_option maxHeartbeats 1000000 in
theorem plNew_told (G g c : Int) (hG : -9223372036854775808 ≤ G ∧ G ≤ 9223372036854775807) (hg : -9223372036854775808 ≤ g ∧ g ≤ 9223372036854775807) (hc : -9223372036854775808 ≤ c ∧ c ≤ 9223372036854775807) : Told P T place_New [] [i64 G, i64 g, i64 c] (.tup [nwE G g c, .bool (decide (NwOk G g c))]) [] := by
  have no : ¬ NwOk G g c → (nwE G g c = eN ∧ decide (NwOk G g c) = false) := fun h => ⟨by unfold nwE; rw [if_neg h], decide_eq_false h⟩
  by_cases h1 : G < 1
  · obtain ⟨e1, e2⟩ := no fun h => by have := h.1.1; omega
    rw [e1, e2]
    refine told_of_ev (fn := place_New_fn) tabOk mixed (by kernel_rfl) (by kernel_rfl) (by kernel_rfl) (by kernel_rfl) ?_
    (refine gw ?_; refine IfB.tt (by simp; omega) ?_)
    (refine gw ?_)
    exact RetN.fz ⟨[true], [], rfl, rfl, rfl⟩
  · by_cases h2 : G > 65536
    · obtain ⟨e1, e2⟩ := no fun h => by have := h.1.2.1; omega
      rw [e1, e2]
      refine told_of_ev (fn := place_New_fn) tabOk mixed (by kernel_rfl) (by kernel_rfl) (by kernel_rfl) (by kernel_rfl) ?_
      (refine gw ?_; refine IfB.ff (by simp; omega) ?_)
      (refine gw ?_; refine IfB.tt (by simp; omega) ?_)
      (refine gw ?_)
      exact RetN.fz ⟨[true], [], rfl, rfl, rfl⟩
    · obtain ⟨n, rfl⟩ : ∃ n : Nat, G = n := ⟨G.toNat, by omega⟩
      have hand := and_pred (n := n) (by omega) (by omega)
      have hbit := pow2_bit (n := n) (by omega)
      have c1 := sNw_told hg hc
      have hl := sNw_len g c
      have hdv : (65536 : Int).tdiv (n : Int) = ((65536 / n : Nat) : Int) := (Int.ofNat_tdiv 65536 n).symm
      have hne : ((n : Nat) : Int) ≠ 0 := by omega
      by_cases h3 : n = 2 ^ Nat.log2 n
      · rw [hbit.2 h3] at hand
        by_cases h4 : SlOkI g c
        · rw [if_pos h4] at hl
          have hd2 : 65536 / n ≤ 65536 := Nat.div_le_self _ _
          by_cases h5 : g ≤ ((65536 / n : Nat) : Int)
          · have hok : NwOk n g c := ⟨⟨by omega, by omega, h3⟩, h4, h5⟩
            have e1 : nwE n g c = .agg [i64 n, .lst t_api_Tree (sNw g c), .lst t_api_Mark []] := by unfold nwE sNw; rw [if_pos hok, if_pos h4]; rfl
            rw [e1, decide_eq_true hok]
            have h41 := h4.1
            generalize 65536 / n = q at *
            refine told_of_ev (fn := place_New_fn) tabOk mixed (by kernel_rfl) (by kernel_rfl) (by kernel_rfl) (by kernel_rfl) ?_
            (refine gw ?_; refine IfB.ff (by simp; omega) ?_)
            (refine gw ?_; refine IfB.ff (by simp; omega) ?_)
            (refine gw ?_)
            rw [hand]
            (refine gw ?_; refine Choice.mk ⟨false, Choice.mk ⟨false, _, _, c1, ?_⟩⟩)
            (refine gw ?_)
            rw [hl]
            (refine gw ?_; refine IfB.ff (by simp; omega) ?_)
            (refine gw ?_)
            rw [hdv]
            (refine gw ?_; refine IfB.ff (by simp; omega) ?_)
            (refine gw ?_)
            exact RetN.fz ⟨[true], [], rfl, rfl, rfl⟩
          · obtain ⟨e1, e2⟩ := no fun h => h5 h.2.2
            rw [e1, e2]
            have h41 := h4.1
            generalize 65536 / n = q at *
            refine told_of_ev (fn := place_New_fn) tabOk mixed (by kernel_rfl) (by kernel_rfl) (by kernel_rfl) (by kernel_rfl) ?_
            (refine gw ?_; refine IfB.ff (by simp; omega) ?_)
            (refine gw ?_; refine IfB.ff (by simp; omega) ?_)
            (refine gw ?_)
            rw [hand]
            (refine gw ?_; refine Choice.mk ⟨false, Choice.mk ⟨false, _, _, c1, ?_⟩⟩)
            (refine gw ?_)
            rw [hl]
            (refine gw ?_; refine IfB.ff (by simp; omega) ?_)
            (refine gw ?_)
            rw [hdv]
            (refine gw ?_; refine IfB.tt (by simp; omega) ?_)
            (refine gw ?_)
            exact RetN.fz ⟨[true], [], rfl, rfl, rfl⟩
        · rw [if_neg h4] at hl
          obtain ⟨e1, e2⟩ := no fun h => h4 h.2.1
          rw [e1, e2]
          refine told_of_ev (fn := place_New_fn) tabOk mixed (by kernel_rfl) (by kernel_rfl) (by kernel_rfl) (by kernel_rfl) ?_
          (refine gw ?_; refine IfB.ff (by simp; omega) ?_)
          (refine gw ?_; refine IfB.ff (by simp; omega) ?_)
          (refine gw ?_)
          rw [hand]
          (refine gw ?_; refine Choice.mk ⟨false, Choice.mk ⟨false, _, _, c1, ?_⟩⟩)
          (refine gw ?_)
          rw [hl]
          (refine gw ?_)
          exact RetN.fz ⟨[true], [], rfl, rfl, rfl⟩
      · have hr : n &&& (n - 1) ≠ 0 := fun e => h3 (hbit.1 e)
        obtain ⟨e1, e2⟩ := no fun h => h3 h.1.2.2
        rw [e1, e2]
        generalize n &&& (n - 1) = r at *
        refine told_of_ev (fn := place_New_fn) tabOk mixed (by kernel_rfl) (by kernel_rfl) (by kernel_rfl) (by kernel_rfl) ?_
        (refine gw ?_; refine IfB.ff (by simp; omega) ?_)
        (refine gw ?_; refine IfB.ff (by simp; omega) ?_)
        (refine gw ?_)
        rw [hand]
        (refine gw ?_; refine IfB.tt (by simp; omega) ?_)
        (refine gw ?_)
        exact RetN.fz ⟨[true], [], rfl, rfl, rfl⟩
theorem logF_two (v : Int) : (logF v).2 = decide (1 ≤ v ∧ v.toNat = 2 ^ Nat.log2 v.toNat) := by
  unfold logF
  by_cases h : 1 ≤ v ∧ v = ((2 ^ Nat.log2 v.toNat : Nat) : Int)
  · rw [if_pos h]
    refine (decide_eq_true ⟨h.1, ?_⟩).symm
    obtain ⟨n, rfl⟩ : ∃ n : Nat, v = n := ⟨v.toNat, by omega⟩
    exact Int.ofNat.inj h.2
  · rw [if_neg h]
    refine (decide_eq_false fun e => h ⟨e.1, ?_⟩).symm
    obtain ⟨n, rfl⟩ : ∃ n : Nat, v = n := ⟨v.toNat, by omega⟩
    exact congrArg Int.ofNat e.2
set_option maxHeartbeats 1000000 in
theorem rNewE_told (G g c : Int) (hG : -9223372036854775808 ≤ G ∧ G ≤ 9223372036854775807) (hg : -9223372036854775808 ≤ g ∧ g ≤ 9223372036854775807) (hc : -9223372036854775808 ≤ c ∧ c ≤ 9223372036854775807) : Told P T ref8_NewEngine [] [i64 G, i64 g, i64 c] (.tup [nwE G g c, .bool (decide (NwOk G g c))]) [] := by
  have no : ¬ NwOk G g c → (nwE G g c = eN ∧ decide (NwOk G g c) = false) := fun h => ⟨by unfold nwE; rw [if_neg h], decide_eq_false h⟩
  have c0 := refLog_told G hG.2
  rw [logF_two] at c0
  generalize (logF G).1 = lg at *
  have c1 := rNw_told hg hc
  have hl := sNw_len g c
  by_cases h3 : 1 ≤ G ∧ G.toNat = 2 ^ Nat.log2 G.toNat
  · rw [decide_eq_true h3] at c0
    by_cases h2 : G > 65536
    · obtain ⟨e1, e2⟩ := no fun h => by have := h.1.2.1; omega
      rw [e1, e2]
      refine told_of_ev (fn := ref8_NewEngine_fn) tabOk mixed (by kernel_rfl) (by kernel_rfl) (by kernel_rfl) (by kernel_rfl) ?_
      (refine gw ?_; refine Choice.mk ⟨false, Choice.mk ⟨false, _, _, c0, ?_⟩⟩)
      (refine gw ?_; refine Choice.mk ⟨false, Choice.mk ⟨false, _, _, c1, ?_⟩⟩)
      (refine gw ?_; refine IfB.tt (by simp; omega) ?_)
      (refine gw ?_)
      exact RetN.fz ⟨[true], [], rfl, rfl, rfl⟩
    · obtain ⟨n, rfl⟩ : ∃ n : Nat, G = n := ⟨G.toNat, by omega⟩
      have hdv : (65536 : Int).tdiv (n : Int) = ((65536 / n : Nat) : Int) := (Int.ofNat_tdiv 65536 n).symm
      have hd2 : 65536 / n ≤ 65536 := Nat.div_le_self _ _
      have hne : ((n : Nat) : Int) ≠ 0 := by omega
      rw [Int.toNat_natCast] at h3
      by_cases h4 : SlOkI g c
      · rw [if_pos h4] at hl
        have h41 := h4.1
        by_cases h5 : g ≤ ((65536 / n : Nat) : Int)
        · have hok : NwOk n g c := ⟨⟨by omega, by omega, h3.2⟩, h4, h5⟩
          have e1 : nwE n g c = .agg [i64 n, .lst t_api_Tree (sNw g c), .lst t_api_Mark []] := by unfold nwE sNw; rw [if_pos hok, if_pos h4]; rfl
          rw [e1, decide_eq_true hok]
          have h31 := h3.1
          clear h3
          generalize 65536 / n = q at *
          refine told_of_ev (fn := ref8_NewEngine_fn) tabOk mixed (by kernel_rfl) (by kernel_rfl) (by kernel_rfl) (by kernel_rfl) ?_
          (refine gw ?_; refine Choice.mk ⟨false, Choice.mk ⟨false, _, _, c0, ?_⟩⟩)
          (refine gw ?_; refine Choice.mk ⟨false, Choice.mk ⟨false, _, _, c1, ?_⟩⟩)
          (refine gw ?_; refine IfB.ff (by simp; omega) ?_)
          (refine gw ?_)
          rw [hl]
          (refine gw ?_; refine IfB.ff (by simp; omega) ?_)
          (refine gw ?_)
          rw [hdv]
          (refine gw ?_; refine IfB.ff (by simp; omega) ?_)
          (refine gw ?_)
          exact RetN.fz ⟨[true], [], rfl, rfl, rfl⟩
        · obtain ⟨e1, e2⟩ := no fun h => h5 h.2.2
          rw [e1, e2]
          clear h3
          generalize 65536 / n = q at *
          refine told_of_ev (fn := ref8_NewEngine_fn) tabOk mixed (by kernel_rfl) (by kernel_rfl) (by kernel_rfl) (by kernel_rfl) ?_
          (refine gw ?_; refine Choice.mk ⟨false, Choice.mk ⟨false, _, _, c0, ?_⟩⟩)
          (refine gw ?_; refine Choice.mk ⟨false, Choice.mk ⟨false, _, _, c1, ?_⟩⟩)
          (refine gw ?_; refine IfB.ff (by simp; omega) ?_)
          (refine gw ?_)
          rw [hl]
          (refine gw ?_; refine IfB.ff (by simp; omega) ?_)
          (refine gw ?_)
          rw [hdv]
          (refine gw ?_; refine IfB.tt (by simp; omega) ?_)
          (refine gw ?_)
          exact RetN.fz ⟨[true], [], rfl, rfl, rfl⟩
      · rw [if_neg h4] at hl
        obtain ⟨e1, e2⟩ := no fun h => h4 h.2.1
        rw [e1, e2]
        clear h3
        refine told_of_ev (fn := ref8_NewEngine_fn) tabOk mixed (by kernel_rfl) (by kernel_rfl) (by kernel_rfl) (by kernel_rfl) ?_
        (refine gw ?_; refine Choice.mk ⟨false, Choice.mk ⟨false, _, _, c0, ?_⟩⟩)
        (refine gw ?_; refine Choice.mk ⟨false, Choice.mk ⟨false, _, _, c1, ?_⟩⟩)
        (refine gw ?_; refine IfB.ff (by simp; omega) ?_)
        (refine gw ?_)
        rw [hl]
        (refine gw ?_)
        exact RetN.fz ⟨[true], [], rfl, rfl, rfl⟩
  · rw [decide_eq_false h3] at c0
    obtain ⟨e1, e2⟩ := no fun h => h3 ⟨h.1.1, h.1.2.2⟩
    rw [e1, e2]
    refine told_of_ev (fn := ref8_NewEngine_fn) tabOk mixed (by kernel_rfl) (by kernel_rfl) (by kernel_rfl) (by kernel_rfl) ?_
    (refine gw ?_; refine Choice.mk ⟨false, Choice.mk ⟨false, _, _, c0, ?_⟩⟩)
    (refine gw ?_; refine Choice.mk ⟨false, Choice.mk ⟨false, _, _, c1, ?_⟩⟩)
    (refine gw ?_)
    exact RetN.fz ⟨[true], [], rfl, rfl, rfl⟩
end Go.Ev.W
namespace Go.Ev.W
open Go.Ev Go.Ev.N

theorem eE_congr {G g c : Nat} {b b' : Nat → Bool} (l : List M) (h : ∀ x, x < g → b x = b' x) : eE G g c b l = eE G g c b' l := by unfold eE; rw [tL_congr h]
theorem nw_yes {G g c : Nat} (h : NwOk G g c) : nwE G g c = eE G g c offB [] := by unfold nwE; rw [if_pos h]; simp only [Int.toNat_natCast]
def f11 : Nat → Bool := setZ offB 0 2 true
theorem ok283 : NwOk 2 8 3 := by decide
theorem eg283 : EgOk 2 8 3 [] := ok283.eg
set_option maxHeartbeats 2000000 in
theorem begun11_told : Told P T law11_begun [] [] (.bool true) [] := by
  have c1 := plNew_told 2 8 3 (by omega) (by omega) (by omega)
  rw [decide_eq_true ok283, show nwE 2 8 3 = eE 2 8 3 offB [] from nw_yes ok283] at c1
  have c2 := plPlace_told eg283 (b := offB) 1 (by omega)
  have hl : lowS 8 3 offB 1 = some 0 := by decide
  have e1 : placeB 8 3 offB 1 = f11 := by unfold placeB; rw [hl]; rfl
  have e2 : placeL 2 8 3 offB [] 1 = [⟨0, 1⟩] := by unfold placeL; rw [hl]; decide
  have e3 : placeA 2 8 3 offB 1 = 0 := by unfold placeA; rw [hl]; decide
  have okf : EgOk 2 8 3 [⟨0, 1⟩] := by
    have := placeL_ok (b := offB) eg283 (by simp) 1
    rw [e2] at this; exact this
  rw [e1, e2, e3, hl] at c2
  have c3 := plRel_told okf (b := f11) 0 (by omega)
  have i1 : isAt 0 [⟨0, 1⟩] = true := by decide
  have e4 : relL [⟨0, 1⟩] 0 = [] := by decide
  have e5 : relK [⟨0, 1⟩] 0 = 1 := by decide
  have e6 : eE 2 8 3 (relB 2 f11 [⟨0, 1⟩] 0) [] = eE 2 8 3 offB [] := eE_congr _ (by decide)
  rw [i1, e4, e5, e6] at c3
  have c4 := plRel_told eg283 (b := offB) 0 (by omega)
  have i2 : isAt 0 [] = false := by decide
  have e7 : relB 2 offB [] 0 = offB := by unfold relB; rw [i2]; rfl
  have e8 : relL [] 0 = [] := by decide
  have e9 : relK [] 0 = 0 := by decide
  rw [i2, e7, e8, e9] at c4
  have c5 := plNew_told 3 8 3 (by omega) (by omega) (by omega)
  have n3 : ¬ NwOk 3 8 3 := by decide
  rw [decide_eq_false n3, show nwE 3 8 3 = eN by unfold nwE; rw [if_neg n3]] at c5
  have c6 := sameE_told eg283 (b := offB)
  unfold eE at *
  generalize tL 8 3 offB = t1 at *
  generalize tL 8 3 f11 = t2 at *
  refine told_of_ev (fn := law11_begun_fn) tabOk mixed (by kernel_rfl) (by kernel_rfl) (by kernel_rfl) (by kernel_rfl) ?_
  (refine gw ?_; refine Choice.mk ⟨false, Choice.mk ⟨false, _, _, c1, ?_⟩⟩)
  (refine gw ?_; refine Choice.mk ⟨false, Choice.mk ⟨false, _, _, c2, ?_⟩⟩)
  (refine gw ?_; refine Choice.mk ⟨false, Choice.mk ⟨false, _, _, c3, ?_⟩⟩)
  (refine gw ?_; refine Choice.mk ⟨false, Choice.mk ⟨false, _, _, c4, ?_⟩⟩)
  (refine gw ?_; refine Choice.mk ⟨false, Choice.mk ⟨false, _, _, c5, ?_⟩⟩)
  (refine gw ?_; refine Choice.mk ⟨false, Choice.mk ⟨false, _, _, c6, ?_⟩⟩)
  (refine gw ?_; exact RetN.mk ⟨[], rfl, rfl, rfl⟩)
abbrev enc2 (p : Nat × Nat) : AV := .agg [u8 p.1, u8 p.2]
theorem shp_2 {n t : Nat} {x : AV} (hk : (T t).k = .slice tx_a2_uint8) (h : Shp T (n + 3) t x) : ∃ l : List (Nat × Nat), x = .lst tx_a2_uint8 (l.map enc2) ∧ l.length ≤ maxLen ∧ ∀ p ∈ l, p.1 < 256 ∧ p.2 < 256 :=
  shp_list enc2 (fun p => p.1 < 256 ∧ p.2 < 256) hk h fun y hy => by
    obtain ⟨ys, rfl, hl, hn⟩ := (show ∃ ys : List AV, y = .agg (ys.flatMap cells) ∧ ys.length = 2 ∧ ∀ z ∈ ys, Shp T (n + 1) t_uint8 z from hy)
    match ys, hl, hn with
    | [u, v], _, hn =>
      obtain ⟨a, rfl, ha⟩ := shp_u8 (by kernel_rfl) (hn u (by simp))
      obtain ⟨b, rfl, hb⟩ := shp_u8 (by kernel_rfl) (hn v (by simp))
      exact ⟨(a, b), rfl, ha, hb⟩
end Go.Ev.W
namespace Go.Ev.W
open Go.Ev Go.Ev.N

theorem ok448 : NwOk 4 48 5 := by decide
theorem eg448 : EgOk 4 48 5 [] := ok448.eg
/-- Which engine there is, or none: two that are alike. -/
theorem nwBoth (G g c : Int) : Told P T ref8_SameEngine [] [nwE G g c, nwE G g c] (.bool true) [] := by
  unfold nwE
  by_cases h : NwOk G g c
  · rw [if_pos h]; exact sameE_told h.eg
  · rw [if_neg h]; exact sameEN_told
theorem nw_cells (G g c : Int) : ∃ (a : Int) (x y : List AV), nwE G g c = .agg [i64 a, .lst t_api_Tree x, .lst t_api_Mark y] := by
  unfold nwE
  by_cases h : NwOk G g c
  · rw [if_pos h]; exact ⟨_, _, _, rfl⟩
  · rw [if_neg h]; exact ⟨_, _, _, rfl⟩
theorem plLen (G g c : Nat) (b : Nat → Bool) (m : List M) (cl : Int) : (placeL G g c b m cl).length ≤ m.length + 1 := by
  unfold placeL
  cases lowS g c b cl with
  | none => simp
  | some i => exact putM_len _ _
theorem rlLen (m : List M) (y : Int) : (relL m y).length ≤ m.length := by
  unfold relL
  split
  · unfold takeM; simp; omega
  · exact Nat.le_refl _
set_option maxRecDepth 20000 in
set_option maxHeartbeats 8000000 in
theorem placeAll_told (l : List (Nat × Nat)) (hb : ∀ p ∈ l, p.1 < 256 ∧ p.2 < 256) (G g c w : Int) (hG : -9223372036854775808 ≤ G ∧ G ≤ 9223372036854775807) (hg : -9223372036854775808 ≤ g ∧ g ≤ 9223372036854775807) (hc : -9223372036854775808 ≤ c ∧ c ≤ 9223372036854775807) (hw : -9223372036854775808 ≤ w ∧ w ≤ 9223372036854775807) :
    Told P T law11_PlaceAll [] [.lst tx_a2_uint8 (l.map enc2), i64 G, i64 g, i64 c, i64 w] (.bool true) [] := by
  have cb := begun11_told
  have hml : (l.map enc2).length = l.length := by simp
  by_cases h60 : l.length ≤ 60
  · by_cases hgo : g > 3000 ∧ g ≤ 65536
    · refine told_of_ev (fn := law11_PlaceAll_fn) tabOk mixed (by kernel_rfl) (by kernel_rfl) (by kernel_rfl) (by kernel_rfl) ?_
      (refine gw ?_; refine Choice.mk ⟨false, Choice.mk ⟨false, _, _, cb, ?_⟩⟩)
      (refine gw ?_; refine IfB.ff (by rw [hml]; simp; omega) ?_)
      (refine gw ?_; refine IfB.tt (by simp; omega) ?_)
      (refine gw ?_; refine IfB.tt (by simp; omega) ?_)
      (refine gw ?_; exact RetN.mk ⟨[], rfl, rfl, rfl⟩)
    · have c1 := plNew_told G g c hG hg hc
      have c2 := rNewE_told G g c hG hg hc
      have c3 := nwBoth G g c
      obtain ⟨a, x, y, hxy⟩ := nw_cells G g c
      rw [hxy] at c1 c2 c3
      generalize decide (NwOk G g c) = q at *
      have d1 := plNew_told 4 48 5 (by omega) (by omega) (by omega)
      have d2 := rNewE_told 4 48 5 (by omega) (by omega) (by omega)
      rw [decide_eq_true ok448, show nwE 4 48 5 = eE 4 48 5 offB [] from nw_yes ok448] at d1 d2
      have d3 := sameE_told eg448 (b := offB)
      refine told_of_ev (fn := law11_PlaceAll_fn) tabOk mixed (by kernel_rfl) (by kernel_rfl) (by kernel_rfl) (by kernel_rfl) ?_
      (refine gw ?_; refine Choice.mk ⟨false, Choice.mk ⟨false, _, _, cb, ?_⟩⟩)
      (refine gw ?_; refine IfB.ff (by rw [hml]; simp; omega) ?_)
      by_cases hg5 : g > 3000
      case' pos =>
        (refine gw ?_; refine IfB.tt (by simp; omega) ?_)
        (refine gw ?_; refine IfB.ff (by simp; omega) ?_)
      case' neg =>
        (refine gw ?_; refine IfB.ff (by simp; omega) ?_)
      all_goals (
        (refine gw ?_; refine Choice.mk ⟨false, Choice.mk ⟨false, _, _, c1, ?_⟩⟩)
        (refine gw ?_; refine Choice.mk ⟨false, Choice.mk ⟨false, _, _, c2, ?_⟩⟩)
        (refine gw ?_; refine Choice.mk ⟨false, Choice.mk ⟨false, _, _, c3, ?_⟩⟩)
        (refine gw ?_; refine Choice.mk ⟨false, Choice.mk ⟨false, _, _, d1, ?_⟩⟩)
        (refine gw ?_; refine Choice.mk ⟨false, Choice.mk ⟨false, _, _, d2, ?_⟩⟩)
        (refine gw ?_; refine Choice.mk ⟨false, Choice.mk ⟨false, _, _, d3, ?_⟩⟩)
        (refine gw ?_; refine LoopN.mk ⟨[0,4,11,13,15], fun vs L => ∃ (i : Nat) (b : Nat → Bool) (m : List M), vs = [.lst tx_a2_uint8 (l.map enc2), i64 w, .ptr 0 0 0, .ptr 1 0 0, i64 i] ∧ L = [.var (eE 4 48 5 b m), .var (eE 4 48 5 b m)] ∧ i ≤ l.length ∧ EgOk 4 48 5 m ∧ m.length ≤ i, fun vs L => match vs with | [_, _, _, _, .int _ i] => l.length - i.toNat | _ => 0, [], [0,3], rfl, ⟨0, offB, [], rfl, rfl, by omega, eg448, by simp⟩, ?_⟩)
        rintro vs L ⟨i, b, m, rfl, rfl, hi, hok, hmi⟩
        by_cases hil : i < l.length
        · have hxx : ∀ Q : AV → Prop, Q (enc2 l[i]) → Idx (l.map enc2) ((i : Nat) : Int) Q := fun Q q => idx_map hil q
          have hbi := hb _ (List.getElem_mem hil)
          generalize l[i] = xy at *
          obtain ⟨x, y⟩ := xy
          have hx : x < 256 := hbi.1
          have hy : y < 256 := hbi.2
          have hmm : (m.map encM).length = m.length := by simp
          have hm9 : ((i : Nat) : Int).tmod 9 = ((i % 9 : Nat) : Int) := (Int.ofNat_tmod i 9).symm
          have hm3 : ((x : Nat) : Int).tmod 3 = ((x % 3 : Nat) : Int) := (Int.ofNat_tmod x 3).symm
          have hm2 : ((x : Nat) : Int).tmod 2 = ((x % 2 : Nat) : Int) := (Int.ofNat_tmod x 2).symm
          have hm7 : ((y : Nat) : Int).tmod 7 = ((y % 7 : Nat) : Int) := (Int.ofNat_tmod y 7).symm
          (refine gw ?_; refine IfB.tt (by rw [hml]; simp; omega) ?_)
          (refine gw ?_)
          refine hxx _ ?_
          (refine gw ?_)
          rw [hm9]
          by_cases h9 : i % 9 = 8
          · (refine gw ?_; refine IfB.tt (by simp; omega) ?_)
            (refine gw ?_)
            refine hxx _ ?_
            (refine gw ?_)
            rw [hm3]
            by_cases h3 : x % 3 > 0
            · (refine gw ?_; refine IfB.tt (by simp; omega) ?_)
              (refine gw ?_)
              rw [hm9]
              (refine gw ?_; refine IfB.tt (by simp; omega) ?_)
              have p1 := plPlace_told hok (b := b) w (by omega)
              have p2 := rPlace_told hok (b := b) w (by omega)
              have p3 := sameE_told (placeL_ok hok (b := b) (by omega) w) (b := placeB 48 5 b w)
              (refine gw ?_; refine Choice.mk ⟨false, Choice.mk ⟨false, _, _, p1, ?_⟩⟩)
              (refine gw ?_; refine Choice.mk ⟨false, Choice.mk ⟨false, _, _, p2, ?_⟩⟩)
              (refine gw ?_; refine Choice.mk ⟨false, Choice.mk ⟨false, _, _, p3, ?_⟩⟩)
              (refine gw ?_; refine ⟨[], [0,1], rfl, ⟨i + 1, placeB 48 5 b w, placeL 4 48 5 b m w, rfl, rfl, hil, placeL_ok hok (by omega) _, by have := plLen 4 48 5 b m w; omega⟩, (by omega : l.length - ((i : Int) + 1).toNat < l.length - (i : Int).toNat)⟩)
            · (refine gw ?_; refine IfB.ff (by simp; omega) ?_)
              by_cases hm0 : m.length = 0
              · (refine gw ?_; refine IfB.ff (by rw [hmm, hm0]; rfl) ?_)
                have r1 := plRel_told hok (b := b) w (by omega)
                have r2 := rRel_told hok (b := b) w (by omega)
                have r3 := sameE_told (relL_ok hok w) (b := relB 4 b m w)
                (refine gw ?_; refine Choice.mk ⟨false, Choice.mk ⟨false, _, _, r1, ?_⟩⟩)
                (refine gw ?_; refine Choice.mk ⟨false, Choice.mk ⟨false, _, _, r2, ?_⟩⟩)
                (refine gw ?_; refine Choice.mk ⟨false, Choice.mk ⟨false, _, _, r3, ?_⟩⟩)
                (refine gw ?_; refine ⟨[], [0,1], rfl, ⟨i + 1, relB 4 b m w, relL m w, rfl, rfl, hil, relL_ok hok _, by have := rlLen m w; omega⟩, (by omega : l.length - ((i : Int) + 1).toNat < l.length - (i : Int).toNat)⟩)
              · (refine gw ?_; refine IfB.tt (by exact decide_eq_true (by rw [hmm]; omega)) ?_)
                (refine gw ?_)
                refine hxx _ ?_
                (refine gw ?_)
                rw [hm2]
                by_cases h2 : x % 2 = 0
                · (refine gw ?_; refine IfB.tt (by simp; omega) ?_)
                  (refine gw ?_)
                  rw [hm9]
                  (refine gw ?_; refine IfB.ff (by simp; omega) ?_)
                  have r1 := plRel_told hok (b := b) w (by omega)
                  have r2 := rRel_told hok (b := b) w (by omega)
                  have r3 := sameE_told (relL_ok hok w) (b := relB 4 b m w)
                  (refine gw ?_; refine Choice.mk ⟨false, Choice.mk ⟨false, _, _, r1, ?_⟩⟩)
                  (refine gw ?_; refine Choice.mk ⟨false, Choice.mk ⟨false, _, _, r2, ?_⟩⟩)
                  (refine gw ?_; refine Choice.mk ⟨false, Choice.mk ⟨false, _, _, r3, ?_⟩⟩)
                  (refine gw ?_; refine ⟨[], [0,1], rfl, ⟨i + 1, relB 4 b m w, relL m w, rfl, rfl, hil, relL_ok hok _, by have := rlLen m w; omega⟩, (by omega : l.length - ((i : Int) + 1).toNat < l.length - (i : Int).toNat)⟩)
                · (refine gw ?_; refine IfB.ff (by simp; omega) ?_)
                  have r1 := plRel_told hok (b := b) w (by omega)
                  have r2 := rRel_told hok (b := b) w (by omega)
                  have r3 := sameE_told (relL_ok hok w) (b := relB 4 b m w)
                  (refine gw ?_; refine Choice.mk ⟨false, Choice.mk ⟨false, _, _, r1, ?_⟩⟩)
                  (refine gw ?_; refine Choice.mk ⟨false, Choice.mk ⟨false, _, _, r2, ?_⟩⟩)
                  (refine gw ?_; refine Choice.mk ⟨false, Choice.mk ⟨false, _, _, r3, ?_⟩⟩)
                  (refine gw ?_; refine ⟨[], [0,1], rfl, ⟨i + 1, relB 4 b m w, relL m w, rfl, rfl, hil, relL_ok hok _, by have := rlLen m w; omega⟩, (by omega : l.length - ((i : Int) + 1).toNat < l.length - (i : Int).toNat)⟩)
          · (refine gw ?_; refine IfB.ff (by simp; omega) ?_)
            (refine gw ?_)
            refine hxx _ ?_
            (refine gw ?_)
            rw [hm3]
            by_cases h3 : x % 3 > 0
            · (refine gw ?_; refine IfB.tt (by simp; omega) ?_)
              (refine gw ?_)
              rw [hm9]
              (refine gw ?_; refine IfB.ff (by simp; omega) ?_)
              rw [hm7]
              have p1 := plPlace_told hok (b := b) (y % 7 : Nat) (by omega)
              have p2 := rPlace_told hok (b := b) (y % 7 : Nat) (by omega)
              have p3 := sameE_told (placeL_ok hok (b := b) (by omega) (y % 7 : Nat)) (b := placeB 48 5 b (y % 7 : Nat))
              (refine gw ?_; refine Choice.mk ⟨false, Choice.mk ⟨false, _, _, p1, ?_⟩⟩)
              (refine gw ?_; refine Choice.mk ⟨false, Choice.mk ⟨false, _, _, p2, ?_⟩⟩)
              (refine gw ?_; refine Choice.mk ⟨false, Choice.mk ⟨false, _, _, p3, ?_⟩⟩)
              (refine gw ?_; refine ⟨[], [0,1], rfl, ⟨i + 1, placeB 48 5 b (y % 7 : Nat), placeL 4 48 5 b m (y % 7 : Nat), rfl, rfl, hil, placeL_ok hok (by omega) _, by have := plLen 4 48 5 b m (y % 7 : Nat); omega⟩, (by omega : l.length - ((i : Int) + 1).toNat < l.length - (i : Int).toNat)⟩)
            · have hmr : 0 < m.length → y % m.length < m.length := fun h => Nat.mod_lt _ h
              (refine gw ?_; refine IfB.ff (by simp; omega) ?_)
              by_cases hm0 : m.length = 0
              · (refine gw ?_; refine IfB.ff (by rw [hmm, hm0]; rfl) ?_)
                have r1 := plRel_told hok (b := b) y (by omega)
                have r2 := rRel_told hok (b := b) y (by omega)
                have r3 := sameE_told (relL_ok hok y) (b := relB 4 b m y)
                (refine gw ?_; refine Choice.mk ⟨false, Choice.mk ⟨false, _, _, r1, ?_⟩⟩)
                (refine gw ?_; refine Choice.mk ⟨false, Choice.mk ⟨false, _, _, r2, ?_⟩⟩)
                (refine gw ?_; refine Choice.mk ⟨false, Choice.mk ⟨false, _, _, r3, ?_⟩⟩)
                (refine gw ?_; refine ⟨[], [0,1], rfl, ⟨i + 1, relB 4 b m y, relL m y, rfl, rfl, hil, relL_ok hok _, by have := rlLen m y; omega⟩, (by omega : l.length - ((i : Int) + 1).toNat < l.length - (i : Int).toNat)⟩)
              · (refine gw ?_; refine IfB.tt (by exact decide_eq_true (by rw [hmm]; omega)) ?_)
                (refine gw ?_)
                refine hxx _ ?_
                (refine gw ?_)
                rw [hm2]
                by_cases h2 : x % 2 = 0
                · (refine gw ?_; refine IfB.tt (by simp; omega) ?_)
                  (refine gw ?_)
                  rw [hm9]
                  have hml1 := hmr (by omega)
                  have hmy : ((y : Nat) : Int).tmod ((m.map encM).length : Nat) = ((y % m.length : Nat) : Int) := by rw [hmm]; exact (Int.ofNat_tmod _ _).symm
                  have hmk := hok.mks _ (List.getElem_mem hml1)
                  have hxm : ∀ Q : AV → Prop, Q (encM m[y % m.length]) → Idx (m.map encM) ((y % m.length : Nat) : Int) Q := fun Q q => idx_map hml1 q
                  (refine gw ?_; refine IfB.tt (by simp; omega) ?_)
                  (refine gw ?_)
                  rw [hmy]
                  (refine gw ?_)
                  refine hxm _ ?_
                  have r1 := plRel_told hok (b := b) (m[y % m.length]).at' (by omega)
                  have r2 := rRel_told hok (b := b) (m[y % m.length]).at' (by omega)
                  have r3 := sameE_told (relL_ok hok (m[y % m.length]).at') (b := relB 4 b m (m[y % m.length]).at')
                  (refine gw ?_; refine Choice.mk ⟨false, Choice.mk ⟨false, _, _, r1, ?_⟩⟩)
                  (refine gw ?_; refine Choice.mk ⟨false, Choice.mk ⟨false, _, _, r2, ?_⟩⟩)
                  (refine gw ?_; refine Choice.mk ⟨false, Choice.mk ⟨false, _, _, r3, ?_⟩⟩)
                  (refine gw ?_; refine ⟨[], [0,1], rfl, ⟨i + 1, relB 4 b m (m[y % m.length]).at', relL m (m[y % m.length]).at', rfl, rfl, hil, relL_ok hok _, by have := rlLen m (m[y % m.length]).at'; omega⟩, (by omega : l.length - ((i : Int) + 1).toNat < l.length - (i : Int).toNat)⟩)
                · (refine gw ?_; refine IfB.ff (by simp; omega) ?_)
                  have r1 := plRel_told hok (b := b) y (by omega)
                  have r2 := rRel_told hok (b := b) y (by omega)
                  have r3 := sameE_told (relL_ok hok y) (b := relB 4 b m y)
                  (refine gw ?_; refine Choice.mk ⟨false, Choice.mk ⟨false, _, _, r1, ?_⟩⟩)
                  (refine gw ?_; refine Choice.mk ⟨false, Choice.mk ⟨false, _, _, r2, ?_⟩⟩)
                  (refine gw ?_; refine Choice.mk ⟨false, Choice.mk ⟨false, _, _, r3, ?_⟩⟩)
                  (refine gw ?_; refine ⟨[], [0,1], rfl, ⟨i + 1, relB 4 b m y, relL m y, rfl, rfl, hil, relL_ok hok _, by have := rlLen m y; omega⟩, (by omega : l.length - ((i : Int) + 1).toNat < l.length - (i : Int).toNat)⟩)
        · (refine gw ?_; refine IfB.ff (by rw [hml]; simp; omega) ?_)
          (refine gw ?_; exact RetN.mk ⟨[], rfl, rfl, rfl⟩))
  · refine told_of_ev (fn := law11_PlaceAll_fn) tabOk mixed (by kernel_rfl) (by kernel_rfl) (by kernel_rfl) (by kernel_rfl) ?_
    (refine gw ?_; refine Choice.mk ⟨false, Choice.mk ⟨false, _, _, cb, ?_⟩⟩)
    (refine gw ?_; refine IfB.tt (by rw [hml]; simp; omega) ?_)
    (refine gw ?_; exact RetN.mk ⟨[], rfl, rfl, rfl⟩)
theorem placeAll {x0 x1 x2 x3 x4 : AV} (h0 : Shp T 8 22 x0) (h1 : Shp T 8 3 x1) (h2 : Shp T 8 3 x2) (h3 : Shp T 8 3 x3) (h4 : Shp T 8 3 x4) : Told P T law11_PlaceAll [] [x0, x1, x2, x3, x4] (.bool true) [] := by
  obtain ⟨l, rfl, _, hb⟩ := shp_2 (by kernel_rfl) h0
  obtain ⟨a, rfl, ha⟩ := shp_i64 (by kernel_rfl) h1
  obtain ⟨b, rfl, hb2⟩ := shp_i64 (by kernel_rfl) h2
  obtain ⟨c, rfl, hc⟩ := shp_i64 (by kernel_rfl) h3
  obtain ⟨d, rfl, hd⟩ := shp_i64 (by kernel_rfl) h4
  exact placeAll_told l hb a b c d ha hb2 hc hd
end Go.Ev.W
namespace Go.Ev.W
open Go.Ev Go.Ev.N

def gS (G : Nat) (m : M) : Nat := m.at'.toNat / G
def inB (G : Nat) (m : M) (x : Nat) : Prop := gS G m ≤ x ∧ x < gS G m + 2 ^ m.cl.toNat
/-- Blocks are live and lie apart. -/
structure Inv (G g c : Nat) (b : Nat → Bool) (l : List M) : Prop where
  eg : EgOk G g c l
  lv : ∀ m ∈ l, ∀ x, inB G m x → x < g ∧ b x = true
  ap : ∀ m ∈ l, ∀ m' ∈ l, ∀ x, inB G m x → inB G m' x → m = m'
theorem inB_new {G i k x : Nat} (hG : 1 ≤ G) : inB G ⟨(i * 2 ^ k * G : Nat), (k : Nat)⟩ x ↔ x / 2 ^ k = i := by
  have hp : 0 < 2 ^ k := Nat.pow_pos (by omega)
  have e : gS G ⟨(i * 2 ^ k * G : Nat), (k : Nat)⟩ = i * 2 ^ k := by
    unfold gS
    rw [Int.toNat_natCast, Nat.mul_div_cancel _ (by omega)]
  unfold inB
  rw [e]
  simp only [Int.toNat_natCast]
  rw [Nat.div_eq_iff hp]
  constructor
  · rintro ⟨h1, h2⟩; omega
  · rintro ⟨h1, h2⟩; omega
theorem upB_cell {b : Nat → Bool} {k i x : Nat} (h : upB b k i = false) (hx : x / 2 ^ k = i) : b x = false := by
  cases e : b x with
  | false => rfl
  | true =>
    rw [upB_true.2 ⟨x, hx, e⟩] at h; cases h
theorem setZ_cell {b : Nat → Bool} {k i x : Nat} {on : Bool} : setZ b (i * 2 ^ k : Nat) (2 ^ k : Nat) on x = if x / 2 ^ k = i then on else b x := by
  have hp : 0 < 2 ^ k := Nat.pow_pos (by omega)
  unfold setZ
  have e : (x / 2 ^ k = i) ↔ (i * 2 ^ k ≤ x ∧ x < i * 2 ^ k + 2 ^ k) := by
    rw [Nat.div_eq_iff hp]
    constructor
    · rintro ⟨h1, h2⟩; omega
    · rintro ⟨h1, h2⟩; omega
  by_cases h : x / 2 ^ k = i
  · have := e.1 h
    rw [if_pos h, if_pos (by omega)]
  · have := fun q => h (e.2 q)
    rw [if_neg h, if_neg (by omega)]
theorem Inv.place {G g c : Nat} {b : Nat → Bool} {l : List M} (h : Inv G g c b l) (hl : l.length < 65536) (cl : Int) : Inv G g c (placeB g c b cl) (placeL G g c b l cl) := by
  have e := placeL_ok h.eg (b := b) hl cl
  unfold placeB placeL at *
  cases hi : lowS g c b cl with
  | none => rw [hi] at e; exact h
  | some i =>
    rw [hi] at e
    obtain ⟨k, rfl, hk, hik, hu, _⟩ := lowS_lt h.eg.sl hi
    have hb := sz_bound h.eg.sl h.eg.gG hk hik
    simp only [Int.toNat_natCast] at e ⊢
    have hnew := fun x => inB_new (G := G) (i := i) (k := k) (x := x) h.eg.g1
    have hin : ∀ x, x / 2 ^ k = i → x < g := fun x hx => by
      have hp : 0 < 2 ^ k := Nat.pow_pos (by omega)
      rw [Nat.div_eq_iff hp] at hx
      omega
    refine ⟨e, fun m hm x hx => ?_, fun m hm m' hm' x hx hx' => ?_⟩
    · rw [setZ_cell]
      rcases (mem_putM h.eg.rise _ m).1 hm with rfl | ⟨hm, _⟩
      · have := (hnew x).1 hx
        exact ⟨hin x this, by rw [if_pos this]⟩
      · have := h.lv m hm x hx
        refine ⟨this.1, ?_⟩
        split
        · rfl
        · exact this.2
    · rcases (mem_putM h.eg.rise _ m).1 hm with rfl | ⟨hm, _⟩
      · rcases (mem_putM h.eg.rise _ m').1 hm' with rfl | ⟨hm', _⟩
        · rfl
        · have := (h.lv m' hm' x hx').2
          rw [upB_cell hu ((hnew x).1 hx)] at this; cases this
      · rcases (mem_putM h.eg.rise _ m').1 hm' with rfl | ⟨hm', _⟩
        · have := (h.lv m hm x hx).2
          rw [upB_cell hu ((hnew x).1 hx')] at this; cases this
        · exact h.ap m hm m' hm' x hx hx'
theorem Inv.rel {G g c : Nat} {b : Nat → Bool} {l : List M} (h : Inv G g c b l) (y : Int) : Inv G g c (relB G b l y) (relL l y) := by
  have e := relL_ok h.eg y
  unfold relB relL at *
  cases hi : isAt y l with
  | false => rw [hi] at e; simpa using h
  | true =>
    rw [hi] at e
    simp only [if_true] at e ⊢
    have h0 := (cls_mem h.eg.rise (y := y) (c := clsM l y)).1 ⟨hi, rfl⟩
    refine ⟨e, fun m hm x hx => ?_, fun m hm m' hm' x hx hx' => ?_⟩
    · obtain ⟨hm, hne⟩ := (mem_takeM h.eg.rise hi m).1 hm
      have hl := h.lv m hm x hx
      refine ⟨hl.1, ?_⟩
      unfold setZ
      rw [if_neg]
      · exact hl.2
      · rintro ⟨_, h2, h3⟩
        have : m = ⟨y, clsM l y⟩ := h.ap m hm _ h0 x hx ⟨by show y.toNat / G ≤ x; omega, by show x < y.toNat / G + 2 ^ (clsM l y).toNat; omega⟩
        exact hne (by rw [this])
    · obtain ⟨hm, _⟩ := (mem_takeM h.eg.rise hi m).1 hm
      obtain ⟨hm', _⟩ := (mem_takeM h.eg.rise hi m').1 hm'
      exact h.ap m hm m' hm' x hx hx'
theorem rise_ext : ∀ {l r : List M}, Rise l → Rise r → (∀ m, m ∈ l ↔ m ∈ r) → l = r
  | [], [], _, _, _ => rfl
  | [], b :: r, _, _, h => absurd ((h b).2 (by simp)) (by simp)
  | a :: l, [], _, _, h => absurd ((h a).1 (by simp)) (by simp)
  | a :: l, b :: r, hl, hr, h => by
    have hl1 := (List.pairwise_cons.1 hl).1
    have hr1 := (List.pairwise_cons.1 hr).1
    have hab : a = b := by
      rcases List.mem_cons.1 ((h a).1 (by simp)) with e | e
      · exact e
      · rcases List.mem_cons.1 ((h b).2 (by simp)) with e2 | e2
        · exact e2.symm
        · have h1 := hl1 b e2
          have h2 := hr1 a e
          omega
    subst hab
    congr 1
    refine rise_ext (List.pairwise_cons.1 hl).2 (List.pairwise_cons.1 hr).2 fun m => ?_
    constructor
    · intro hm
      rcases List.mem_cons.1 ((h m).1 (by simp [hm])) with e | e
      · have := hl1 m hm
        rw [e] at this; omega
      · exact e
    · intro hm
      rcases List.mem_cons.1 ((h m).2 (by simp [hm])) with e | e
      · have := hr1 m hm
        rw [e] at this; omega
      · exact e
/-- Who releases what was placed has what was. -/
theorem Inv.back {G g c : Nat} {b : Nat → Bool} {l : List M} (h : Inv G g c b l) (hl : l.length < 65536) {cl : Int} {i : Nat} (hi : lowS g c b cl = some i) :
    isAt (placeA G g c b cl) (placeL G g c b l cl) = true ∧ relL (placeL G g c b l cl) (placeA G g c b cl) = l ∧ relK (placeL G g c b l cl) (placeA G g c b cl) = cl ∧
      ∀ x, x < g → relB G (placeB g c b cl) (placeL G g c b l cl) (placeA G g c b cl) x = b x := by
  have e := placeL_ok h.eg (b := b) hl cl
  unfold placeA placeL placeB at *
  rw [hi] at e ⊢
  obtain ⟨k, rfl, hk, hik, hu, _⟩ := lowS_lt h.eg.sl hi
  simp only [Int.toNat_natCast] at e ⊢
  have hno : ∀ m ∈ l, m.at' ≠ ((i * 2 ^ k * G : Nat) : Int) := fun m hm he => by
    have hg : gS G m = i * 2 ^ k := by
      unfold gS
      rw [he, Int.toNat_natCast, Nat.mul_div_cancel _ (by have := h.eg.g1; omega)]
    have := (h.lv m hm (i * 2 ^ k) ⟨by omega, by have := Nat.pow_pos (n := m.cl.toNat) (show 0 < 2 by omega); omega⟩).2
    rw [upB_cell hu (Nat.mul_div_cancel _ (Nat.pow_pos (by omega)))] at this
    cases this
  have hmem : (⟨(i * 2 ^ k * G : Nat), (k : Nat)⟩ : M) ∈ putM l ⟨(i * 2 ^ k * G : Nat), (k : Nat)⟩ := (mem_putM h.eg.rise _ _).2 (.inl rfl)
  obtain ⟨h1, h2⟩ := (cls_mem e.rise).2 hmem
  refine ⟨h1, ?_, ?_, fun x hx => ?_⟩
  · unfold relL
    rw [h1, if_pos rfl]
    refine rise_ext (rise_take e.rise _) h.eg.rise fun m => ?_
    rw [mem_takeM e.rise h1, mem_putM h.eg.rise]
    constructor
    · rintro ⟨rfl | ⟨h3, _⟩, h4⟩
      · exact absurd rfl h4
      · exact h3
    · intro hm
      exact ⟨.inr ⟨hm, hno m hm⟩, hno m hm⟩
  · unfold relK
    rw [h1, if_pos rfl, h2]
  · unfold relB
    rw [h1, if_pos rfl, h2, Int.toNat_natCast, Int.toNat_natCast, Nat.mul_div_cancel _ (by have := h.eg.g1; omega), setZ_cell, setZ_cell]
    by_cases e : x / 2 ^ k = i
    · rw [if_pos e, upB_cell hu e]
    · rw [if_neg e, if_neg e]
end Go.Ev.W
