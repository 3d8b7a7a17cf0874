/- Words and lemmas, part 2, for laws of this seat (a part of their proofs). -/
import Derived.Test.YtdnelcadmoeeiaaGreatE1
import Derived.Test.YtdnelcadmoeeiaaGreatNm
import Derived.Test.YtdnelcadmoeeiaaGreatEvOpen
import Derived.Test.YtdnelcadmoeeiaaGreatEvLib
import Derived.Test.YtdnelcadmoeeiaaGreatEvGrid
import Derived.Test.YtdnelcadmoeeiaaGreatEvTrim
set_option linter.unusedVariables false
set_option linter.unusedSimpArgs false
namespace Go.Ev.W
open Go.Ev Go.Ev.N

/-- Some bits set, or not. -/
def setB (b : Nat → Bool) (f m : Nat) (on : Bool) : Nat → Bool := fun x => if f ≤ x ∧ x < f + m then on else b x
/-- The same, as far as so many words. -/
def midB (b : Nat → Bool) (f last w : Nat) (on : Bool) : Nat → Bool := fun x => if f ≤ x ∧ x ≤ last ∧ x < 64 * w then on else b x
theorem mask_wd {n f last k : Nat} {b : Nat → Bool} {on : Bool} (h1 : f ≤ last) (h2 : last < n) (hk : f / 64 ≤ k) (hk2 : k ≤ last / 64) :
    ∃ y : Nat, bitsOp .andNot .u64 ((wdT n (midB b f last k on) k : Nat) : Int) ((maskF ((f - 64 * k : Nat) : Int) ((min (last - 64 * k) 63 - (f - 64 * k) + 1 : Nat) : Int) : Nat) : Int) = (y : Int) ∧
      (on = true → bitsOp .or .u64 (y : Int) ((maskF ((f - 64 * k : Nat) : Int) ((min (last - 64 * k) 63 - (f - 64 * k) + 1 : Nat) : Int) : Nat) : Int) = ((wdT n (midB b f last (k + 1) on) k : Nat) : Int)) ∧ (on = false → y = wdT n (midB b f last (k + 1) on) k) := by
  have hm := maskF_lt ((f - 64 * k : Nat) : Int) ((min (last - 64 * k) 63 - (f - 64 * k) + 1 : Nat) : Int)
  have hb : ∀ j, j < 64 → (maskF ((f - 64 * k : Nat) : Int) ((min (last - 64 * k) 63 - (f - 64 * k) + 1 : Nat) : Int)).testBit j = decide (f ≤ 64 * k + j ∧ 64 * k + j ≤ last) := fun j hj => by
    rw [maskF_bit hj (by omega), ← Bool.decide_and]
    refine decide_eq_decide.2 ?_
    omega
  generalize maskF ((f - 64 * k : Nat) : Int) ((min (last - 64 * k) 63 - (f - 64 * k) + 1 : Nat) : Int) = M at *
  have hw := wdT_lt n (midB b f last k on) k
  have hy := wB_lt 64 fun j => (wdT n (midB b f last k on) k).testBit j && !M.testBit j
  have hwb : ∀ j, j < 64 → (wdT n (midB b f last k on) k).testBit j = (decide (n ≤ 64 * k + j) || b (64 * k + j)) := fun j hj => by
    unfold wdT
    rw [wB_bit, decide_eq_true hj, Bool.true_and]
    congr 1
    unfold midB
    rw [if_neg (by omega)]
  refine ⟨_, andn64 hw hm, fun ho => ?_, fun ho => ?_⟩
  · subst ho
    rw [or64 hy hm]
    refine congrArg Int.ofNat ?_
    apply Nat.eq_of_testBit_eq
    intro j
    rw [Nat.testBit_or, wB_bit]
    by_cases hj : j < 64
    · rw [decide_eq_true hj, Bool.true_and, hwb j hj, hb j hj]
      unfold wdT
      rw [wB_bit, decide_eq_true hj, Bool.true_and]
      unfold midB
      by_cases h3 : f ≤ 64 * k + j ∧ 64 * k + j ≤ last
      · rw [decide_eq_true h3, if_pos (by omega)]; simp
      · rw [decide_eq_false h3, if_neg (by omega)]; simp
    · have hz := Nat.testBit_lt_two_pow (Nat.lt_of_lt_of_le (wdT_lt n (midB b f last (k + 1) true) k) (Nat.pow_le_pow_right (n := 2) (by omega) (show 64 ≤ j by omega)))
      rw [decide_eq_false hj, Nat.testBit_lt_two_pow (Nat.lt_of_lt_of_le hm (Nat.pow_le_pow_right (by omega) (by omega))), hz]; rfl
  · subst ho
    unfold wdT
    refine wB_congr fun j hj => ?_
    have := hwb j hj
    unfold wdT at this
    rw [this, hb j hj]
    unfold midB
    by_cases h3 : f ≤ 64 * k + j ∧ 64 * k + j ≤ last
    · rw [decide_eq_true h3, if_pos (by omega), decide_eq_false (show ¬ n ≤ 64 * k + j by omega)]; simp
    · rw [decide_eq_false h3, if_neg (by omega)]; simp
/-- The tree while its first level is written. -/
def zerT (n : Nat) (b c : Nat → Bool) : LV := tabV (hT n) (lenT n) fun l i => if l = 0 then wdT n c i else fT n b l i
theorem zerT_put {n : Nat} (hn : 1 ≤ n) {b : Nat → Bool} {f last k : Nat} {on : Bool} (hk2 : k ≤ last / 64) (h2 : last < n) : putF (zerT n b (midB b f last k on)) 0 k (wdT n (midB b f last (k + 1) on) k) = zerT n b (midB b f last (k + 1) on) := by
  have hk : k < lenT n 0 := by show k < (n - 1) / 64 + 1; omega
  unfold zerT
  rw [tabV_put (by have := hT_le n; omega) hk]
  refine tabV_congr fun l _ i _ => ?_
  by_cases hl : l = 0
  · subst hl
    rw [if_pos rfl, if_pos rfl]
    by_cases hi : i = k
    · subst hi; rw [if_pos ⟨rfl, rfl⟩]
    · rw [if_neg (by omega)]
      refine wdT_congr fun x _ _ _ => ?_
      unfold midB
      by_cases h3 : f ≤ x ∧ x ≤ last ∧ x < 64 * k
      · rw [if_pos h3, if_pos (by omega)]
      · rw [if_neg h3, if_neg (by omega)]
  · rw [if_neg hl, if_neg (by omega), if_neg hl]
theorem zerT_start {n : Nat} {b : Nat → Bool} {f last : Nat} {on : Bool} : lvT n b = zerT n b (midB b f last (f / 64) on) := by
  refine tabV_congr fun l _ i _ => ?_
  by_cases hl : l = 0
  · subst hl
    rw [if_pos rfl]
    refine wdT_congr fun x _ _ _ => ?_
    unfold midB
    rw [if_neg (by omega)]; rfl
  · rw [if_neg hl]
theorem zerT_end {n : Nat} {b : Nat → Bool} {f m last : Nat} {on : Bool} (hl : last + 1 = f + m ∨ (last + 1 = n ∧ n ≤ f + m)) : zerT n b (midB b f last (last / 64 + 1) on) = mixT n b (setB b f m on) 1 := by
  refine tabV_congr fun l _ i _ => ?_
  by_cases hl0 : l = 0
  · subst hl0
    rw [if_pos rfl, if_pos (by omega)]
    refine wdT_congr fun x _ _ hx => ?_
    show _ = setB b f m on x
    unfold midB setB
    have hx : x < n := hx
    by_cases h3 : f ≤ x ∧ x < f + m
    · rw [if_pos h3, if_pos (by omega)]
    · rw [if_neg h3, if_neg (by omega)]
  · rw [if_neg hl0, if_neg (by omega)]
theorem set_same {n : Nat} {b : Nat → Bool} {f m last : Nat} {on : Bool} (h1 : 1 ≤ m) (hl : last + 1 = f + m ∨ (last + 1 = n ∧ n ≤ f + m)) : ∀ i, (i < f / 64 ∨ last / 64 < i) → fT n b 0 i = fT n (setB b f m on) 0 i := by
  intro i hi
  refine wdT_congr fun x _ _ hx => ?_
  show b x = setB b f m on x
  have hx : x < n := hx
  unfold setB
  rw [if_neg (by omega)]
theorem div_lv {last n : Nat} (h : last < n) (l : Nat) : last / 64 ^ (l + 1) < szT n (l + 1) := by
  have key : ∀ l, last / 64 ^ l < szT n l := by
    intro l
    induction l with
    | zero => simpa [szT] using h
    | succ l ih =>
      show last / 64 ^ (l + 1) < (szT n l - 1) / 64 + 1
      rw [Nat.pow_succ, ← Nat.div_div_eq_div_mul]
      generalize last / 64 ^ l = q at *
      omega
  exact key (l + 1)
end Go.Ev.W
namespace Go.Ev.W
open Go.Ev Go.Ev.N

def setZ (b : Nat → Bool) (f m : Int) (on : Bool) : Nat → Bool := fun x => if 0 ≤ f ∧ f ≤ x ∧ (x : Int) < f + m then on else b x
theorem tabV_gn {H l : Nat} {len : Nat → Nat} {f : Nat → Nat → Nat} (h : l < H) {Q : Bool → List AV → Prop} (q : Q true (((List.range (len l)).map (f l)).map u64)) : GNode ((tabV H len f).map fun r => (true, r.map u64)) l Q := by
  have hl : l < (tabV H len f).length := by rw [tabV_len]; exact h
  refine gnode hl ?_
  rw [tabV_get]; exact q
theorem set_eq (b : Nat → Bool) {a mm : Nat} {m : Int} {on : Bool} (h : m = mm) (x : Nat) : setB b a mm on x = setZ b a m on x := by
  subst h
  unfold setB setZ
  by_cases hq : a ≤ x ∧ x < a + mm
  · rw [if_pos hq, if_pos (by omega)]
  · rw [if_neg hq, if_neg (by omega)]
theorem mix_len (n : Nat) (b c : Nat → Bool) (k : Nat) : (mixT n b c k).length = hT n := tabV_len _ _ _
theorem mix_row {n : Nat} (hn : 1 ≤ n) (hn2 : n ≤ 65536) (b c : Nat → Bool) (k : Nat) : ∀ r ∈ mixT n b c k, r.length ≤ 100000 := tabV_row fun l _ => by have := lenT_le hn hn2 l; omega
theorem mix_w (n : Nat) (b c : Nat → Bool) (k : Nat) : IsW (mixT n b c k) := tabV_w fun l k' => by split <;> exact fT_lt _ _ _ _
theorem pow_div64 (a c : Nat) : ((a / 64 ^ (c + 1) : Nat) : Int).tdiv 64 = ((a / 64 ^ (c + 2) : Nat) : Int) := by
  rw [Nat.pow_succ 64 (c + 1), ← Nat.div_div_eq_div_mul]
  exact (Int.ofNat_tdiv _ 64).symm
set_option maxHeartbeats 4000000 in
theorem treeSet_told {n : Nat} (hn : 1 ≤ n) (hn2 : n ≤ 65536) (b : Nat → Bool) (f m : Int) (hf : -9223372036854775808 ≤ f ∧ f ≤ 9223372036854775807) (on : Bool) : Told P T tree_Set [] [eTr n b, i64 f, i64 m, .bool on] (eTr n (setZ b f m on)) [] := by
  have hh := hT_le n
  have hlen := lvT_len n b
  have hrow : ∀ r ∈ lvT n b, r.length ≤ 100000 := tabV_row fun l _ => by have := lenT_le hn hn2 l; omega
  have c1 := treeTwin_told (s := n) (v := lvT n b) (by omega) hrow
  have c1 : Told P T tree_twin [] [eTr n b] _ _ := c1
  have hgl : ((lvT n b).map fun r => (true, r.map u64)).length = hT n := by simp [hlen]
  have same : (f < 0 ∨ m < 1 ∨ f ≥ n) → eTr n (setZ b f m on) = eTg n (lvT n b) := fun h => by
    unfold eTr
    rw [eTg_eq, lvT_congr (b := setZ b f m on) (c := b) fun x hx => by unfold setZ; rw [if_neg (by omega)]]
  refine told_of_ev (fn := tree_Set_fn) tabOk mixed (by kernel_rfl) (by kernel_rfl) (by kernel_rfl) (by kernel_rfl) ?_
  (refine gw ?_; refine Choice.mk ⟨false, Choice.mk ⟨false, _, _, c1, ?_⟩⟩)
  by_cases h1 : f < 0
  · rw [same (.inl h1)]
    (refine gw ?_; refine IfB.tt (by simpa using h1) ?_)
    (refine gw ?_; exact RetN.fz ⟨[true], [], rfl, rfl, rfl⟩)
  · (refine gw ?_; refine IfB.ff (by simpa using h1) ?_)
    by_cases h2 : m < 1
    · rw [same (.inr (.inl h2))]
      (refine gw ?_; refine IfB.tt (by simpa using h2) ?_)
      (refine gw ?_; exact RetN.fz ⟨[true], [], rfl, rfl, rfl⟩)
    · (refine gw ?_; refine IfB.ff (by simpa using h2) ?_)
      by_cases h3 : f ≥ n
      · rw [same (.inr (.inr h3))]
        (refine gw ?_; refine IfB.tt (by simpa using h3) ?_)
        (refine gw ?_; exact RetN.fz ⟨[true], [], rfl, rfl, rfl⟩)
      · obtain ⟨a, rfl⟩ : ∃ a : Nat, f = a := ⟨f.toNat, by omega⟩
        obtain ⟨last, hlast⟩ : ∃ last : Nat, ((a : Nat) : Int) + (if (n : Int) - a < m then (n : Int) - a else m) - 1 = last := ⟨((a : Nat) + (if (n : Int) - a < m then (n : Int) - a else m) - 1).toNat, by split <;> omega⟩
        have hlt : a ≤ last ∧ last < n := by split at hlast <;> omega
        have hld : ((last : Nat) : Int).tdiv 64 = ((last / 64 : Nat) : Int) := (Int.ofNat_tdiv last 64).symm
        have had : ((a : Nat) : Int).tdiv 64 = ((a / 64 : Nat) : Int) := (Int.ofNat_tdiv a 64).symm
        (refine gw ?_; refine IfB.ff (by simpa using h3) ?_)
        (refine gw ?_; refine IfB.ff (by rw [hgl]; simp; omega) ?_)
        (refine gw ?_)
        rw [hlast, had]
        (refine gw ?_; refine LoopN.mk ⟨[1,3,4,8,9,10], fun vs L => ∃ k : Nat, vs = [i64 a, .bool on, .ptr 0 0 0, .ptr 1 0 0, i64 last, i64 k] ∧ L = [.var (.agg [i64 n, .ref 2]), .var (.agg [i64 0, .und]), gV (zerT n b (midB b a last k on))] ∧ a / 64 ≤ k ∧ k ≤ last / 64 + 1, fun vs L => match vs with | [_, _, _, _, _, .int _ i] => last / 64 + 1 - i.toNat | _ => 0, [], [0,1,3], rfl, ⟨a / 64, rfl, by rw [← zerT_start]; rfl, by omega, by omega⟩, ?_⟩)
        rintro vs L ⟨k, rfl, rfl, hk1, hk2⟩
        have hl0 : (((List.range (lenT n 0)).map fun i => if (0 : Nat) = 0 then wdT n (midB b a last k on) i else fT n b 0 i).map u64).length = lenT n 0 := by simp
        have hln : lenT n 0 = (n - 1) / 64 + 1 := rfl
        have hmin : (if ((lenT n 0 : Nat) : Int) - 1 < ((last / 64 : Nat) : Int) then ((lenT n 0 : Nat) : Int) - 1 else ((last / 64 : Nat) : Int)) = ((last / 64 : Nat) : Int) := by rw [if_neg (by omega)]
        have hzl : ((zerT n b (midB b a last k on)).map fun r => (true, r.map u64)).length = hT n := by simp [zerT, tabV_len]
        (refine gw ?_)
        refine tabV_gn (l := 0) (by omega) ?_
        (refine gw ?_)
        refine tabV_gn (l := 0) (by omega) ?_
        (refine gw ?_)
        rw [hl0, hld]
        (refine gw ?_)
        rw [hmin]
        by_cases hkl : k ≤ last / 64
        · have hzr : ∀ r ∈ zerT n b (midB b a last k on), r.length ≤ 100000 := tabV_row fun l _ => by have := lenT_le hn hn2 l; omega
          have hzn : (zerT n b (midB b a last k on)).length ≤ 1000 := by simp [zerT, tabV_len]; omega
          have hat : atF (zerT n b (midB b a last k on)) 0 (k : Nat) = wdT n (midB b a last k on) k := by
            unfold zerT
            rw [tabV_at (by omega) (by rw [hln]; omega), if_pos rfl]
          have c2 := treeAt_told (s := n) hzn hzr 0 (k : Nat)
          rw [hat, ← eTg_eq] at c2
          have c3 := fun u => treePut_told (s := n) hzn hzr 0 (k : Nat) u
          have hput := zerT_put hn (b := b) (f := a) (on := on) hkl hlt.2
          obtain ⟨y, hy1, hy2, hy3⟩ := mask_wd (b := b) (on := on) hlt.1 hlt.2 hk1 hkl
          have hfst : (if (a : Int) - (k : Int) * 64 < 0 then (0 : Int) else (a : Int) - (k : Int) * 64) = ((a - 64 * k : Nat) : Int) := by split <;> omega
          have hmn : (if (63 : Int) < (last : Int) - (k : Int) * 64 then (63 : Int) else (last : Int) - (k : Int) * 64) - ((a - 64 * k : Nat) : Int) + 1 = ((min (last - 64 * k) 63 - (a - 64 * k) + 1 : Nat) : Int) := by split <;> omega
          have c4 : Told P T word_Mask [] _ _ _ := mask_told ((a - 64 * k : Nat) : Int) ((min (last - 64 * k) 63 - (a - 64 * k) + 1 : Nat) : Int) (by omega) (by omega)
          generalize maskF ((a - 64 * k : Nat) : Int) ((min (last - 64 * k) 63 - (a - 64 * k) + 1 : Nat) : Int) = M at hy1 hy2 c4
          generalize wdT n (midB b a last k on) k = w0 at hy1 hy2 hy3 c2 hat
          generalize wdT n (midB b a last (k + 1) on) k = w1 at hy2 hy3 hput
          (refine gw ?_; refine IfB.tt (by simp; omega) ?_)
          (refine gw ?_)
          rw [hfst]
          (refine gw ?_)
          rw [hmn]
          (refine gw ?_; refine Choice.mk ⟨false, Choice.mk ⟨true, _, _, c4, ?_⟩⟩)
          (refine gw ?_; refine Choice.mk ⟨false, Choice.mk ⟨true, _, _, c2, ?_⟩⟩)
          (refine gw ?_)
          rw [hy1]
          by_cases ho : on = true
          · (refine gw ?_; refine IfB.tt (by simpa using ho) ?_)
            (refine gw ?_)
            rw [hy2 ho]
            (refine gw ?_; refine Choice.mk ⟨true, Choice.mk ⟨false, _, _, c3 _, ?_⟩⟩)
            (refine gw ?_; refine ⟨[], [0,1,2], rfl, ⟨k + 1, rfl, by rw [← hput]; rfl, by omega, by omega⟩, (by omega : last / 64 + 1 - ((k : Int) + 1).toNat < last / 64 + 1 - (k : Int).toNat)⟩)
          · (refine gw ?_; refine IfB.ff (by simpa using ho) ?_)
            rw [hy3 (by simpa using ho)]
            (refine gw ?_; refine Choice.mk ⟨true, Choice.mk ⟨false, _, _, c3 _, ?_⟩⟩)
            (refine gw ?_; refine ⟨[], [0,1,2], rfl, ⟨k + 1, rfl, by rw [← hput]; rfl, by omega, by omega⟩, (by omega : last / 64 + 1 - ((k : Int) + 1).toNat < last / 64 + 1 - (k : Int).toNat)⟩)
        · (refine gw ?_; refine IfB.ff (by simp; omega) ?_)
          (refine gw ?_)
          refine tabV_gn (l := 0) (by omega) ?_
          (refine gw ?_)
          refine tabV_gn (l := 0) (by omega) ?_
          (refine gw ?_)
          rw [hl0, had, hld]
          (refine gw ?_)
          rw [hmin]
          have hke : k = last / 64 + 1 := by omega
          obtain ⟨mm, hme⟩ : ∃ mm : Nat, m = mm := ⟨m.toNat, by omega⟩
          have hlm : last + 1 = a + mm ∨ (last + 1 = n ∧ n ≤ a + mm) := by split at hlast <;> omega
          have hend : eTg n (lvT n (setB b a mm on)) = eTr n (setZ b a m on) := by
            unfold eTr
            rw [eTg_eq, lvT_congr (b := setB b a mm on) (c := setZ b a m on) fun x hx => set_eq b hme x]
          rw [hke, zerT_end hlm]
          (refine gw ?_; refine LoopN.mk ⟨[4,8,14,15,16], fun vs L => ∃ c : Nat, vs = [.ptr 0 0 0, .ptr 1 0 0, i64 (a / 64 ^ (c + 1) : Nat), i64 (last / 64 ^ (c + 1) : Nat), i64 (c + 1 : Nat)] ∧ L = [.var (.agg [i64 n, .ref 2]), .var (.agg [i64 0, .und]), gV (mixT n b (setB b a mm on) (c + 1))] ∧ c + 1 ≤ hT n ∧ (∀ i, (i < a / 64 ^ (c + 1) ∨ last / 64 ^ (c + 1) < i) → fT n b c i = fT n (setB b a mm on) c i), fun vs L => match vs with | [_, _, _, _, .int _ i] => hT n - i.toNat | _ => 0, [], [0,1,2], rfl, ⟨0, by rw [Nat.pow_one]; rfl, rfl, by omega, by rw [Nat.pow_one]; exact set_same (by omega) hlm⟩, ?_⟩)
          rintro vs L ⟨c, rfl, rfl, hc, hsame⟩
          have hml : ((mixT n b (setB b a mm on) (c + 1)).map fun r => (true, r.map u64)).length = hT n := by rw [List.length_map]; exact mix_len _ _ _ _
          have hda := pow_div64 a c
          have hdl := pow_div64 last c
          have hle : a / 64 ^ (c + 1) ≤ last / 64 ^ (c + 1) := Nat.div_le_div_right hlt.1
          have hsm : last / 64 ^ (c + 1) < szT n (c + 1) := div_lv hlt.2 c
          have hsz := szT_le_n hn (c + 1)
          have hd1 : a / 64 ^ (c + 1 + 1) ≤ a := Nat.div_le_self _ _
          have hd2 : last / 64 ^ (c + 1 + 1) ≤ last := Nat.div_le_self _ _
          have hd3 : a / 64 ^ (c + 1 + 1) ≤ last / 64 ^ (c + 1 + 1) := Nat.div_le_div_right hlt.1
          have hd4 : a / 64 ^ (c + 1) ≤ a := Nat.div_le_self _ _
          have hd5 : last / 64 ^ (c + 1) ≤ last := Nat.div_le_self _ _
          by_cases hcc : c + 1 < hT n
          · have c5 := treeSums_told (s := n) (by rw [mix_len]; omega) (mix_row hn hn2 b (setB b a mm on) (c + 1)) (mix_w _ _ _ _) (c + 1) (a / 64 ^ (c + 1)) (last / 64 ^ (c + 1)) (by omega) (by omega) (by omega)
            rw [sums_mix hn (by omega) hcc (by omega) hsm hsame] at c5
            have hsame2 := fT_same hsame
            rw [Nat.div_div_eq_div_mul, Nat.div_div_eq_div_mul, ← Nat.pow_succ] at hsame2
            generalize setB b a mm on = cb at *
            generalize hA : a / 64 ^ (c + 1) = A at *
            generalize hB : a / 64 ^ (c + 1 + 1) = A' at *
            generalize hC : last / 64 ^ (c + 1) = B at *
            generalize hD : last / 64 ^ (c + 1 + 1) = B' at *
            (refine gw ?_; refine IfB.tt (by rw [hml]; simp; omega) ?_)
            (refine gw ?_; refine Choice.mk ⟨true, Choice.mk ⟨false, _, _, c5, ?_⟩⟩)
            (refine gw ?_)
            rw [hda]
            (refine gw ?_)
            rw [hdl]
            (refine gw ?_)
            (refine gw ?_; refine ⟨[], [0,1,2], rfl, ⟨c + 1, by rw [hB, hD]; rfl, rfl, by omega, by rw [hB, hD]; exact hsame2⟩, (by omega : hT n - ((c + 1 : Nat) + 1 : Int).toNat < hT n - ((c + 1 : Nat) : Int).toNat)⟩)
          · have e : c + 1 = hT n := by omega
            (refine gw ?_; refine IfB.ff (by rw [hml]; simp; omega) ?_)
            rw [e, mix_all, ← hend]
            (refine gw ?_; exact RetN.fz ⟨[true], [], rfl, rfl, rfl⟩)
end Go.Ev.W
namespace Go.Ev.W
open Go.Ev Go.Ev.N

def offB : Nat → Bool := fun _ => false
theorem off_full {m k : Nat} (h : 64 * k + 64 ≤ m) : wdT m offB k = 0 := by
  unfold wdT
  apply Nat.eq_of_testBit_eq
  intro j
  rw [wB_bit, Nat.zero_testBit]
  by_cases hj : j < 64
  · rw [decide_eq_false (show ¬ m ≤ 64 * k + j by omega)]; simp [offB]
  · rw [decide_eq_false hj]; rfl
theorem off_last {m k : Nat} (h : 64 * k < m) (h2 : m < 64 * k + 64) : wdT m offB k = maskF ((m % 64 : Nat) : Int) 64 := by
  have hm := maskF_lt ((m % 64 : Nat) : Int) 64
  unfold wdT
  apply Nat.eq_of_testBit_eq
  intro j
  rw [wB_bit]
  by_cases hj : j < 64
  · rw [maskF_bit hj (by omega), decide_eq_true hj, Bool.true_and, ← Bool.decide_and]
    show (decide (m ≤ 64 * k + j) || false) = _
    rw [Bool.or_false]
    refine decide_eq_decide.2 ?_
    omega
  · rw [decide_eq_false hj, Nat.testBit_lt_two_pow (Nat.lt_of_lt_of_le hm (Nat.pow_le_pow_right (by omega) (by omega)))]; rfl
def rowT (m : Nat) (b : Nat → Bool) : List Nat := (List.range ((m - 1) / 64 + 1)).map (wdT m b)
theorem rowT_len (m : Nat) (b : Nat → Bool) : (rowT m b).length = (m - 1) / 64 + 1 := by simp [rowT]
theorem rowT_get {m i : Nat} {b : Nat → Bool} (h : i < (rowT m b).length) : (rowT m b)[i] = wdT m b i := by simp [rowT]
theorem level_told {m : Nat} (h1 : 1 ≤ m) (h2 : m ≤ 65536) : Told P T tree_level [] [i64 m] (.ref 0) [.row t_uint64 ((rowT m offB).map u64)] := by
  have hd : ((m : Nat) : Int) - 1 = ((m - 1 : Nat) : Int) := by omega
  have hdd : ((m - 1 : Nat) : Int).tdiv 64 = (((m - 1) / 64 : Nat) : Int) := (Int.ofNat_tdiv (m - 1) 64).symm
  have hmd : ((m : Nat) : Int).tmod 64 = ((m % 64 : Nat) : Int) := by rw [Int.tmod_eq_emod_of_nonneg (by omega)]; omega
  refine told_of_ev (fn := tree_level_fn) tabOk mixed (by kernel_rfl) (by kernel_rfl) (by kernel_rfl) (by kernel_rfl) ?_
  (refine gw ?_)
  rw [hd, hdd]
  (refine gw ?_)
  rw [show (((m - 1) / 64 : Nat) : Int) + 1 = (((m - 1) / 64 + 1 : Nat) : Int) by omega, Int.toNat_natCast]
  refine Room.mk (by omega) ?_
  have hz : List.replicate ((m - 1) / 64 + 1) (zeroE T t_uint64) = ((List.replicate ((m - 1) / 64 + 1) 0).map u64) := by rw [List.map_replicate]; rfl
  rw [hz]
  have hzl : ((List.replicate ((m - 1) / 64 + 1) 0).map u64).length = (m - 1) / 64 + 1 := by simp
  (refine gw ?_)
  rw [hmd]
  by_cases h3 : 0 < m % 64
  · have c1 := mask_told ((m % 64 : Nat) : Int) 64 (by omega) (by omega)
    have c1 : Told P T word_Mask [] _ _ _ := c1
    have hs : (List.replicate ((m - 1) / 64 + 1) 0).set ((m - 1) / 64) (maskF ((m % 64 : Nat) : Int) 64) = rowT m offB := by
      apply List.ext_getElem (by simp [rowT_len])
      intro i h4 h5
      have hi : i < (m - 1) / 64 + 1 := by simpa using h4
      rw [rowT_get, List.getElem_set]
      split
      · rename_i he; subst he; rw [off_last (by omega) (by omega)]
      · rw [List.getElem_replicate, off_full (by omega)]
    rw [← hs]
    generalize maskF ((m % 64 : Nat) : Int) 64 = M at *
    (refine gw ?_; refine IfB.tt (by simp; omega) ?_)
    (refine gw ?_)
    rw [hzl]
    (refine gw ?_; refine Choice.mk ⟨false, Choice.mk ⟨false, _, _, c1, ?_⟩⟩)
    (refine gw ?_)
    have hs2 : ((List.replicate ((m - 1) / 64 + 1) 0).map u64).set ((((m - 1) / 64 + 1 : Nat) : Int) - 1).toNat (u64 M) = ((List.replicate ((m - 1) / 64 + 1) 0).set ((m - 1) / 64) M).map u64 := by
      rw [show ((((m - 1) / 64 + 1 : Nat) : Int) - 1).toNat = (m - 1) / 64 by omega, List.map_set]
    rw [← hs2]
    exact RetN.mk ⟨[1], rfl, rfl, rfl⟩
  · have hs : List.replicate ((m - 1) / 64 + 1) 0 = rowT m offB := by
      apply List.ext_getElem (by simp [rowT_len])
      intro i h4 h5
      have hi : i < (m - 1) / 64 + 1 := by simpa using h4
      rw [rowT_get, List.getElem_replicate, off_full (by omega)]
    rw [← hs]
    (refine gw ?_; refine IfB.ff (by simp; omega) ?_)
    (refine gw ?_; exact RetN.mk ⟨[1], rfl, rfl, rfl⟩)
end Go.Ev.W
namespace Go.Ev.W
open Go.Ev Go.Ev.N

/-- The first levels of a tree. -/
def upT (n : Nat) (b : Nat → Bool) (l : Nat) : LV := (lvT n b).take l
theorem off_bt {n : Nat} (hn : 1 ≤ n) : ∀ (l i : Nat), i < szT n l → btT n offB l i = false := by
  intro l
  induction l with
  | zero => intro i _; rfl
  | succ l ih =>
    intro i hi
    have hi : i < (szT n l - 1) / 64 + 1 := hi
    show decide (wdT (szT n l) (btT n offB l) i = FW) = false
    refine decide_eq_false fun h => ?_
    have hz := szT_pos hn l
    have := congrArg (fun u => Nat.testBit u 0) h
    unfold wdT at this
    simp only [wB_bit] at this
    rw [ih _ (by omega), decide_eq_false (show ¬ szT n l ≤ 64 * i + 0 by omega)] at this
    revert this; decide
theorem upT_len {n l : Nat} (b : Nat → Bool) (h : l ≤ hT n) : (upT n b l).length = l := by
  unfold upT
  rw [List.length_take, lvT_len]; omega
theorem upT_suc {n l : Nat} (hn : 1 ≤ n) (h : l < hT n) : upT n offB (l + 1) = upT n offB l ++ [rowT (szT n l) offB] := by
  have hl : l < (lvT n offB).length := by rw [lvT_len]; exact h
  unfold upT
  rw [List.take_succ_eq_append_getElem hl]
  congr 2
  rw [show (lvT n offB)[l] = (List.range (lenT n l)).map (fT n offB l) from tabV_get hl]
  refine List.map_congr_left fun i _ => wdT_congr fun x _ _ hx => off_bt hn l x hx
end Go.Ev.W
namespace Go.Ev.W
open Go.Ev Go.Ev.N

theorem sz_div {n : Nat} {x : Nat} (h : x < n) : ∀ l, x / 64 ^ l < szT n l := by
  intro l
  induction l with
  | zero => simpa [szT] using h
  | succ l ih =>
    show x / 64 ^ (l + 1) < (szT n l - 1) / 64 + 1
    rw [Nat.pow_succ, ← Nat.div_div_eq_div_mul]
    generalize x / 64 ^ l = q at *
    omega
theorem fT_bit {n : Nat} {b : Nat → Bool} {l k j : Nat} (hj : j < 64) : (fT n b l k).testBit j = (decide (szT n l ≤ 64 * k + j) || btT n b l (64 * k + j)) := by
  unfold fT wdT
  rw [wB_bit, decide_eq_true hj, Bool.true_and]
theorem FW_bit {j : Nat} (hj : j < 64) : FW.testBit j = true := by
  have h : FW = 2 ^ 64 - 1 := by decide
  rw [h, Nat.testBit_two_pow_sub_one]; simpa using hj
/-- A bit that is set tells that all below it are. -/
theorem bt_full {n : Nat} {b : Nat → Bool} : ∀ (k j : Nat), btT n b k j = true → ∀ x, x / 64 ^ k = j → x < n → b x = true := by
  intro k
  induction k with
  | zero => intro j h x hx _; rw [Nat.pow_zero, Nat.div_one] at hx; subst hx; exact h
  | succ k ih =>
    intro j h x hx hn
    have h : decide (fT n b k j = FW) = true := h
    have h := of_decide_eq_true h
    rw [Nat.pow_succ, ← Nat.div_div_eq_div_mul] at hx
    have hs := sz_div hn k
    refine ih (x / 64 ^ k) ?_ x rfl hn
    generalize x / 64 ^ k = q at *
    have hb : (fT n b k j).testBit (q - 64 * j) = FW.testBit (q - 64 * j) := congrArg (fun u => Nat.testBit u (q - 64 * j)) h
    rw [fT_bit (by omega), FW_bit (by omega), show 64 * j + (q - 64 * j) = q by omega, decide_eq_false (by omega), Bool.false_or] at hb
    exact hb
/-- A bit that is not set has one below it that is not. -/
theorem bt_zero {n : Nat} {b : Nat → Bool} {k j : Nat} (h : btT n b (k + 1) j = false) : ∃ z, z < 64 ∧ lowW (fun i => !(fT n b k j).testBit i) = z ∧ 64 * j + z < szT n k ∧ btT n b k (64 * j + z) = false ∧ ∀ i, i < z → btT n b k (64 * j + i) = true ∨ szT n k ≤ 64 * j + i := by
  have h : decide (fT n b k j = FW) = false := h
  have h := of_decide_eq_false h
  rcases lowW_spec (fun i => !(fT n b k j).testBit i) with ⟨_, h2⟩ | ⟨h1, h2, h3⟩
  · refine absurd ?_ h
    apply Nat.eq_of_testBit_eq
    intro i
    by_cases hi : i < 64
    · rw [FW_bit hi]; simpa using h2 i hi
    · rw [Nat.testBit_lt_two_pow (Nat.lt_of_lt_of_le (fT_lt n b k j) (Nat.pow_le_pow_right (n := 2) (by omega) (show 64 ≤ i by omega))), Nat.testBit_lt_two_pow (Nat.lt_of_lt_of_le (show FW < 2 ^ 64 by decide) (Nat.pow_le_pow_right (n := 2) (by omega) (show 64 ≤ i by omega)))]
  · refine ⟨_, h1, rfl, ?_, ?_, fun i hi => ?_⟩
    · rw [fT_bit h1] at h2
      generalize lowW _ = z at *
      cases hd : decide (szT n k ≤ 64 * j + z) with
      | true => rw [hd] at h2; simp at h2
      | false => have := of_decide_eq_false hd; omega
    · rw [fT_bit h1] at h2
      generalize lowW _ = z at *
      simpa using (by simpa using h2 : _ ∧ _).2
    · have h4 := h3 i hi
      rw [fT_bit (by omega)] at h4
      generalize lowW _ = z at *
      by_cases h5 : szT n k ≤ 64 * j + i
      · exact .inr h5
      · rw [decide_eq_false h5] at h4; left; simpa using h4
end Go.Ev.W
namespace Go.Ev.W
open Go.Ev Go.Ev.N

/-- The first bit that is not set. -/
def firZ (n : Nat) (b : Nat → Bool) (f : Nat) : Option Nat := (List.range n).find? fun i => decide (f ≤ i) && !b i
def eFir : Option Nat → AV
  | some i => .tup [i64 i, .bool true]
  | none => .tup [i64 0, .bool false]
theorem firZ_none {n f : Nat} {b : Nat → Bool} (h : ∀ x, f ≤ x → x < n → b x = true) : firZ n b f = none := by
  unfold firZ
  rw [List.find?_eq_none]
  intro x hx
  have hx : x < n := by simpa using hx
  by_cases hf : f ≤ x
  · simp [h x hf hx]
  · simp [hf]
theorem firZ_some {n f i : Nat} {b : Nat → Bool} (hi : i < n) (hf : f ≤ i) (hb : b i = false) (h : ∀ x, f ≤ x → x < i → b x = true) : firZ n b f = some i := by
  unfold firZ
  rw [List.find?_range_eq_some]
  refine ⟨by simp [hf, hb], by simpa using hi, fun j hj => ?_⟩
  by_cases hf : f ≤ j
  · simp [h j hf hj]
  · simp [hf]
/-- Where the search stands. -/
structure Up (n : Nat) (b : Nat → Bool) (f k i : Nat) : Prop where
  z : k = 0 → f ≤ i
  p : 1 ≤ k → f / 64 ^ k < i
  a : ∀ x, f ≤ x → x / 64 ^ k < i → x < n → b x = true
theorem Up.go {n : Nat} {b : Nat → Bool} {f k i j : Nat} (h : Up n b f k i) (hij : i ≤ j) (hb : ∀ p, i ≤ p → p < j → p < szT n k → btT n b k p = true) : Up n b f k j :=
  ⟨fun e => by have := h.z e; omega, fun e => by have := h.p e; omega, fun x h1 h2 h3 => by
    by_cases h4 : x / 64 ^ k < i
    · exact h.a x h1 h4 h3
    · exact bt_full k _ (hb _ (by omega) h2 (sz_div h3 k)) x rfl h3⟩
theorem Up.up {n : Nat} {b : Nat → Bool} {f k q : Nat} (h : Up n b f k (64 * (q + 1))) (hf : f / 64 ^ k < 64 * (q + 1)) : Up n b f (k + 1) (q + 1) :=
  ⟨fun e => by omega, fun _ => by rw [Nat.pow_succ, ← Nat.div_div_eq_div_mul]; omega, fun x h1 h2 h3 => by
    rw [Nat.pow_succ, ← Nat.div_div_eq_div_mul] at h2
    exact h.a x h1 (by omega) h3⟩
theorem Up.down {n : Nat} {b : Nat → Bool} {f k i : Nat} (h : Up n b f (k + 1) i) : Up n b f k (64 * i) := by
  have hp := h.p (by omega)
  rw [Nat.pow_succ, ← Nat.div_div_eq_div_mul] at hp
  refine ⟨fun e => by subst e; rw [Nat.pow_zero, Nat.div_one] at hp; omega, fun _ => by omega, fun x h1 h2 h3 => h.a x h1 ?_ h3⟩
  rw [Nat.pow_succ, ← Nat.div_div_eq_div_mul]
  omega
/-- The word, looked at. -/
theorem word_low {n : Nat} {b : Nat → Bool} {f k i : Nat} (h : Up n b f k i) :
    (lowW (fun j => !(fT n b k (i / 64) ||| maskF 0 ((i % 64 : Nat) : Int)).testBit j) = 64 ∧ Up n b f (k + 1) (i / 64 + 1)) ∨
    ∃ z, z < 64 ∧ lowW (fun j => !(fT n b k (i / 64) ||| maskF 0 ((i % 64 : Nat) : Int)).testBit j) = z ∧ Up n b f k (64 * (i / 64) + z) ∧ 64 * (i / 64) + z < szT n k ∧ btT n b k (64 * (i / 64) + z) = false := by
  have hbit : ∀ j, j < 64 → (fT n b k (i / 64) ||| maskF 0 ((i % 64 : Nat) : Int)).testBit j = ((decide (szT n k ≤ 64 * (i / 64) + j) || btT n b k (64 * (i / 64) + j)) || decide (j < i % 64)) := fun j hj => by
    rw [Nat.testBit_or, fT_bit hj, maskF_bit hj (by omega), decide_eq_true (show (0 : Int) ≤ (j : Int) by omega), Bool.true_and]
    congr 1
    exact decide_eq_decide.2 (by omega)
  generalize fT n b k (i / 64) ||| maskF 0 ((i % 64 : Nat) : Int) = w at *
  have hrun : ∀ e, e ≤ 64 → (∀ j, j < e → w.testBit j = true) → ∀ p, i ≤ p → p < 64 * (i / 64) + e → p < szT n k → btT n b k p = true := fun e he hw p h1 h2 h3 => by
    have h4 := hw (p - 64 * (i / 64)) (by omega)
    rw [hbit _ (by omega), show 64 * (i / 64) + (p - 64 * (i / 64)) = p by omega, decide_eq_false (show ¬ szT n k ≤ p by omega), decide_eq_false (show ¬ p - 64 * (i / 64) < i % 64 by omega)] at h4
    simpa using h4
  rcases lowW_spec (fun j => !w.testBit j) with ⟨h1, h2⟩ | ⟨h1, h2, h3⟩
  · left
    refine ⟨h1, ?_⟩
    have g := h.go (j := 64 * (i / 64 + 1)) (by omega) fun p h3 h4 h5 => hrun 64 (by omega) (fun j hj => by simpa using h2 j hj) p h3 (by omega) h5
    refine g.up ?_
    by_cases hk : k = 0
    · have := h.z hk; subst hk; rw [Nat.pow_zero, Nat.div_one]; omega
    · have := h.p (by omega); omega
  · right
    generalize lowW (fun j => !w.testBit j) = z at *
    have h2 : w.testBit z = false := by simpa using h2
    rw [hbit z h1] at h2
    simp only [Bool.or_eq_false_iff, decide_eq_false_iff_not] at h2
    obtain ⟨⟨h4, h5⟩, h6⟩ := h2
    exact ⟨z, h1, rfl, h.go (by omega) fun p h7 h8 h9 => hrun z (by omega) (fun j hj => by simpa using h3 j hj) p h7 h8 h9, by omega, h5⟩
end Go.Ev.W
namespace Go.Ev.W
open Go.Ev Go.Ev.N

def firI (n : Nat) (b : Nat → Bool) (f : Int) : Option Nat := if f < 0 ∨ f ≥ n then none else firZ n b f.toNat
theorem at_eTr {n : Nat} (hn : 1 ≤ n) (hn2 : n ≤ 65536) (b : Nat → Bool) {l k : Nat} (hl : l < hT n) (hk : k < lenT n l) : Told P T tree_at [] [eTr n b, i64 l, i64 k] (u64 (fT n b l k)) [] := by
  have hh := hT_le n
  have c := treeAt_told (s := n) (v := lvT n b) (by rw [lvT_len]; omega) (mixT_all_row hn hn2 b) l (k : Nat)
  rw [show atF (lvT n b) l (k : Nat) = fT n b l k from tabV_at hl hk] at c
  exact c
theorem or_low {w m : Nat} (h : w < 2 ^ 64) (h2 : m < 2 ^ 64) : w ||| m < 2 ^ 64 := Nat.or_lt_two_pow h h2
set_option maxHeartbeats 4000000 in
theorem treeFirst_told {n : Nat} (hn : 1 ≤ n) (hn2 : n ≤ 65536) (b : Nat → Bool) (f : Int) (hf : -9223372036854775808 ≤ f ∧ f ≤ 9223372036854775807) : Told P T tree_FirstZero [] [eTr n b, i64 f] (eFir (firI n b f)) [] := by
  have hh := hT_le n
  have hvl : ((lvT n b).map lR).length = hT n := by simp [lvT_len]
  have hlast := hT_last hn hn2
  refine told_of_ev (fn := tree_FirstZero_fn) tabOk mixed (by kernel_rfl) (by kernel_rfl) (by kernel_rfl) (by kernel_rfl) ?_
  by_cases h1 : f < 0
  · rw [show firI n b f = none by unfold firI; rw [if_pos (.inl h1)]]
    (refine gw ?_; refine IfB.tt (by simpa using h1) ?_)
    (refine gw ?_; exact RetN.mk ⟨[], rfl, rfl, rfl⟩)
  · (refine gw ?_; refine IfB.ff (by simpa using h1) ?_)
    by_cases h2 : f ≥ n
    · rw [show firI n b f = none by unfold firI; rw [if_pos (.inr h2)]]
      (refine gw ?_; refine IfB.tt (by simpa using h2) ?_)
      (refine gw ?_; exact RetN.mk ⟨[], rfl, rfl, rfl⟩)
    · obtain ⟨a, rfl⟩ : ∃ a : Nat, f = a := ⟨f.toNat, by omega⟩
      rw [show firI n b a = firZ n b a by unfold firI; rw [if_neg (by omega)]; rfl]
      (refine gw ?_; refine IfB.ff (by simpa using h2) ?_)
      (refine gw ?_; refine LoopN.mk ⟨[2,6,7], fun vs L => ∃ k i : Nat, vs = [.ptr 0 0 0, i64 k, i64 i] ∧ L = [.var (eTr n b)] ∧ k ≤ hT n ∧ i ≤ 65537 ∧ Up n b a k i ∧ (1 ≤ k → 1 ≤ i), fun vs L => match vs with | [_, .int _ i, _] => hT n - i.toNat | _ => 0, [], [0], rfl, ⟨0, a, rfl, rfl, by omega, by omega, ⟨fun _ => Nat.le_refl _, fun e => by omega, fun x e1 e2 => by rw [Nat.pow_zero, Nat.div_one] at e2; omega⟩, fun e => by omega⟩, ?_⟩)
      rintro vs L ⟨k, i, rfl, rfl, hk, hi, hup, hpi⟩
      by_cases h3 : k < hT n
      · have hkv : k < (lvT n b).length := by rw [lvT_len]; exact h3
        have hrl : ((lvT n b)[k].map u64).length = lenT n k := by
          rw [show (lvT n b)[k] = (List.range (lenT n k)).map (fT n b k) from tabV_get hkv]; simp
        have hdi : ((i : Nat) : Int).tdiv 64 = ((i / 64 : Nat) : Int) := (Int.ofNat_tdiv i 64).symm
        have hmi : ((i : Nat) : Int).tmod 64 = ((i % 64 : Nat) : Int) := by rw [Int.tmod_eq_emod_of_nonneg (by omega)]; omega
        have hlk : lenT n k = (szT n k - 1) / 64 + 1 := rfl
        have hszk := szT_pos hn k
        have hszn := szT_le_n hn k
        (refine gw ?_; refine IfB.ff (by rw [hvl]; simp; omega) ?_)
        (refine gw ?_)
        rw [hdi]
        (refine gw ?_; refine idx_map (hkv) ?_)
        by_cases h4 : i / 64 ≥ lenT n k
        · rw [firZ_none fun x e1 e2 => hup.a x e1 (by have := sz_div e2 k; omega) e2]
          (refine gw ?_; refine IfB.tt (by rw [hrl]; simp; omega) ?_)
          (refine gw ?_; exact RetN.mk ⟨[], rfl, rfl, rfl⟩)
        · have c1 := at_eTr hn hn2 b h3 (k := i / 64) (by omega)
          have c2 := mask_told 0 ((i % 64 : Nat) : Int) (by omega) (by omega)
          have c2 : Told P T word_Mask [] _ _ _ := c2
          have hor := or64 (fT_lt n b k (i / 64)) (maskF_lt 0 ((i % 64 : Nat) : Int))
          have c3 := lowZero_told (or_low (fT_lt n b k (i / 64)) (maskF_lt 0 ((i % 64 : Nat) : Int)))
          have hwl := word_low hup
          generalize fT n b k (i / 64) ||| maskF 0 ((i % 64 : Nat) : Int) = w at hor c3 hwl
          generalize fT n b k (i / 64) = w1 at c1 hor
          generalize maskF 0 ((i % 64 : Nat) : Int) = w2 at c2 hor
          (refine gw ?_; refine IfB.ff (by rw [hrl]; simp; omega) ?_)
          (refine gw ?_)
          rw [hdi]
          (refine gw ?_; refine Choice.mk ⟨false, Choice.mk ⟨false, _, _, c1, ?_⟩⟩)
          (refine gw ?_)
          rw [hmi]
          (refine gw ?_; refine Choice.mk ⟨false, Choice.mk ⟨false, _, _, c2, ?_⟩⟩)
          (refine gw ?_)
          rw [hor]
          (refine gw ?_; refine Choice.mk ⟨false, Choice.mk ⟨false, _, _, c3, ?_⟩⟩)
          rcases hwl with ⟨e1, e2⟩ | ⟨z, e1, e2, e3, e4, e5⟩
          · rw [e1]
            (refine gw ?_; refine ⟨[], [0], rfl, ⟨k + 1, i / 64 + 1, by rw [show ((i / 64 + 1 : Nat) : Int) = ((i : Nat) : Int).tdiv 64 + 1 by omega]; rfl, rfl, by omega, by omega, e2, by omega⟩, (by omega : hT n - ((k : Int) + 1).toNat < hT n - (k : Int).toNat)⟩)
          · rw [e2]
            (refine gw ?_; refine IfB.tt (by simp; omega) ?_)
            (refine gw ?_)
            rw [hdi]
            (refine gw ?_; refine LoopN.mk ⟨[2,6,7], fun vs L => ∃ k i : Nat, vs = [.ptr 0 0 0, i64 k, i64 i] ∧ L = [.var (eTr n b)] ∧ k < hT n ∧ i < szT n k ∧ Up n b a k i ∧ btT n b k i = false, fun vs L => match vs with | [_, .int _ i, _] => i.toNat | _ => 0, [], [0], rfl, ⟨k, 64 * (i / 64) + z, by rw [show ((64 * (i / 64) + z : Nat) : Int) = ((i / 64 : Nat) : Int) * 64 + z by omega]; rfl, rfl, h3, e4, e3, e5⟩, ?_⟩)
            rintro vs L ⟨k, i, rfl, rfl, hk, hi, hup, hz⟩
            have hszn := szT_le_n hn k
            cases k with
            | zero =>
              have hi : i < n := hi
              have hz : b i = false := hz
              rw [firZ_some hi (hup.z rfl) hz fun x e1 e2 => hup.a x e1 (by rw [Nat.pow_zero, Nat.div_one]; exact e2) (by omega)]
              (refine gw ?_)
              refine RetN.mk ⟨[], rfl, ?_, rfl⟩
              show AV.tup [i64 i, .bool (decide ((i : Int) < n))] = AV.tup [i64 i, .bool true]
              rw [decide_eq_true (by omega)]
            | succ k =>
              have c1 := at_eTr hn hn2 b (l := k) (k := i) (by omega) hi
              have c3 := lowZero_told (fT_lt n b k i)
              obtain ⟨z, e1, e2, e3, e4, e5⟩ := bt_zero hz
              have hd := hup.down.go (j := 64 * i + z) (by omega) fun p q1 q2 q3 => by
                have := e5 (p - 64 * i) (by omega)
                rw [show 64 * i + (p - 64 * i) = p by omega] at this
                rcases this with h | h
                · exact h
                · omega
              have hszk := szT_le_n hn k
              generalize fT n b k i = w at *
              (refine gw ?_)
              rw [show ((k + 1 : Nat) : Int) - 1 = (k : Int) by omega]
              (refine gw ?_; refine Choice.mk ⟨false, Choice.mk ⟨false, _, _, c1, ?_⟩⟩)
              (refine gw ?_; refine Choice.mk ⟨false, Choice.mk ⟨false, _, _, c3, ?_⟩⟩)
              rw [e2]
              (refine gw ?_; refine ⟨[], [0], rfl, ⟨k, 64 * i + z, by rw [show ((64 * i + z : Nat) : Int) = (i : Int) * 64 + z by omega, show (k : Int) = ((k + 1 : Nat) : Int) - 1 by omega]; rfl, rfl, by omega, e3, hd, e4⟩, (by omega : (((k + 1 : Nat) : Int) - 1).toNat < ((k + 1 : Nat) : Int).toNat)⟩)
      · have hkT : k = hT n := by omega
        have h1T : szT n k = 1 := by
          rw [hkT, show hT n = hT n - 1 + 1 by omega]
          show (szT n (hT n - 1) - 1) / 64 + 1 = 1
          have := hlast.1
          omega
        rw [firZ_none fun x e1 e2 => hup.a x e1 (by have := sz_div e2 k; omega) e2]
        (refine gw ?_; refine IfB.tt (by rw [hvl]; simp; omega) ?_)
        (refine gw ?_; exact RetN.mk ⟨[], rfl, rfl, rfl⟩)
end Go.Ev.W
namespace Go.Ev.W
open Go.Ev Go.Ev.N

def hasT (n : Nat) (b : Nat → Bool) (f : Int) : Bool := decide (0 ≤ f ∧ f < n) && b f.toNat
theorem bit_and {w k : Nat} (hw : w < 2 ^ 64) : (bitsOp .and .u64 ((w / 2 ^ k : Nat) : Int) 1 == 1) = decide (w / 2 ^ k % 2 = 1) := by
  have h := and64 (x := w / 2 ^ k) (y := 1) (Nat.lt_of_le_of_lt (Nat.div_le_self _ _) hw) (by decide)
  rw [show (1 : Int) = ((1 : Nat) : Int) from rfl, h, Nat.and_one_is_mod]
  generalize w / 2 ^ k % 2 = q
  by_cases hq : q = 1
  · subst hq; rfl
  · rw [decide_eq_false hq]
    have : ((q : Nat) : Int) ≠ ((1 : Nat) : Int) := by omega
    simpa using this
theorem treeHas_told {n : Nat} (hn : 1 ≤ n) (hn2 : n ≤ 65536) (b : Nat → Bool) (f : Int) (hf : -9223372036854775808 ≤ f ∧ f ≤ 9223372036854775807) : Told P T tree_Has [] [eTr n b, i64 f] (.bool (hasT n b f)) [] := by
  have hh := hT_le n
  by_cases h1 : 0 ≤ f
  · obtain ⟨a, rfl⟩ : ∃ a : Nat, f = a := ⟨f.toNat, by omega⟩
    by_cases h2 : a < n
    · have hdi : ((a : Nat) : Int).tdiv 64 = ((a / 64 : Nat) : Int) := (Int.ofNat_tdiv a 64).symm
      have hmi : ((a : Nat) : Int).tmod 64 = ((a % 64 : Nat) : Int) := by rw [Int.tmod_eq_emod_of_nonneg (by omega)]; omega
      have c1 := at_eTr hn hn2 b (l := 0) (k := a / 64) (by omega) (by show a / 64 < (n - 1) / 64 + 1; omega)
      have hb : (fT n b 0 (a / 64)).testBit (a % 64) = hasT n b a := by
        rw [fT_bit (by omega), show 64 * (a / 64) + a % 64 = a by omega, decide_eq_false (show ¬ szT n 0 ≤ a by show ¬ n ≤ a; omega)]
        unfold hasT
        rw [decide_eq_true (by omega)]; rfl
      have hw := fT_lt n b 0 (a / 64)
      generalize fT n b 0 (a / 64) = w at c1 hb hw
      have hsr := shr64 (u := w) (k := a % 64) (by omega)
      have hu : IntKind.u64.wrap (a : Int) = (a : Int) := wrapU64 (by omega) (by omega)
      refine told_of_ev (fn := tree_Has_fn) tabOk mixed (by kernel_rfl) (by kernel_rfl) (by kernel_rfl) (by kernel_rfl) ?_
      (refine gw ?_; refine IfB.tt (by simp; omega) ?_)
      (refine gw ?_)
      rw [hdi]
      (refine gw ?_; refine Choice.mk ⟨false, Choice.mk ⟨false, _, _, c1, ?_⟩⟩)
      (refine gw ?_)
      rw [hmi]
      (refine gw ?_)
      refine RetN.mk ⟨[], rfl, ?_, rfl⟩
      show AV.bool (bitsOp .and .u64 (((w : Nat) : Int).fdiv (2 ^ min ((a % 64 : Nat) : Int).toNat IntKind.u64.bits)) 1 == 1) = AV.bool (hasT n b a)
      rw [hsr, ← hb, bit_and hw, Nat.testBit_eq_decide_div_mod_eq]
    · have e : hasT n b a = false := by unfold hasT; rw [decide_eq_false (by omega)]; rfl
      rw [e]
      refine told_of_ev (fn := tree_Has_fn) tabOk mixed (by kernel_rfl) (by kernel_rfl) (by kernel_rfl) (by kernel_rfl) ?_
      (refine gw ?_; refine IfB.ff (by simp; omega) ?_)
      (refine gw ?_)
      exact RetN.mk ⟨[], rfl, rfl, rfl⟩
  · have e : hasT n b f = false := by unfold hasT; rw [decide_eq_false (by omega)]; rfl
    rw [e]
    refine told_of_ev (fn := tree_Has_fn) tabOk mixed (by kernel_rfl) (by kernel_rfl) (by kernel_rfl) (by kernel_rfl) ?_
    (refine gw ?_; refine IfB.ff (by simp; omega) ?_)
    (refine gw ?_; exact RetN.mk ⟨[], rfl, rfl, rfl⟩)
end Go.Ev.W
namespace Go.Ev.W
open Go.Ev Go.Ev.N

set_option maxHeartbeats 2000000 in
theorem newR_told {n : Nat} (hn : 1 ≤ n) (hn2 : n ≤ 65536) : Told P T tree_New [] [i64 n] (eTr n offB) [] := by
  rw [show eTr n offB = eTg n (lvT n offB) by unfold eTr; rw [eTg_eq]]
  have hl1 := hT_last hn hn2
  refine told_of_ev (fn := tree_New_fn) tabOk mixed (by kernel_rfl) (by kernel_rfl) (by kernel_rfl) (by kernel_rfl) ?_
  (refine gw ?_; refine IfB.ff (by simp; omega) ?_)
  (refine gw ?_; refine IfB.ff (by simp; omega) ?_)
  (refine gw ?_; refine LoopN.mk ⟨[2,3], fun vs L => ∃ l : Nat, vs = [.ptr 0 0 0, i64 (szT n l)] ∧ ((l = 0 ∧ L = [.var (.agg [i64 n, .ref 1]), .row ts_uint64 []]) ∨ (1 ≤ l ∧ L = [.var (.agg [i64 n, .ref 1]), gV (upT n offB l)])) ∧ l < hT n, fun vs L => match vs with | [_, .int _ i] => i.toNat | _ => 0, [], [0,1], rfl, ⟨0, rfl, .inl ⟨rfl, rfl⟩, by have := hT_le n; omega⟩, ?_⟩)
  rintro vs L ⟨l, rfl, hL, hl⟩
  have c1 := level_told (m := szT n l) (szT_pos hn l) (by have := szT_le_n hn l; omega)
  have hus := upT_suc hn hl
  have hu2 : ((upT n offB l).map fun r => (true, r.map u64)) ++ [(true, (rowT (szT n l) offB).map u64)] = (upT n offB (l + 1)).map (fun r => (true, r.map u64)) := by rw [hus, List.map_append]; rfl
  have hul := upT_len offB (Nat.le_of_lt hl)
  have hend : szT n l ≤ 64 → l + 1 = hT n := fun h => by
    by_cases e : l + 1 < hT n
    · have := hl1.2 l e; omega
    · omega
  have hgo : ¬ szT n l ≤ 64 → l + 1 < hT n := fun h => by
    by_cases e : l + 1 = hT n
    · have := hl1.1; rw [← e] at this; exact absurd this h
    · omega
  have hall : upT n offB (hT n) = lvT n offB := by unfold upT; rw [← lvT_len n offB, List.take_length]
  have hszb := szT_le_n hn l
  have hszc := szT_le_n hn (l + 1)
  have hsz : ((szT n l : Nat) : Int) - 1 = ((szT n l - 1 : Nat) : Int) := by have := szT_pos hn l; omega
  have hsd : ((szT n l - 1 : Nat) : Int).tdiv 64 = (((szT n l - 1) / 64 : Nat) : Int) := (Int.ofNat_tdiv _ 64).symm
  have hsu : (((szT n l - 1) / 64 : Nat) : Int) + 1 = ((szT n (l + 1) : Nat) : Int) := rfl
  rcases hL with ⟨rfl, rfl⟩ | ⟨h1, rfl⟩
  · (refine gw ?_; refine Choice.mk ⟨false, Choice.mk ⟨false, _, _, c1, ?_⟩⟩)
    (refine gw ?_)
    refine Choice.mk ⟨true, ?_⟩
    (refine gw ?_)
    refine Room.mk (by simp) ?_
    have hu1 : [(true, (rowT (szT n 0) offB).map u64)] = (upT n offB (0 + 1)).map (fun r => (true, r.map u64)) := hu2
    by_cases h5 : szT n 0 ≤ 64
    · rw [← hall, ← hend h5]
      (refine gw ?_; refine IfB.tt (by simp; omega) ?_)
      (refine gw ?_)
      rw [hu1]
      exact RetN.fz ⟨[true], [], rfl, rfl, rfl⟩
    · have hg := hgo h5
      have hlt : szT n (0 + 1) < szT n 0 := by show (szT n 0 - 1) / 64 + 1 < szT n 0; omega
      (refine gw ?_; refine IfB.ff (by simp; omega) ?_)
      (refine gw ?_)
      rw [hsz]
      (refine gw ?_)
      rw [hsd]
      (refine gw ?_)
      rw [hsu]
      rw [hu1]
      (refine gw ?_; refine ⟨[], [0,4], rfl, ⟨0 + 1, rfl, .inr ⟨by omega, rfl⟩, hg⟩, (by omega : (szT n (0 + 1) : Int).toNat < (szT n 0 : Int).toNat)⟩)
  · (refine gw ?_; refine Choice.mk ⟨false, Choice.mk ⟨false, _, _, c1, ?_⟩⟩)
    (refine gw ?_)
    refine Choice.mk ⟨true, ?_⟩
    (refine gw ?_)
    refine Room.mk (by have := hT_le n; simp; omega) ?_
    by_cases h5 : szT n l ≤ 64
    · rw [← hall, ← hend h5]
      (refine gw ?_; refine IfB.tt (by simp; omega) ?_)
      (refine gw ?_)
      rw [hu2]
      exact RetN.fz ⟨[true], [], rfl, rfl, rfl⟩
    · have hg := hgo h5
      have hlt : szT n (l + 1) < szT n l := by show (szT n l - 1) / 64 + 1 < szT n l; omega
      (refine gw ?_; refine IfB.ff (by simp; omega) ?_)
      (refine gw ?_)
      rw [hsz]
      (refine gw ?_)
      rw [hsd]
      (refine gw ?_)
      rw [hsu]
      rw [hu2]
      (refine gw ?_; refine ⟨[], [0,4], rfl, ⟨l + 1, rfl, .inr ⟨by omega, rfl⟩, hg⟩, (by omega : (szT n (l + 1) : Int).toNat < (szT n l : Int).toNat)⟩)
end Go.Ev.W
namespace Go.Ev.W
open Go.Ev Go.Ev.N

theorem hasT_nat {n : Nat} {b : Nat → Bool} {x : Nat} (h : x < n) : hasT n b x = b x := by unfold hasT; rw [decide_eq_true (by omega)]; rfl
theorem firI_spec {n : Nat} {b : Nat → Bool} {f : Nat} (hf : f < n) : (firI n b f = none ∧ ∀ x, f ≤ x → x < n → b x = true) ∨ ∃ i, firI n b f = some i ∧ f ≤ i ∧ i < n ∧ b i = false ∧ ∀ x, f ≤ x → x < i → b x = true := by
  have key : ∀ c, c ≤ n → f ≤ c → (∀ x, f ≤ x → x < c → b x = true) ∨ ∃ i, f ≤ i ∧ i < c ∧ b i = false ∧ ∀ x, f ≤ x → x < i → b x = true := by
    intro c
    induction c with
    | zero => intro _ _; exact .inl fun x _ h => by omega
    | succ c ih =>
      intro h1 h2
      by_cases hc : f ≤ c
      · rcases ih (by omega) hc with h | ⟨i, i1, i2, i3, i4⟩
        · cases hb : b c with
          | true =>
            refine .inl fun x e1 e2 => ?_
            by_cases e : x = c
            · rw [e]; exact hb
            · exact h x e1 (by omega)
          | false => exact .inr ⟨c, hc, by omega, hb, h⟩
        · exact .inr ⟨i, i1, by omega, i3, i4⟩
      · exact .inl fun x e1 e2 => by omega
  have hu : firI n b f = firZ n b f := by
    unfold firI
    rw [if_neg (by omega), Int.toNat_natCast]
  rw [hu]
  rcases key n (Nat.le_refl _) (by omega) with h | ⟨i, i1, i2, i3, i4⟩
  · exact .inl ⟨firZ_none h, h⟩
  · exact .inr ⟨i, firZ_some i2 i1 i3 i4, i1, i2, i3, i4⟩
end Go.Ev.W
namespace Go.Ev.W
open Go.Ev Go.Ev.N

/-- Bits of a level above: of two, is one set? -/
def upB (b : Nat → Bool) : Nat → Nat → Bool
  | 0 => b
  | k + 1 => fun i => upB b k (2 * i) || upB b k (2 * i + 1)
theorem upB_true {b : Nat → Bool} : ∀ {k i : Nat}, upB b k i = true ↔ ∃ x, x / 2 ^ k = i ∧ b x = true
  | 0, i => ⟨fun h => ⟨i, by simp, h⟩, fun ⟨x, h1, h2⟩ => by
      have : x = i := by simpa using h1
      rw [← this]; exact h2⟩
  | k + 1, i => by
    have ih := @upB_true b k
    show (upB b k (2 * i) || upB b k (2 * i + 1)) = true ↔ _
    rw [Bool.or_eq_true, ih, ih]
    have hdd : ∀ x, x / 2 ^ (k + 1) = x / 2 ^ k / 2 := fun x => by rw [Nat.pow_succ, Nat.div_div_eq_div_mul]
    constructor
    · rintro (⟨x, h1, h2⟩ | ⟨x, h1, h2⟩)
      · exact ⟨x, by rw [hdd, h1]; omega, h2⟩
      · exact ⟨x, by rw [hdd, h1]; omega, h2⟩
    · rintro ⟨x, h1, h2⟩
      rw [hdd] at h1
      generalize hq : x / 2 ^ k = q at *
      by_cases e : q = 2 * i
      · exact .inl ⟨x, by rw [hq, e], h2⟩
      · exact .inr ⟨x, by rw [hq]; omega, h2⟩
theorem upB_congr {b c : Nat → Bool} {k i : Nat} (h : ∀ x, x / 2 ^ k = i → b x = c x) : upB b k i = upB c k i := by
  apply Bool.eq_iff_iff.2
  rw [upB_true, upB_true]
  exact ⟨fun ⟨x, h1, h2⟩ => ⟨x, h1, by rw [← h x h1]; exact h2⟩, fun ⟨x, h1, h2⟩ => ⟨x, h1, by rw [h x h1]; exact h2⟩⟩
theorem upB_false {b : Nat → Bool} {k i : Nat} (h : ∀ x, x / 2 ^ k = i → b x = false) : upB b k i = false := by
  cases e : upB b k i with
  | false => rfl
  | true =>
    obtain ⟨x, h1, h2⟩ := upB_true.1 e
    rw [h x h1] at h2; exact absurd h2 (by decide)
/-- Places of so many granules and classes. -/
structure SlOk (g c : Nat) : Prop where
  c1 : 1 ≤ c
  c17 : c ≤ 17
  g1 : 1 ≤ g
  g2 : g ≤ 65536
  dv : g % 2 ^ (c - 1) = 0
theorem SlOk.sz {g c : Nat} (h : SlOk g c) {k : Nat} (hk : k < c) : 1 ≤ g / 2 ^ k ∧ g / 2 ^ k ≤ 65536 ∧ g / 2 ^ k * 2 ^ k = g := by
  have hd : 2 ^ (c - 1) ∣ g := Nat.dvd_of_mod_eq_zero h.dv
  have hd2 : 2 ^ k ∣ g := Nat.dvd_trans (Nat.pow_dvd_pow 2 (by omega)) hd
  have hm := Nat.div_mul_cancel hd2
  have hp : 0 < 2 ^ k := Nat.pow_pos (by omega)
  refine ⟨?_, Nat.le_trans (Nat.div_le_self _ _) h.g2, hm⟩
  have := Nat.le_of_dvd (by have := h.g1; omega) hd2
  exact (Nat.one_le_div_iff hp).2 this
theorem SlOk.half {g c : Nat} (h : SlOk g c) {k : Nat} (hk : k + 1 < c) : g / 2 ^ k = 2 * (g / 2 ^ (k + 1)) := by
  have h1 := (h.sz (k := k) (by omega)).2.2
  have h2 := (h.sz (k := k + 1) hk).2.2
  have hp : 0 < 2 ^ k := Nat.pow_pos (by omega)
  have : g / 2 ^ k * 2 ^ k = 2 * (g / 2 ^ (k + 1)) * 2 ^ k := by
    rw [h1, Nat.mul_comm 2 _, Nat.mul_assoc, Nat.mul_comm 2 _, ← Nat.pow_succ, h2]
  exact Nat.eq_of_mul_eq_mul_right hp this
def tS (g : Nat) (b : Nat → Bool) (k : Nat) : AV := eTr (g / 2 ^ k) (upB b k)
def tL (g c : Nat) (b : Nat → Bool) : List AV := (List.range c).map (tS g b)
def eS (g c : Nat) (b : Nat → Bool) : AV := .agg [.lst t_api_Tree (tL g c b)]
theorem tL_len (g c : Nat) (b : Nat → Bool) : (tL g c b).length = c := by simp [tL]
theorem tL_at {g c k : Nat} {b : Nat → Bool} (h : k < c) {Q : AV → Prop} (q : Q (tS g b k)) : At (tL g c b) ((k : Nat) : Int).toNat Q := by
  unfold tL
  refine at_map (k := k) (by simpa using h) ?_
  rw [List.getElem_range]; exact q
theorem tL_idx {g c k : Nat} {b : Nat → Bool} (h : k < c) {Q : AV → Prop} (q : Q (tS g b k)) : Idx (tL g c b) ((k : Nat) : Int) Q := by
  unfold tL
  refine idx_map (k := k) (by simpa using h) ?_
  rw [List.getElem_range]; exact q
theorem tL_suc (g c : Nat) (b : Nat → Bool) : tL g (c + 1) b = tL g c b ++ [tS g b c] := by unfold tL; rw [List.range_succ, List.map_append]; rfl
theorem eTr_congr {n : Nat} {b c : Nat → Bool} (h : ∀ x, x < n → b x = c x) : eTr n b = eTr n c := by unfold eTr; rw [lvT_congr h]
theorem tS_congr {g k : Nat} {b c : Nat → Bool} (h : ∀ x, x < g → b x = c x) : tS g b k = tS g c k := by
  refine eTr_congr fun i hi => upB_congr fun x hx => h x ?_
  subst hx
  by_cases e : x < g
  · exact e
  · have : g / 2 ^ k ≤ x / 2 ^ k := Nat.div_le_div_right (by omega)
    omega
theorem tL_congr {g c : Nat} {b b' : Nat → Bool} (h : ∀ x, x < g → b x = b' x) : tL g c b = tL g c b' := by
  unfold tL
  exact List.map_congr_left fun k _ => tS_congr h
theorem eS_congr {g c : Nat} {b b' : Nat → Bool} (h : ∀ x, x < g → b x = b' x) : eS g c b = eS g c b' := by unfold eS; rw [tL_congr h]
theorem zin {A B i : Nat} (h : A ≤ i ∧ i ≤ B) : 0 ≤ (A : Int) ∧ (A : Int) ≤ (i : Int) ∧ (i : Int) < (A : Int) + ((B : Int) - (A : Int) + 1) := by omega
theorem zout {A B i : Nat} (h : 0 ≤ (A : Int) ∧ (A : Int) ≤ (i : Int) ∧ (i : Int) < (A : Int) + ((B : Int) - (A : Int) + 1)) : A ≤ i ∧ i ≤ B := by omega
/-- A class's bits once some granules are live, or not. -/
theorem use_on {g k : Nat} {b : Nat → Bool} {f last : Nat} (h1 : f ≤ last) {i : Nat} :
    setZ (upB b k) (f / 2 ^ k : Nat) (((last / 2 ^ k : Nat) : Int) - (f / 2 ^ k : Nat) + 1) true i = upB (setB b f (last + 1 - f) true) k i := by
  have hp : 0 < 2 ^ k := Nat.pow_pos (by omega)
  unfold setZ
  by_cases h : f / 2 ^ k ≤ i ∧ i ≤ last / 2 ^ k
  · rw [if_pos (zin h)]
    refine (upB_true.2 ?_).symm
    -- a granule of the place that is among them
    refine ⟨max f (i * 2 ^ k), ?_, ?_⟩
    · by_cases e : f ≤ i * 2 ^ k
      · rw [Nat.max_eq_right e, Nat.mul_div_cancel _ hp]
      · rw [Nat.max_eq_left (by omega)]
        have : i ≤ f / 2 ^ k := (Nat.le_div_iff_mul_le hp).2 (by omega)
        omega
    · unfold setB
      have : i * 2 ^ k ≤ last := (Nat.le_div_iff_mul_le hp).1 h.2
      rw [if_pos (by omega)]
  · rw [if_neg (fun e => h (zout e))]
    refine upB_congr fun x hx => ?_
    unfold setB
    rw [if_neg]
    rintro ⟨e1, e2⟩
    apply h
    subst hx
    exact ⟨Nat.div_le_div_right e1, Nat.div_le_div_right (by omega)⟩
theorem use_off {g k : Nat} {b : Nat → Bool} {f last : Nat} (h1 : f ≤ last) {i : Nat} (hi : i ≠ f / 2 ^ k ∧ i ≠ last / 2 ^ k) :
    setZ (upB b k) (f / 2 ^ k : Nat) (((last / 2 ^ k : Nat) : Int) - (f / 2 ^ k : Nat) + 1) false i = upB (setB b f (last + 1 - f) false) k i := by
  have hp : 0 < 2 ^ k := Nat.pow_pos (by omega)
  unfold setZ
  by_cases h : f / 2 ^ k ≤ i ∧ i ≤ last / 2 ^ k
  · rw [if_pos (zin h)]
    refine (upB_false fun x hx => ?_).symm
    unfold setB
    rw [if_pos]
    subst hx
    constructor
    · by_cases e : f ≤ x
      · exact e
      · have : x / 2 ^ k ≤ f / 2 ^ k := Nat.div_le_div_right (by omega)
        omega
    · by_cases e : x ≤ last
      · omega
      · have : last / 2 ^ k ≤ x / 2 ^ k := Nat.div_le_div_right (by omega)
        omega
  · rw [if_neg (fun e => h (zout e))]
    refine upB_congr fun x hx => ?_
    unfold setB
    rw [if_neg]
    rintro ⟨e1, e2⟩
    apply h
    subst hx
    exact ⟨Nat.div_le_div_right e1, Nat.div_le_div_right (by omega)⟩
end Go.Ev.W
