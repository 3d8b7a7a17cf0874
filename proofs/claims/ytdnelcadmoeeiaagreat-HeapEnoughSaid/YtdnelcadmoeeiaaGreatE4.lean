/- Words and lemmas, part 4, for laws of this seat (a part of their proofs). -/
import Derived.Test.YtdnelcadmoeeiaaGreatE1
import Derived.Test.YtdnelcadmoeeiaaGreatE3
import Derived.Test.YtdnelcadmoeeiaaGreatNm
import Derived.Test.YtdnelcadmoeeiaaGreatEvOpen
import Derived.Test.YtdnelcadmoeeiaaGreatEvLib
import Derived.Test.YtdnelcadmoeeiaaGreatEvGrid
import Derived.Test.YtdnelcadmoeeiaaGreatEvTrim
set_option linter.unusedVariables false
set_option linter.unusedSimpArgs false
namespace Go.Ev.W
open Go.Ev Go.Ev.N

theorem shlG {i k : Nat} (hk : k ≤ 16) : ((i : Nat) : Int) * 2 ^ min ((k : Nat) : Int).toNat IntKind.i64.bits = ((i * 2 ^ k : Nat) : Int) := by
  rw [Int.toNat_natCast, show min k IntKind.i64.bits = k from Nat.min_eq_left (by show k ≤ 64; omega)]
  simp
theorem plTwin_told {G g c : Nat} {b : Nat → Bool} {l : List M} (h : EgOk G g c l) : Told P T place_twin [] [eE G g c b l] (eE G g c b l) [] := by
  have hml : (l.map encM).length = l.length := by simp
  have hl := h.len
  have c1 := slUse_told h.sl b 0 0 (by omega) (by omega) true
  rw [setZ_none] at c1
  have c1 : Told P T slots_Use [] [eS g c b, i64 0, i64 0, .bool true] (eS g c b) [] := c1
  refine told_of_ev (fn := place_twin_fn) tabOk mixed (by kernel_rfl) (by kernel_rfl) (by kernel_rfl) (by kernel_rfl) ?_
  (refine gw ?_; refine Choice.mk ⟨false, Choice.mk ⟨false, _, _, c1, ?_⟩⟩)
  (refine gw ?_; refine Choice.mk ⟨false, Choice.mk ⟨false, _, _, clone_Mark (l.map encM) (by omega), ?_⟩⟩)
  (refine gw ?_)
  exact RetN.fz ⟨[true], [], rfl, rfl, rfl⟩
set_option maxHeartbeats 1000000 in
theorem plPlace_told {G g c : Nat} {b : Nat → Bool} {l : List M} (h : EgOk G g c l) (cl : Int) (hcl : -9223372036854775808 ≤ cl ∧ cl ≤ 9223372036854775807) :
    Told P T place_Place [] [eE G g c b l, i64 cl] (.tup [eE G g c (placeB g c b cl) (placeL G g c b l cl), i64 (placeA G g c b cl), .bool (lowS g c b cl).isSome]) [] := by
  have c1 := slLowest_told h.sl b cl hcl
  have c2 := plTwin_told h (b := b)
  have hml : (l.map encM).length = l.length := by simp
  have hl := h.len
  unfold placeB placeL placeA
  cases hi : lowS g c b cl with
  | none =>
    rw [hi] at c1
    refine told_of_ev (fn := place_Place_fn) tabOk mixed (by kernel_rfl) (by kernel_rfl) (by kernel_rfl) (by kernel_rfl) ?_
    (refine gw ?_; refine Choice.mk ⟨false, Choice.mk ⟨false, _, _, c1, ?_⟩⟩)
    (refine gw ?_; refine Choice.mk ⟨false, Choice.mk ⟨false, _, _, c2, ?_⟩⟩)
    (refine gw ?_; exact RetN.mk ⟨[], rfl, rfl, rfl⟩)
  | some i =>
    rw [hi] at c1
    obtain ⟨k, rfl, hk, hik, _, _⟩ := lowS_lt h.sl hi
    have hb := sz_bound h.sl h.gG hk hik
    have hg2 := h.sl.g2
    have h17 := h.sl.c17
    simp only [Int.toNat_natCast]
    have hs1 := shlG (i := i) (k := k) (by omega)
    have hs2 := shlI (k := k) (by omega)
    have c3 := slUse_told h.sl b (i * 2 ^ k : Nat) (2 ^ k : Nat) (by omega) (by omega) true
    have c4 := putZ l h.rise ⟨(i * 2 ^ k * G : Nat), k⟩ (by omega)
    have hG : ((i * 2 ^ k : Nat) : Int) * (G : Int) = ((i * 2 ^ k * G : Nat) : Int) := (Int.natCast_mul _ G).symm
    have hle : i * 2 ^ k ≤ 65536 := by omega
    generalize i * 2 ^ k * G = a at *
    generalize i * 2 ^ k = f at *
    generalize 2 ^ k = n at *
    refine told_of_ev (fn := place_Place_fn) tabOk mixed (by kernel_rfl) (by kernel_rfl) (by kernel_rfl) (by kernel_rfl) ?_
    (refine gw ?_; refine Choice.mk ⟨false, Choice.mk ⟨false, _, _, c1, ?_⟩⟩)
    (refine gw ?_)
    rw [hs1]
    (refine gw ?_)
    rw [hG]
    (refine gw ?_)
    rw [hs1]
    (refine gw ?_)
    rw [hs2]
    (refine gw ?_; refine Choice.mk ⟨false, Choice.mk ⟨false, _, _, c3, ?_⟩⟩)
    (refine gw ?_; refine Choice.mk ⟨false, Choice.mk ⟨false, _, _, c4, ?_⟩⟩)
    (refine gw ?_; exact RetN.mk ⟨[], rfl, rfl, rfl⟩)
set_option maxHeartbeats 1000000 in
theorem plRel_told {G g c : Nat} {b : Nat → Bool} {l : List M} (h : EgOk G g c l) (y : Int) (hy : -9223372036854775808 ≤ y ∧ y ≤ 9223372036854775807) :
    Told P T place_Release [] [eE G g c b l, i64 y] (.tup [eE G g c (relB G b l y) (relL l y), i64 (relK l y), .bool (isAt y l)]) [] := by
  have c1 := takeZ l h.rise y (by have := h.len; omega)
  have c2 := plTwin_told h (b := b)
  have htl := tL_len g c b
  unfold relB relL relK
  cases hi : isAt y l with
  | false =>
    rw [hi] at c1
    refine told_of_ev (fn := place_Release_fn) tabOk mixed (by kernel_rfl) (by kernel_rfl) (by kernel_rfl) (by kernel_rfl) ?_
    (refine gw ?_; refine Choice.mk ⟨false, Choice.mk ⟨false, _, _, c1, ?_⟩⟩)
    (refine gw ?_; refine Choice.mk ⟨false, Choice.mk ⟨false, _, _, c2, ?_⟩⟩)
    (refine gw ?_; exact RetN.mk ⟨[], rfl, rfl, rfl⟩)
  | true =>
    rw [hi] at c1
    obtain ⟨y1, y2, y3, y4⟩ := relL_at h hi
    obtain ⟨a, rfl⟩ : ∃ a : Nat, y = a := ⟨y.toNat, by omega⟩
    have hg1 := h.g1
    have hg2 := h.sl.g2
    have h17 := h.sl.c17
    simp only [if_true] at c1 ⊢
    generalize takeM l a = l2 at *
    obtain ⟨k, hk⟩ : ∃ k : Nat, clsM l a = k := ⟨(clsM l a).toNat, by omega⟩
    rw [hk] at c1 y4 ⊢
    simp only [Int.toNat_natCast]
    have hs2 := shlI (k := k) (by omega)
    have hdv : ((a : Nat) : Int).tdiv (G : Int) = ((a / G : Nat) : Int) := (Int.ofNat_tdiv a G).symm
    have hdl : a / G ≤ a := Nat.div_le_self a G
    have hp2 : 2 ^ k ≤ 2 ^ 16 := Nat.pow_le_pow_right (by omega) (by omega)
    generalize a / G = f at *
    generalize 2 ^ k = n at *
    have c3 := slUse_told h.sl b f n (by omega) (by omega) false
    have hGne : ((G : Nat) : Int) ≠ 0 := by omega
    refine told_of_ev (fn := place_Release_fn) tabOk mixed (by kernel_rfl) (by kernel_rfl) (by kernel_rfl) (by kernel_rfl) ?_
    (refine gw ?_; refine Choice.mk ⟨false, Choice.mk ⟨false, _, _, c1, ?_⟩⟩)
    (refine gw ?_; refine IfB.ff (by simp; omega) ?_)
    (refine gw ?_; refine IfB.ff (by rw [htl]; simp; omega) ?_)
    (refine gw ?_)
    rw [hdv]
    (refine gw ?_)
    rw [hs2]
    (refine gw ?_; refine Choice.mk ⟨false, Choice.mk ⟨false, _, _, c3, ?_⟩⟩)
    (refine gw ?_; exact RetN.mk ⟨[], rfl, rfl, rfl⟩)
end Go.Ev.W
namespace Go.Ev.W
open Go.Ev Go.Ev.N

theorem pow2_bit {n : Nat} (h : 1 ≤ n) : n &&& (n - 1) = 0 ↔ n = 2 ^ Nat.log2 n := by
  have h1 : 2 ^ Nat.log2 n ≤ n := Nat.log2_self_le (by omega)
  have h2 : n < 2 ^ (Nat.log2 n + 1) := Nat.lt_log2_self
  constructor
  · intro h0
    by_cases e : n = 2 ^ Nat.log2 n
    · exact e
    · exfalso
      have hb1 : n.testBit (Nat.log2 n) = true := by
        rw [Nat.testBit_eq_decide_div_mod_eq]
        refine decide_eq_true ?_
        have : n / 2 ^ Nat.log2 n = 1 := by
          rw [Nat.pow_succ] at h2
          exact Nat.div_eq_of_lt_le (by omega) (by omega)
        rw [this]
      have hb2 : (n - 1).testBit (Nat.log2 n) = true := by
        rw [Nat.testBit_eq_decide_div_mod_eq]
        refine decide_eq_true ?_
        have : (n - 1) / 2 ^ Nat.log2 n = 1 := by
          rw [Nat.pow_succ] at h2
          exact Nat.div_eq_of_lt_le (by omega) (by omega)
        rw [this]
      have : (n &&& (n - 1)).testBit (Nat.log2 n) = true := by rw [Nat.testBit_and, hb1, hb2]; rfl
      rw [h0, Nat.zero_testBit] at this
      cases this
  · intro e
    generalize Nat.log2 n = k at *
    subst e
    rw [Nat.and_two_pow_sub_one_eq_mod, Nat.mod_self]
end Go.Ev.W
namespace Go.Ev.W
open Go.Ev Go.Ev.N

def sNw (g c : Int) : List AV := if SlOkI g c then tL g.toNat c.toNat offB else []
theorem sNw_told {g c : Int} (hg : -9223372036854775808 ≤ g ∧ g ≤ 9223372036854775807) (hc : -9223372036854775808 ≤ c ∧ c ≤ 9223372036854775807) : Told P T slots_New [] [i64 g, i64 c] (.agg [.lst t_api_Tree (sNw g c)]) [] := by
  unfold sNw
  by_cases h : SlOkI g c
  · rw [if_pos h]
    obtain ⟨n, rfl⟩ : ∃ n : Nat, g = n := ⟨g.toNat, by have := h.2.2.1; omega⟩
    obtain ⟨k, rfl⟩ : ∃ k : Nat, c = k := ⟨c.toNat, by have := h.1; omega⟩
    exact slNew_told h.ok
  · rw [if_neg h]
    exact slNewNo_told h hg hc
theorem sNw_len (g c : Int) : (sNw g c).length = if SlOkI g c then c.toNat else 0 := by
  unfold sNw
  split
  · rw [tL_len]
  · rfl
/-- May there be such an engine? -/
def NwOk (G g c : Int) : Prop := (1 ≤ G ∧ G ≤ 65536 ∧ G.toNat = 2 ^ Nat.log2 G.toNat) ∧ SlOkI g c ∧ g ≤ ((65536 / G.toNat : Nat) : Int)
instance (G g c : Int) : Decidable (NwOk G g c) := by unfold NwOk; infer_instance
def nwE (G g c : Int) : AV := if NwOk G g c then eE G.toNat g.toNat c.toNat offB [] else eN
theorem and_pred {n : Nat} (h : 1 ≤ n) (h2 : n ≤ 65536) : bitsOp .and .i64 (n : Int) ((n : Int) - 1) = ((n &&& (n - 1) : Nat) : Int) := by
  rw [show ((n : Nat) : Int) - 1 = ((n - 1 : Nat) : Int) by omega]
  exact and64i (by omega) (by omega)
set_option maxHeartbeats 1000000 in
theorem plNew_told (G g c : Int) (hG : -9223372036854775808 ≤ G ∧ G ≤ 9223372036854775807) (hg : -9223372036854775808 ≤ g ∧ g ≤ 9223372036854775807) (hc : -9223372036854775808 ≤ c ∧ c ≤ 9223372036854775807) : Told P T place_New [] [i64 G, i64 g, i64 c] (.tup [nwE G g c, .bool (decide (NwOk G g c))]) [] := by
  have no : ¬ NwOk G g c → (nwE G g c = eN ∧ decide (NwOk G g c) = false) := fun h => ⟨by unfold nwE; rw [if_neg h], decide_eq_false h⟩
  by_cases h1 : G < 1
  · obtain ⟨e1, e2⟩ := no fun h => by have := h.1.1; omega
    rw [e1, e2]
    refine told_of_ev (fn := place_New_fn) tabOk mixed (by kernel_rfl) (by kernel_rfl) (by kernel_rfl) (by kernel_rfl) ?_
    (refine gw ?_; refine IfB.tt (by simp; omega) ?_)
    (refine gw ?_)
    exact RetN.fz ⟨[true], [], rfl, rfl, rfl⟩
  · by_cases h2 : G > 65536
    · obtain ⟨e1, e2⟩ := no fun h => by have := h.1.2.1; omega
      rw [e1, e2]
      refine told_of_ev (fn := place_New_fn) tabOk mixed (by kernel_rfl) (by kernel_rfl) (by kernel_rfl) (by kernel_rfl) ?_
      (refine gw ?_; refine IfB.ff (by simp; omega) ?_)
      (refine gw ?_; refine IfB.tt (by simp; omega) ?_)
      (refine gw ?_)
      exact RetN.fz ⟨[true], [], rfl, rfl, rfl⟩
    · obtain ⟨n, rfl⟩ : ∃ n : Nat, G = n := ⟨G.toNat, by omega⟩
      have hand := and_pred (n := n) (by omega) (by omega)
      have hbit := pow2_bit (n := n) (by omega)
      have c1 := sNw_told hg hc
      have hl := sNw_len g c
      have hdv : (65536 : Int).tdiv (n : Int) = ((65536 / n : Nat) : Int) := (Int.ofNat_tdiv 65536 n).symm
      have hne : ((n : Nat) : Int) ≠ 0 := by omega
      by_cases h3 : n = 2 ^ Nat.log2 n
      · rw [hbit.2 h3] at hand
        by_cases h4 : SlOkI g c
        · rw [if_pos h4] at hl
          have hd2 : 65536 / n ≤ 65536 := Nat.div_le_self _ _
          by_cases h5 : g ≤ ((65536 / n : Nat) : Int)
          · have hok : NwOk n g c := ⟨⟨by omega, by omega, h3⟩, h4, h5⟩
            have e1 : nwE n g c = .agg [i64 n, .lst t_api_Tree (sNw g c), .lst t_api_Mark []] := by unfold nwE sNw; rw [if_pos hok, if_pos h4]; rfl
            rw [e1, decide_eq_true hok]
            have h41 := h4.1
            generalize 65536 / n = q at *
            refine told_of_ev (fn := place_New_fn) tabOk mixed (by kernel_rfl) (by kernel_rfl) (by kernel_rfl) (by kernel_rfl) ?_
            (refine gw ?_; refine IfB.ff (by simp; omega) ?_)
            (refine gw ?_; refine IfB.ff (by simp; omega) ?_)
            (refine gw ?_)
            rw [hand]
            (refine gw ?_; refine Choice.mk ⟨false, Choice.mk ⟨false, _, _, c1, ?_⟩⟩)
            (refine gw ?_)
            rw [hl]
            (refine gw ?_; refine IfB.ff (by simp; omega) ?_)
            (refine gw ?_)
            rw [hdv]
            (refine gw ?_; refine IfB.ff (by simp; omega) ?_)
            (refine gw ?_)
            exact RetN.fz ⟨[true], [], rfl, rfl, rfl⟩
          · obtain ⟨e1, e2⟩ := no fun h => h5 h.2.2
            rw [e1, e2]
            have h41 := h4.1
            generalize 65536 / n = q at *
            refine told_of_ev (fn := place_New_fn) tabOk mixed (by kernel_rfl) (by kernel_rfl) (by kernel_rfl) (by kernel_rfl) ?_
            (refine gw ?_; refine IfB.ff (by simp; omega) ?_)
            (refine gw ?_; refine IfB.ff (by simp; omega) ?_)
            (refine gw ?_)
            rw [hand]
            (refine gw ?_; refine Choice.mk ⟨false, Choice.mk ⟨false, _, _, c1, ?_⟩⟩)
            (refine gw ?_)
            rw [hl]
            (refine gw ?_; refine IfB.ff (by simp; omega) ?_)
            (refine gw ?_)
            rw [hdv]
            (refine gw ?_; refine IfB.tt (by simp; omega) ?_)
            (refine gw ?_)
            exact RetN.fz ⟨[true], [], rfl, rfl, rfl⟩
        · rw [if_neg h4] at hl
          obtain ⟨e1, e2⟩ := no fun h => h4 h.2.1
          rw [e1, e2]
          refine told_of_ev (fn := place_New_fn) tabOk mixed (by kernel_rfl) (by kernel_rfl) (by kernel_rfl) (by kernel_rfl) ?_
          (refine gw ?_; refine IfB.ff (by simp; omega) ?_)
          (refine gw ?_; refine IfB.ff (by simp; omega) ?_)
          (refine gw ?_)
          rw [hand]
          (refine gw ?_; refine Choice.mk ⟨false, Choice.mk ⟨false, _, _, c1, ?_⟩⟩)
          (refine gw ?_)
          rw [hl]
          (refine gw ?_)
          exact RetN.fz ⟨[true], [], rfl, rfl, rfl⟩
      · have hr : n &&& (n - 1) ≠ 0 := fun e => h3 (hbit.1 e)
        obtain ⟨e1, e2⟩ := no fun h => h3 h.1.2.2
        rw [e1, e2]
        generalize n &&& (n - 1) = r at *
        refine told_of_ev (fn := place_New_fn) tabOk mixed (by kernel_rfl) (by kernel_rfl) (by kernel_rfl) (by kernel_rfl) ?_
        (refine gw ?_; refine IfB.ff (by simp; omega) ?_)
        (refine gw ?_; refine IfB.ff (by simp; omega) ?_)
        (refine gw ?_)
        rw [hand]
        (refine gw ?_; refine IfB.tt (by simp; omega) ?_)
        (refine gw ?_)
        exact RetN.fz ⟨[true], [], rfl, rfl, rfl⟩
end Go.Ev.W
namespace Go.Ev.W
open Go.Ev Go.Ev.N

/-- The least power of two that is not below a number. -/
def upN (v : Nat) : Nat := if v ≤ 1 then 1 else 2 ^ (Nat.log2 (v - 1) + 1)
theorem upN_pow (v : Nat) : ∃ k, upN v = 2 ^ k := by
  unfold upN; split
  · exact ⟨0, rfl⟩
  · exact ⟨_, rfl⟩
theorem le_upN (v : Nat) : v ≤ upN v := by
  unfold upN; split
  · assumption
  · have := Nat.lt_log2_self (n := v - 1); omega
theorem upN_le {v k : Nat} (h : v ≤ 2 ^ k) : upN v ≤ 2 ^ k := by
  unfold upN; split
  · exact Nat.one_le_two_pow
  · refine Nat.pow_le_pow_right (by omega) ?_
    rw [Nat.succ_le_iff, Nat.log2_lt (by omega)]
    omega
theorem upN_lt {v : Nat} (h : 1 ≤ v) : upN v < 2 * v := by
  unfold upN; split
  · omega
  · have := Nat.log2_self_le (n := v - 1) (by omega)
    rw [Nat.pow_succ]; omega
theorem upN_pos (v : Nat) : 1 ≤ upN v := by obtain ⟨k, h⟩ := upN_pow v; rw [h]; exact Nat.one_le_two_pow
theorem pow_lt_dbl {j k : Nat} (h : 2 ^ j < 2 ^ k) : 2 ^ j * 2 ≤ 2 ^ k := by
  have : j < k := (Nat.pow_lt_pow_iff_right (by omega)).1 h
  rw [← Nat.pow_succ]; exact Nat.pow_le_pow_right (by omega) this

theorem refUp_told (v : Nat) (h1 : 1 ≤ v) (h2 : v ≤ 1000000) : Told P T ref1_Up [] [i64 v] (.tup [i64 (upN v : Nat), .bool true]) [] := by
  have hu := upN_lt h1
  refine told_of_ev (fn := ref1_Up_fn) tabOk mixed (by kernel_rfl) (by kernel_rfl) (by kernel_rfl) (by kernel_rfl) ?_
  (refine gw ?_; first | refine IfB.dec (fun h3 => ?_) (fun h3 => ?_) | refine IfB.eq (fun h3 => ?_) (fun h3 => ?_) | refine IfB.ne (fun h3 => ?_) (fun h3 => ?_) | refine IfB.mk (fun h3 => ?_) (fun h3 => ?_))
  · omega
  · (refine gw ?_; first | refine IfB.dec (fun h4 => ?_) (fun h4 => ?_) | refine IfB.eq (fun h4 => ?_) (fun h4 => ?_) | refine IfB.ne (fun h4 => ?_) (fun h4 => ?_) | refine IfB.mk (fun h4 => ?_) (fun h4 => ?_))
    · omega
    · (refine gw ?_; refine LoopN.mk ⟨[0,4], fun vs L => ∃ j : Nat, vs = [i64 v, i64 (2 ^ j : Nat)] ∧ L = [] ∧ 2 ^ j ≤ upN v, fun vs L => match vs with | [_, .int _ i] => 4000000 - i.toNat | _ => 0, [], [], rfl, ⟨0, rfl, rfl, upN_pos v⟩, ?_⟩)
      rintro vs L ⟨j, rfl, rfl, hj⟩
      obtain ⟨p, hp⟩ : ∃ p, 2 ^ j = p := ⟨_, rfl⟩
      obtain ⟨k, hk⟩ := upN_pow v
      have hle := le_upN v
      (refine gw ?_; first | refine IfB.dec (fun h5 => ?_) (fun h5 => ?_) | refine IfB.eq (fun h5 => ?_) (fun h5 => ?_) | refine IfB.ne (fun h5 => ?_) (fun h5 => ?_) | refine IfB.mk (fun h5 => ?_) (fun h5 => ?_))
      · have hd : 2 ^ j * 2 ≤ upN v := by rw [hk]; exact pow_lt_dbl (by omega)
        have e : ((2 ^ (j + 1) : Nat) : Int) = ((2 ^ j : Nat) : Int) * 2 := by rw [Nat.pow_succ]; omega
        rw [hp] at hd e ⊢
        have hpos : 1 ≤ p := by rw [← hp]; exact Nat.one_le_two_pow
        (refine gw ?_; refine ⟨[], [], rfl, ⟨j + 1, by rw [e]; rfl, rfl, by rw [Nat.pow_succ, hp]; exact hd⟩, (by omega : 4000000 - ((p : Int) * 2).toNat < 4000000 - (p : Int).toNat)⟩)
      · have e : upN v = 2 ^ j := by
          have := upN_le (v := v) (k := j) (by omega)
          omega
        rw [e]
        (refine gw ?_; exact RetN.mk ⟨[], rfl, rfl, rfl⟩)

/-- Which power of two. -/
def logF (v : Int) : Nat × Bool := if 1 ≤ v ∧ v = ((2 ^ Nat.log2 v.toNat : Nat) : Int) then (Nat.log2 v.toNat, true) else (0, false)
theorem logF_pow (k : Nat) : logF ((2 ^ k : Nat) : Int) = (k, true) := by
  have h := Nat.one_le_two_pow (n := k)
  have hl := Nat.log2_two_pow (n := k)
  unfold logF
  obtain ⟨q, hq⟩ : ∃ q, 2 ^ k = q := ⟨_, rfl⟩
  rw [hq] at h hl ⊢
  rw [Int.toNat_natCast, hl, hq, if_pos ⟨by omega, rfl⟩]
theorem refLog_told (v : Int) (h2 : v ≤ 9223372036854775807) : Told P T ref1_Log [] [i64 v] (.tup [i64 ((logF v).1 : Nat), .bool (logF v).2]) [] := by
  refine told_of_ev (fn := ref1_Log_fn) tabOk mixed (by kernel_rfl) (by kernel_rfl) (by kernel_rfl) (by kernel_rfl) ?_
  (refine gw ?_; refine LoopN.mk ⟨[0,4,5], fun vs L => ∃ j : Nat, vs = [i64 v, i64 (2 ^ (min j 62) : Nat), i64 j] ∧ L = [] ∧ j ≤ 63 ∧ ∀ i, i < j → v ≠ ((2 ^ i : Nat) : Int), fun vs L => match vs with | [_, _, .int _ i] => 63 - i.toNat | _ => 0, [], [], rfl, ⟨0, rfl, rfl, by omega, fun i h => by omega⟩, ?_⟩)
  rintro vs L ⟨j, rfl, rfl, hj, hn⟩
  (refine gw ?_; first | refine IfB.dec (fun h1 => ?_) (fun h1 => ?_) | refine IfB.eq (fun h1 => ?_) (fun h1 => ?_) | refine IfB.ne (fun h1 => ?_) (fun h1 => ?_) | refine IfB.mk (fun h1 => ?_) (fun h1 => ?_))
  · have hj2 : j < 63 := by omega
    have em : min j 62 = j := by omega
    rw [em]
    (refine gw ?_; first | refine IfB.dec (fun h2 => ?_) (fun h2 => ?_) | refine IfB.eq (fun h2 => ?_) (fun h2 => ?_) | refine IfB.ne (fun h2 => ?_) (fun h2 => ?_) | refine IfB.mk (fun h2 => ?_) (fun h2 => ?_))
    · have e := logF_pow j
      rw [h2] at e
      rw [e]
      (refine gw ?_; exact RetN.mk ⟨[], rfl, rfl, rfl⟩)
    · have hn' : ∀ i, i < j + 1 → v ≠ ((2 ^ i : Nat) : Int) := fun i hi => by
        rcases Nat.lt_or_ge i j with h | h
        · exact hn i h
        · rw [show i = j by omega]; exact fun h => h2 h.symm
      (refine gw ?_; first | refine IfB.dec (fun h3 => ?_) (fun h3 => ?_) | refine IfB.eq (fun h3 => ?_) (fun h3 => ?_) | refine IfB.ne (fun h3 => ?_) (fun h3 => ?_) | refine IfB.mk (fun h3 => ?_) (fun h3 => ?_))
      · have hp : 2 ^ (j + 1) ≤ 2 ^ 62 := Nat.pow_le_pow_right (by omega) (by omega)
        have e : ((2 ^ (min (j + 1) 62) : Nat) : Int) = ((2 ^ j : Nat) : Int) * 2 := by rw [show min (j + 1) 62 = j + 1 by omega, Nat.pow_succ]; omega
        rw [Nat.pow_succ] at hp
        have hpos : 0 < 2 ^ j := Nat.two_pow_pos j
        generalize 2 ^ j = q at hp e hpos ⊢
        (refine gw ?_; refine ⟨[], [], rfl, ⟨j + 1, by rw [e]; rfl, rfl, by omega, hn'⟩, (by omega : 63 - ((j : Int) + 1).toNat < 63 - (j : Int).toNat)⟩)
      · have e : j = 62 := by omega
        subst e
        (refine gw ?_; refine ⟨[], [], rfl, ⟨63, rfl, rfl, by omega, hn'⟩, (by omega : 63 - (((62 : Nat) : Int) + 1).toNat < 63 - ((62 : Nat) : Int).toNat)⟩)
  · have e : logF v = (0, false) := by
      unfold logF
      rw [if_neg]
      rintro ⟨h3, h4⟩
      refine hn (Nat.log2 v.toNat) ?_ h4
      rw [Nat.log2_lt (by omega)]
      have : v.toNat ≤ 9223372036854775807 := by omega
      have e63 : (2 : Nat) ^ j ≥ 2 ^ 63 := Nat.pow_le_pow_right (by omega) (by omega)
      omega
    rw [e]
    (refine gw ?_; exact RetN.mk ⟨[], rfl, rfl, rfl⟩)

/-- What there is. -/
structure Cf where
  G : Nat
  N : Nat
  M : Nat
  L : Nat
  Pg : Nat
  P : Nat
  H : Nat
  Sd : Nat
  deriving DecidableEq
def eC (c : Cf) : AV := .agg [i64 c.G, i64 c.N, i64 c.M, i64 c.L, i64 c.Pg, i64 c.P, i64 c.H, i64 c.Sd]
/-- What is asked for. -/
structure Rw where
  g : Int
  l : Int
  m : Int
  p : Int
  b : Int
  s : Int
  deriving DecidableEq
def eR (r : Rw) : AV := .agg [i64 r.g, i64 r.l, i64 r.m, i64 r.p, i64 r.b, i64 r.s]
def cf0 : Cf := ⟨0, 0, 0, 0, 0, 0, 0, 0⟩
def inR (v : Int) : Bool := decide (1 ≤ v ∧ v ≤ 65536)
def Rw.ok (r : Rw) : Bool := inR r.g && inR r.l && inR r.m && inR r.p && decide (0 ≤ r.b ∧ r.b ≤ 65536) && decide (0 ≤ r.s ∧ r.s ≤ 255)
def rnd (v t : Nat) : Nat := if v % t = 0 then v else v - v % t + t
def cfOf (r : Rw) : Cf :=
  let g := upN r.g.toNat
  let n := upN (max r.l.toNat g)
  let pg := upN (max r.p.toNat g)
  let m := rnd r.m.toNat (2 * max n pg)
  let l := Nat.log2 (n / g)
  ⟨g, n, m, l, pg, r.b.toNat, m + l * (m / 2), r.s.toNat⟩
def ofF (r : Rw) : Cf × Nat := if r.ok = true ∧ (cfOf r).H ≤ 65536 then (cfOf r, 0) else (cf0, 1)

theorem refAdd_told (a b : Int) (ha : 0 ≤ a) (hb : 1 ≤ b) (hab : a + b ≤ 9223372036854775807) : Told P T ref1_Add [] [i64 a, i64 b] (.tup [i64 (a + b), .bool true]) [] := by
  refine told_of_ev (fn := ref1_Add_fn) tabOk mixed (by kernel_rfl) (by kernel_rfl) (by kernel_rfl) (by kernel_rfl) ?_
  repeat' ((conv => whnf); first | (refine Sure.mk (by kernel_rfl) ?_) | (refine IfB.tt rfl ?_) | (refine IfB.ff rfl ?_) | (refine IfB.tt ?_ ?_; (focus (simp <;> fail))) | (refine IfB.ff ?_ ?_; (focus (simp <;> fail))) | (refine fits (wrap64 ?_ ?_) ?_; (focus omega); (focus omega)) | (refine fits (wrapU64 ?_ ?_) ?_; (focus omega); (focus omega)) | (refine Need.mk ?_ ?_; (focus omega)) | (refine InB.mk ?_ ?_ ?_; (focus omega); (focus omega)) | (refine IfB.dec (fun h => ?_) (fun h => ?_)) | (refine IfB.eq (fun h => ?_) (fun h => ?_)) | (refine IfB.ne (fun h => ?_) (fun h => ?_)))
  all_goals first | omega | (refine gw ?_; exact RetN.mk ⟨[], rfl, rfl, rfl⟩)
theorem refRound_told (v t : Nat) (hv : v ≤ 1000000) (h1 : 1 ≤ t) (h2 : t ≤ 1000000) : Told P T ref1_Round [] [i64 v, i64 t] (.tup [i64 (rnd v t : Nat), .bool true]) [] := by
  have em : ((v : Nat) : Int).tmod (t : Nat) = ((v % t : Nat) : Int) := by rw [Int.tmod_eq_emod_of_nonneg (by omega)]; omega
  have hm := Nat.mod_lt v h1
  have hd := Nat.mod_le v t
  refine told_of_ev (fn := ref1_Round_fn) tabOk mixed (by kernel_rfl) (by kernel_rfl) (by kernel_rfl) (by kernel_rfl) ?_
  (refine gw ?_; first | refine IfB.dec (fun h4 => ?_) (fun h4 => ?_) | refine IfB.eq (fun h4 => ?_) (fun h4 => ?_) | refine IfB.ne (fun h4 => ?_) (fun h4 => ?_) | refine IfB.mk (fun h4 => ?_) (fun h4 => ?_))
  · omega
  · refine gw ?_
    rw [em]
    (refine gw ?_; first | refine IfB.dec (fun h5 => ?_) (fun h5 => ?_) | refine IfB.eq (fun h5 => ?_) (fun h5 => ?_) | refine IfB.ne (fun h5 => ?_) (fun h5 => ?_) | refine IfB.mk (fun h5 => ?_) (fun h5 => ?_))
    · have e : rnd v t = v := by unfold rnd; rw [if_pos (by omega)]
      rw [e]
      (refine gw ?_; exact RetN.mk ⟨[], rfl, rfl, rfl⟩)
    · have e : rnd v t = v - v % t + t := by unfold rnd; rw [if_neg (by omega)]
      have c := refAdd_told ((v : Int) - ((v % t : Nat) : Int)) t (by omega) (by omega) (by omega)
      have e2 : ((v - v % t + t : Nat) : Int) = (v : Int) - ((v % t : Nat) : Int) + t := by omega
      rw [e, e2]
      refine gw ?_
      rw [em]
      refine gw ?_
      (refine gw ?_; refine Choice.mk ⟨false, Choice.mk ⟨true, _, _, c, ?_⟩⟩)
      (refine gw ?_; exact RetN.mk ⟨[], rfl, rfl, rfl⟩)

/-- What holds of what there is. -/
structure Cf.Ok (c : Cf) : Prop where
  g : ∃ a, c.G = 2 ^ a
  n : c.N = c.G * 2 ^ c.L
  p : ∃ e, c.Pg = c.G * 2 ^ e
  m : ∃ q, c.M = 2 * max c.N c.Pg * q
  m1 : 1 ≤ c.M
  h : c.H = c.M + c.L * (c.M / 2)
  h2 : c.H ≤ 65536
  b : c.P ≤ 65536
  s : c.Sd ≤ 255
theorem pow_up {g v : Nat} (hg : ∃ a, g = 2 ^ a) : ∃ e, upN (max v g) = g * 2 ^ e := by
  obtain ⟨a, rfl⟩ := hg
  obtain ⟨b, hb⟩ := upN_pow (max v (2 ^ a))
  have h1 := le_upN (max v (2 ^ a))
  rw [hb] at h1 ⊢
  have : a ≤ b := (Nat.pow_le_pow_iff_right (a := 2) (by omega)).1 (Nat.le_trans (Nat.le_max_right _ _) h1)
  exact ⟨b - a, by rw [← Nat.pow_add]; congr 1; omega⟩
theorem rnd_spec {v t : Nat} (h : 1 ≤ t) : ∃ q, rnd v t = t * q ∧ v ≤ rnd v t ∧ rnd v t < v + t := by
  have h1 := Nat.div_add_mod v t
  have h2 := Nat.mod_lt v h
  unfold rnd
  split
  · exact ⟨v / t, by omega, by omega, by omega⟩
  · refine ⟨v / t + 1, ?_, by omega, by omega⟩
    rw [Nat.mul_add]; omega
theorem log_of {G N k : Nat} (hg : 1 ≤ G) (h : N = G * 2 ^ k) : Nat.log2 (N / G) = k := by
  rw [h, Nat.mul_div_cancel_left _ (by omega), Nat.log2_two_pow]
theorem ofF_ok {r : Rw} (h : (ofF r).2 = 0) : (ofF r).1.Ok ∧ r.ok = true ∧ (ofF r).1 = cfOf r := by
  unfold ofF at h ⊢
  split at h
  · rename_i hh
    rw [if_pos hh]
    obtain ⟨hr, hH⟩ := hh
    refine ⟨?_, hr, rfl⟩
    simp only [Rw.ok, inR, Bool.and_eq_true, decide_eq_true_eq] at hr
    obtain ⟨⟨⟨⟨⟨r1, r2⟩, r3⟩, r4⟩, r5⟩, r6⟩ := hr
    have g := upN_pow r.g.toNat
    obtain ⟨k, hk⟩ := pow_up (v := r.l.toNat) g
    obtain ⟨e, he⟩ := pow_up (v := r.p.toNat) g
    have hg1 := upN_pos r.g.toNat
    have hn1 := upN_pos (max r.l.toNat (upN r.g.toNat))
    have hlog := log_of hg1 hk
    obtain ⟨q, q1, q2, q3⟩ := rnd_spec (v := r.m.toNat) (t := 2 * max (upN (max r.l.toNat (upN r.g.toNat))) (upN (max r.p.toNat (upN r.g.toNat)))) (by omega)
    exact ⟨g, by show upN _ = upN _ * 2 ^ Nat.log2 _; rw [hlog]; exact hk, ⟨e, he⟩, ⟨q, q1⟩, by show 1 ≤ rnd _ _; omega, rfl, hH, by show r.b.toNat ≤ _; omega, by show r.s.toNat ≤ _; omega⟩
  · cases h

set_option maxHeartbeats 2000000 in
theorem refOf_told (r : Rw) : Told P T ref1_Of [] [eR r] (.tup [eC (ofF r).1, i64 ((ofF r).2 : Nat)]) [] := by
  have bad : r.ok = false → ofF r = (cf0, 1) := fun h => by unfold ofF; rw [if_neg (by rw [h]; simp)]
  obtain ⟨g, l, m, p, b, s⟩ := r
  refine told_of_ev (fn := ref1_Of_fn) tabOk mixed (by kernel_rfl) (by kernel_rfl) (by kernel_rfl) (by kernel_rfl) ?_
  (refine gw ?_; refine LoopN.mk ⟨[1,2,4,5], fun vs L => ∃ i : Nat, vs = [.ptr 0 0 0, .ptr 1 0 0, .lst t_int ([g, l, m, p].map i64), i64 i] ∧ L = [.var (.agg [i64 g, i64 l, i64 m, i64 p, i64 b, i64 s]), .var (eC cf0)] ∧ i ≤ 4 ∧ ∀ j (h : j < [g, l, m, p].length), j < i → inR ([g, l, m, p][j]) = true, fun vs L => match vs with | [_, _, _, .int _ i] => 4 - i.toNat | _ => 0, [4], [0,1], rfl, ⟨0, rfl, rfl, by omega, fun j _ h => by omega⟩, ?_⟩)
  rintro vs L ⟨i, rfl, rfl, hi, hin⟩
  (refine gw ?_; first | refine IfB.dec (fun h1 => ?_) (fun h1 => ?_) | refine IfB.eq (fun h1 => ?_) (fun h1 => ?_) | refine IfB.ne (fun h1 => ?_) (fun h1 => ?_) | refine IfB.mk (fun h1 => ?_) (fun h1 => ?_))
  · have hlt : i < [g, l, m, p].length := by simp; omega
    obtain ⟨x, hx⟩ : ∃ x, [g, l, m, p][i] = x := ⟨_, rfl⟩
    have hbad : inR x = false → ofF ⟨g, l, m, p, b, s⟩ = (cf0, 1) := fun h => bad (by
      have : ∃ y ∈ [g, l, m, p], inR y = false := ⟨x, by rw [← hx]; exact List.getElem_mem _, h⟩
      simp only [List.mem_cons, List.not_mem_nil, or_false] at this
      obtain ⟨y, hy, h⟩ := this
      unfold Rw.ok
      rcases hy with rfl | rfl | rfl | rfl <;> simp [h])
    (refine gw ?_; refine idx_map (hlt) ?_)
    rw [hx]
    (refine gw ?_; first | refine IfB.dec (fun h2 => ?_) (fun h2 => ?_) | refine IfB.eq (fun h2 => ?_) (fun h2 => ?_) | refine IfB.ne (fun h2 => ?_) (fun h2 => ?_) | refine IfB.mk (fun h2 => ?_) (fun h2 => ?_))
    · rw [hbad (by simp [inR]; omega)]
      (refine gw ?_; exact RetN.mk ⟨[], rfl, rfl, rfl⟩)
    · (refine gw ?_; refine idx_map (hlt) ?_)
      rw [hx]
      (refine gw ?_; first | refine IfB.dec (fun h3 => ?_) (fun h3 => ?_) | refine IfB.eq (fun h3 => ?_) (fun h3 => ?_) | refine IfB.ne (fun h3 => ?_) (fun h3 => ?_) | refine IfB.mk (fun h3 => ?_) (fun h3 => ?_))
      · rw [hbad (by simp [inR]; omega)]
        (refine gw ?_; exact RetN.mk ⟨[], rfl, rfl, rfl⟩)
      · have hx' : inR x = true := by simp [inR]; omega
        (refine gw ?_; refine ⟨[4], [0,1], rfl, ⟨i + 1, rfl, rfl, by omega, fun j h hj => ?_⟩, (by omega : 4 - ((i : Int) + 1).toNat < 4 - (i : Int).toNat)⟩)
        rcases Nat.lt_or_ge j i with h' | h'
        · exact hin j h h'
        · have : j = i := by omega
          subst this; rw [hx]; exact hx'
  · have e4 : i = 4 := by omega
    subst e4
    have i1 := hin 0 (by simp) (by omega)
    have i2 := hin 1 (by simp) (by omega)
    have i3 := hin 2 (by simp) (by omega)
    have i4 := hin 3 (by simp) (by omega)
    simp only [List.getElem_cons_zero, List.getElem_cons_succ] at i1 i2 i3 i4
    simp only [inR, decide_eq_true_eq] at i1 i2 i3 i4
    have hr : (Rw.ok ⟨g, l, m, p, b, s⟩) = (decide (0 ≤ b ∧ b ≤ 65536) && decide (0 ≤ s ∧ s ≤ 255)) := by simp [Rw.ok, inR, i1, i2, i3, i4]
    (refine gw ?_; first | refine IfB.dec (fun h2 => ?_) (fun h2 => ?_) | refine IfB.eq (fun h2 => ?_) (fun h2 => ?_) | refine IfB.ne (fun h2 => ?_) (fun h2 => ?_) | refine IfB.mk (fun h2 => ?_) (fun h2 => ?_))
    · rw [bad (by rw [hr]; simp; omega)]
      (refine gw ?_; exact RetN.mk ⟨[], rfl, rfl, rfl⟩)
    · (refine gw ?_; first | refine IfB.dec (fun h3 => ?_) (fun h3 => ?_) | refine IfB.eq (fun h3 => ?_) (fun h3 => ?_) | refine IfB.ne (fun h3 => ?_) (fun h3 => ?_) | refine IfB.mk (fun h3 => ?_) (fun h3 => ?_))
      · rw [bad (by rw [hr]; simp; omega)]
        (refine gw ?_; exact RetN.mk ⟨[], rfl, rfl, rfl⟩)
      · (refine gw ?_; first | refine IfB.dec (fun h4 => ?_) (fun h4 => ?_) | refine IfB.eq (fun h4 => ?_) (fun h4 => ?_) | refine IfB.ne (fun h4 => ?_) (fun h4 => ?_) | refine IfB.mk (fun h4 => ?_) (fun h4 => ?_))
        · rw [bad (by rw [hr]; simp; omega)]
          (refine gw ?_; exact RetN.mk ⟨[], rfl, rfl, rfl⟩)
        · (refine gw ?_; first | refine IfB.dec (fun h5 => ?_) (fun h5 => ?_) | refine IfB.eq (fun h5 => ?_) (fun h5 => ?_) | refine IfB.ne (fun h5 => ?_) (fun h5 => ?_) | refine IfB.mk (fun h5 => ?_) (fun h5 => ?_))
          · rw [bad (by rw [hr]; simp; omega)]
            (refine gw ?_; exact RetN.mk ⟨[], rfl, rfl, rfl⟩)
          · have hok : Rw.ok ⟨g, l, m, p, b, s⟩ = true := by rw [hr]; simp; omega
            obtain ⟨G, hG⟩ : ∃ G, upN g.toNat = G := ⟨_, rfl⟩
            obtain ⟨N, hN⟩ : ∃ N, upN (max l.toNat G) = N := ⟨_, rfl⟩
            obtain ⟨Pg, hPg⟩ : ∃ Pg, upN (max p.toNat G) = Pg := ⟨_, rfl⟩
            obtain ⟨M, hM⟩ : ∃ M, rnd m.toNat (2 * max N Pg) = M := ⟨_, rfl⟩
            obtain ⟨K, hK⟩ : ∃ K, Nat.log2 (N / G) = K := ⟨_, rfl⟩
            have hcf : cfOf ⟨g, l, m, p, b, s⟩ = ⟨G, N, M, K, Pg, b.toNat, M + K * (M / 2), s.toNat⟩ := by
              unfold cfOf; simp only [hG, hN, hPg, hM, hK]
            have bG := upN_lt (v := g.toNat) (by omega)
            have bG0 := upN_pos g.toNat
            rw [hG] at bG bG0
            have bN := upN_lt (v := max l.toNat G) (by omega)
            rw [hN] at bN
            have bN0 := le_upN (max l.toNat G)
            rw [hN] at bN0
            have bP := upN_lt (v := max p.toNat G) (by omega)
            rw [hPg] at bP
            have c1 := refUp_told g.toNat (by omega) (by omega)
            rw [hG, show ((g.toNat : Nat) : Int) = g by omega] at c1
            have c2 := refUp_told (max l.toNat G) (by omega) (by omega)
            rw [hN, show ((max l.toNat G : Nat) : Int) = (if ((G : Nat) : Int) > l then ((G : Nat) : Int) else l) by split <;> omega] at c2
            have c3 := refUp_told (max p.toNat G) (by omega) (by omega)
            rw [hPg, show ((max p.toNat G : Nat) : Int) = (if ((G : Nat) : Int) > p then ((G : Nat) : Int) else p) by split <;> omega] at c3
            have c4 := refRound_told m.toNat (2 * max N Pg) (by omega) (by omega) (by omega)
            rw [hM, show ((2 * max N Pg : Nat) : Int) = 2 * (if ((Pg : Nat) : Int) > ((N : Nat) : Int) then ((Pg : Nat) : Int) else ((N : Nat) : Int)) by split <;> omega, show ((m.toNat : Nat) : Int) = m by omega] at c4
            obtain ⟨q, q1, q2, q3⟩ := rnd_spec (v := m.toNat) (t := 2 * max N Pg) (by omega)
            rw [hM] at q1 q2 q3
            obtain ⟨k0, hk0⟩ := pow_up (v := l.toNat) (hG ▸ upN_pow g.toNat)
            rw [hN] at hk0
            have hK0 : K = k0 := by rw [← hK]; exact log_of bG0 hk0
            have c5 := refLog_told ((N / G : Nat) : Int) (by have := Nat.div_le_self N G; omega)
            have e5 : N / G = 2 ^ K := by rw [hk0, hK0, Nat.mul_div_cancel_left _ (by omega)]
            rw [e5, logF_pow, ← e5, show ((N / G : Nat) : Int) = ((N : Nat) : Int).tdiv ((G : Nat) : Int) by rw [Int.tdiv_eq_ediv_of_nonneg (by omega)]; omega] at c5
            have bK : K < 20 := by
              have h6 : 2 ^ K ≤ 2 ^ 18 := by rw [← e5]; have := Nat.div_le_self N G; omega
              have := (Nat.pow_le_pow_iff_right (a := 2) (by omega)).1 h6
              omega
            have bKM : K * (M / 2) ≤ 20 * (M / 2) := Nat.mul_le_mul_right _ (by omega)
            have hM2 : ((M : Nat) : Int).tdiv 2 = ((M / 2 : Nat) : Int) := by rw [Int.tdiv_eq_ediv_of_nonneg (by omega)]; omega
            have hKM : ((K : Nat) : Int) * ((M / 2 : Nat) : Int) = ((K * (M / 2) : Nat) : Int) := by rw [Int.natCast_mul]
            (refine gw ?_; refine Choice.mk ⟨false, Choice.mk ⟨false, _, _, c1, ?_⟩⟩)
            (refine gw ?_; refine Choice.mk ⟨false, Choice.mk ⟨false, _, _, c2, ?_⟩⟩)
            (refine gw ?_; refine Choice.mk ⟨false, Choice.mk ⟨false, _, _, c3, ?_⟩⟩)
            (refine gw ?_; refine Choice.mk ⟨false, Choice.mk ⟨false, _, _, c4, ?_⟩⟩)
            have hdiv : ((N : Nat) : Int).tdiv ((G : Nat) : Int) = ((N / G : Nat) : Int) := by rw [Int.tdiv_eq_ediv_of_nonneg (by omega)]; omega
            have hdle := Nat.div_le_self N G
            have hd0 : (0 : Int) ≤ ((N / G : Nat) : Int) := Int.natCast_nonneg _
            (refine gw ?_)
            (refine gw ?_; refine Choice.mk ⟨false, Choice.mk ⟨true, _, _, c5, ?_⟩⟩)
            (refine gw ?_)
            rw [hM2]
            (refine gw ?_)
            rw [hKM]
            (refine gw ?_)
            have hH : (M : Int) + ((K * (M / 2) : Nat) : Int) = ((M + K * (M / 2) : Nat) : Int) := by omega
            rw [hH]
            (refine gw ?_; first | refine IfB.dec (fun h6 => ?_) (fun h6 => ?_) | refine IfB.eq (fun h6 => ?_) (fun h6 => ?_) | refine IfB.ne (fun h6 => ?_) (fun h6 => ?_) | refine IfB.mk (fun h6 => ?_) (fun h6 => ?_))
            · rw [show ofF ⟨g, l, m, p, b, s⟩ = (cf0, 1) by unfold ofF; rw [if_neg (by rw [hcf]; simp only; omega)]]
              (refine gw ?_; exact RetN.mk ⟨[], rfl, rfl, rfl⟩)
            · rw [show ofF ⟨g, l, m, p, b, s⟩ = (cfOf ⟨g, l, m, p, b, s⟩, 0) by unfold ofF; rw [if_pos ⟨hok, by rw [hcf]; simp only; omega⟩], hcf]
              (refine gw ?_; refine RetN.mk ⟨[], rfl, ?_, rfl⟩)
              rw [show b = ((b.toNat : Nat) : Int) by omega, show s = ((s.toNat : Nat) : Int) by omega]
              rfl

theorem Cf.Ok.gpos {c : Cf} (h : c.Ok) : 1 ≤ c.G := by obtain ⟨a, e⟩ := h.g; rw [e]; exact Nat.one_le_two_pow
theorem Cf.Ok.nM {c : Cf} (h : c.Ok) : 2 * c.N ≤ c.M := by
  obtain ⟨q, e⟩ := h.m
  have := h.m1
  cases q with
  | zero => rw [Nat.mul_zero] at e; omega
  | succ q =>
    rw [Nat.mul_succ] at e
    have := Nat.zero_le (2 * max c.N c.Pg * q)
    omega
theorem Cf.Ok.mH {c : Cf} (h : c.Ok) : c.M ≤ 65536 := by have := h.h; have := h.h2; omega
theorem Cf.Ok.lL {c : Cf} (h : c.Ok) : c.L ≤ 16 := by
  have h1 := h.nM
  have h2 := h.mH
  have h3 := h.n
  have h4 := h.gpos
  have h5 : 2 ^ c.L ≤ 2 ^ 15 := by
    have : 1 * 2 ^ c.L ≤ c.G * 2 ^ c.L := Nat.mul_le_mul_right _ h4
    omega
  have := (Nat.pow_le_pow_iff_right (a := 2) (by omega)).1 h5
  omega
end Go.Ev.W
namespace Go.Ev.W
open Go.Ev Go.Ev.N

theorem made_told (l : List Nat) : Told P T mk_Made [] [lB l] (.ptr 0 0 0) [pkB ⟨l, 0⟩] := by
  refine told_of_ev (fn := mk_Made_fn) tabOk mixed (by kernel_rfl) (by kernel_rfl) (by kernel_rfl) (by kernel_rfl) ?_
  exact RetN.mk ⟨[0], rfl, rfl, rfl⟩
theorem over_told' (p : Pk) : Told P T mk_Picks_Over [pkB p] [.ptr 0 0 0] (.bool p.over) [pkB p] := by
  have hml : (p.l.map u8).length = p.l.length := by simp
  refine told_of_ev (fn := mk_Picks_Over_fn) tabOk mixed (by kernel_rfl) (by kernel_rfl) (by kernel_rfl) (by kernel_rfl) ?_
  refine gw ?_
  (refine gw ?_; refine RetN.mk ⟨[], rfl, ?_, rfl⟩)
  show AV.bool (decide ((p.n : Int) ≥ ((p.l.map u8).length : Nat))) = AV.bool (decide (p.l.length ≤ p.n))
  congr 1
  exact decide_eq_decide.2 (by omega)
theorem num_told (p : Pk) (ok : p.Ok) (m : Nat) (hm : m ≤ 1000000) : Told P T mk_Picks_Num [pkB p] [.ptr 0 0 0, i64 m] (i64 (p.num m)) [pkB (p.next m)] := by
  have hml : (p.l.map u8).length = p.l.length := by simp
  have hl := ok.l
  simp only [maxLen] at hl
  refine told_of_ev (fn := mk_Picks_Num_fn) tabOk mixed (by kernel_rfl) (by kernel_rfl) (by kernel_rfl) (by kernel_rfl) ?_
  refine gw ?_
  (refine gw ?_; first | refine IfB.dec (fun h1 => ?_) (fun h1 => ?_) | refine IfB.eq (fun h1 => ?_) (fun h1 => ?_) | refine IfB.ne (fun h1 => ?_) (fun h1 => ?_) | refine IfB.mk (fun h1 => ?_) (fun h1 => ?_))
  · have e1 : p.num m = 0 := by unfold Pk.num; rw [if_neg (by omega)]
    have e2 : p.next m = p := by unfold Pk.next; rw [if_neg (by omega)]
    rw [e1, e2]
    refine gw ?_
    (refine gw ?_; exact RetN.mk ⟨[], rfl, rfl, rfl⟩)
  · refine gw ?_
    (refine gw ?_; first | refine IfB.dec (fun h2 => ?_) (fun h2 => ?_) | refine IfB.eq (fun h2 => ?_) (fun h2 => ?_) | refine IfB.ne (fun h2 => ?_) (fun h2 => ?_) | refine IfB.mk (fun h2 => ?_) (fun h2 => ?_))
    · have e1 : p.num m = 0 := by unfold Pk.num; rw [if_neg (by omega)]
      have e2 : p.next m = p := by unfold Pk.next; rw [if_neg (by omega)]
      rw [e1, e2]
      refine gw ?_
      (refine gw ?_; exact RetN.mk ⟨[], rfl, rfl, rfl⟩)
    · have hlt : p.n < p.l.length := by omega
      have e1 : p.num m = p.l[p.n] % m := by unfold Pk.num; rw [if_pos (by omega), List.getElem?_eq_getElem hlt]; rfl
      have e2 : p.next m = ⟨p.l, p.n + 1⟩ := by unfold Pk.next; rw [if_pos (by omega)]
      have hb := ok.b _ (List.getElem_mem hlt)
      rw [e1, e2]
      refine gw ?_
      refine idx_map' p.n (by omega) hlt ?_
      refine gw ?_
      (refine gw ?_; exact RetN.mk ⟨[], rfl, rfl, rfl⟩)
end Go.Ev.W
namespace Go.Ev.W
open Go.Ev Go.Ev.N

theorem refSize_told (c : Cf) (k : Nat) (hk : k ≤ 40) (hG : c.G ≤ 65536) : Told P T ref1_Size [] [eC c, i64 k] (i64 (c.G * 2 ^ k : Nat)) [] := by
  have hb : ∀ j, j ≤ k → c.G * 2 ^ j ≤ 65536 * 1099511627776 := fun j hj => Nat.mul_le_mul hG ((Nat.pow_le_pow_right (by omega) (show j ≤ 40 by omega) : 2 ^ j ≤ 2 ^ 40))
  refine told_of_ev (fn := ref1_Size_fn) tabOk mixed (by kernel_rfl) (by kernel_rfl) (by kernel_rfl) (by kernel_rfl) ?_
  (refine gw ?_; refine LoopN.mk ⟨[1,5,6], fun vs L => ∃ j : Nat, vs = [i64 k, i64 (c.G * 2 ^ j : Nat), i64 j] ∧ L = [] ∧ j ≤ k, fun vs L => match vs with | [_, _, .int _ i] => k - i.toNat | _ => 0, [], [], rfl, ⟨0, by rw [Nat.pow_zero, Nat.mul_one]; rfl, rfl, by omega⟩, ?_⟩)
  rintro vs L ⟨j, rfl, rfl, hj⟩
  (refine gw ?_; first | refine IfB.dec (fun h1 => ?_) (fun h1 => ?_) | refine IfB.eq (fun h1 => ?_) (fun h1 => ?_) | refine IfB.ne (fun h1 => ?_) (fun h1 => ?_) | refine IfB.mk (fun h1 => ?_) (fun h1 => ?_))
  · have e : c.G * 2 ^ (j + 1) = c.G * 2 ^ j * 2 := by rw [Nat.pow_succ, Nat.mul_assoc]
    have b1 := hb j hj
    have b2 := hb (j + 1) (by omega)
    rw [e] at b2
    have e2 : ((c.G * 2 ^ (j + 1) : Nat) : Int) = ((c.G * 2 ^ j : Nat) : Int) * 2 := by rw [e]; omega
    generalize c.G * 2 ^ j = q at *
    (refine gw ?_; refine ⟨[], [], rfl, ⟨j + 1, by rw [e2]; rfl, rfl, by omega⟩, (by omega : k - ((j : Int) + 1).toNat < k - (j : Int).toNat)⟩)
  · have e : j = k := by omega
    subst e
    (refine gw ?_; exact RetN.mk ⟨[], rfl, rfl, rfl⟩)
end Go.Ev.W
namespace Go.Ev.W
open Go.Ev Go.Ev.N

/-- Numbers and bools of a row, by place. -/
def tabF (n : Nat) (f : Nat → AV) : List AV := (List.range n).map f
theorem tabF_len (n : Nat) (f : Nat → AV) : (tabF n f).length = n := by simp [tabF]
theorem tabF_get {n : Nat} {f : Nat → AV} {k : Nat} (h : k < n) : (tabF n f)[k]? = some (f k) := by simp [tabF, h]
theorem tabF_congr {n : Nat} {f g : Nat → AV} (h : ∀ k, k < n → f k = g k) : tabF n f = tabF n g := List.map_congr_left fun k hk => h k (by simpa using hk)
theorem tabF_set {n : Nat} {f g : Nat → AV} {k : Nat} {v : AV} (h : k < n) (hg : ∀ j, j < n → g j = if j = k then v else f j) : (tabF n f).set k v = tabF n g := by
  apply List.ext_getElem?
  intro j
  rw [List.getElem?_set]
  by_cases hj : j < n
  · rw [tabF_get hj, tabF_get hj, hg j hj]
    by_cases e : k = j
    · subst e; simp [tabF_len, h]
    · simp [e, Ne.symm e]
  · rw [List.getElem?_eq_none (by rw [tabF_len]; omega), List.getElem?_eq_none (by rw [tabF_len]; omega)]
    rw [if_neg (by omega)]
theorem tabF_rep (n : Nat) (v : AV) : List.replicate n v = tabF n fun _ => v := by
  unfold tabF; rw [List.map_const']; simp
theorem tabF_map {α : Type} (l : List α) (enc : α → AV) (d : α) : l.map enc = tabF l.length fun k => enc (l.getD k d) := by
  apply List.ext_getElem?
  intro j
  by_cases hj : j < l.length
  · rw [tabF_get hj]; simp [hj, List.getD_eq_getElem?_getD]
  · rw [List.getElem?_eq_none (by simp; omega), List.getElem?_eq_none (by rw [tabF_len]; omega)]
theorem tabF_of {α : Type} (n : Nat) (f : Nat → α) (enc : α → AV) : (tabF n fun k => enc (f k)) = ((List.range n).map f).map enc := by simp [tabF]

/-- How much is charged for so much, at a multiple of so much; why not. -/
def chargeF (c : Cf) (s a : Int) : Nat × Nat :=
  if (logF a).2 = false ∨ a > c.N then (0, 3) else if s < 0 ∨ s > c.N then (0, 4) else (upN (max (max s.toNat a.toNat) c.G), 0)
def prodF (c : Cf) (n s : Int) : Nat × Nat :=
  if n < 0 ∨ s < 0 then (0, 2) else if n * s ≤ c.N then ((n * s).toNat, 0) else (0, 4)
def newF (c : Cf) (live s a : Int) : Nat × Nat :=
  if (chargeF c s a).2 ≠ 0 then (0, (chargeF c s a).2) else if live > (c.M : Int) - (chargeF c s a).1 then (0, 5) else ((chargeF c s a).1, 0)
def manyF (c : Cf) (live n s : Int) : Nat × Nat :=
  if (prodF c n s).2 ≠ 0 then (0, (prodF c n s).2) else newF c live (prodF c n s).1 1

/-- A block: where, how much is charged, how much was asked for. -/
structure Bk where
  a : Int
  c : Int
  q : Int
  deriving DecidableEq
def eB (b : Bk) : AV := .agg [i64 b.a, i64 b.c, i64 b.q]
/-- All that there is. -/
structure Mo where
  c : Cf
  bs : List Bk
  live : Int
  peak : Int
  mark : Int
  on : List Bool
  mem : List Nat
  deriving DecidableEq
def lK (l : List Bk) : AV := .lst t_api_Block (l.map eB)
def lT (l : List Bool) : AV := .lst t_bool (l.map .bool)
def lU (l : List Nat) : AV := .lst t_uint8 (l.map u8)
def eM (m : Mo) : AV := .agg [i64 m.c.G, i64 m.c.N, i64 m.c.M, i64 m.c.L, i64 m.c.Pg, i64 m.c.P, i64 m.c.H, i64 m.c.Sd, lK m.bs, i64 m.live, i64 m.peak, i64 m.mark, lT m.on, lU m.mem]
/-- What a call is told. -/
structure An where
  e : Nat
  at' : Int
  n : Int
  b : Nat
  live : Int
  peak : Int
  mark : Int
  pg : Int
  deriving DecidableEq
def eA (x : An) : AV := .agg [i64 x.e, i64 x.at', i64 x.n, .int .u8 (x.b : Int), i64 x.live, i64 x.peak, i64 x.mark, i64 x.pg]
def an0 : An := ⟨0, 0, 0, 0, 0, 0, 0, 0⟩
def anE (e : Nat) : An := ⟨e, 0, 0, 0, 0, 0, 0, 0⟩

def ovr (a n b m : Int) : Bool := decide (a < b + m ∧ b < a + n)
def freeAt (l : List Bk) (n y : Int) : Bool := l.all fun b => !ovr y n b.a b.c
/-- The lowest place of so much. -/
def lowGo (l : List Bk) (n : Nat) : Nat → Nat → Nat × Bool
  | 0, _ => (0, false)
  | f + 1, k => if freeAt l n (k * n : Nat) = true then (k * n, true) else lowGo l n f (k + 1)
def lowF (c : Cf) (l : List Bk) (n : Nat) : Nat × Bool := lowGo l n (c.H / n) 0
def lowB (y : Int) : List Bk → Nat
  | [] => 0
  | x :: l => if x.a ≤ y then lowB y l + 1 else 0
def putB (l : List Bk) (b : Bk) : List Bk := l.take (lowB b.a l) ++ b :: l.drop (lowB b.a l)
def metF (pg size : Nat) (l : List Bk) : List Bool := (List.range (size / pg)).map fun i => l.any fun b => ovr (i * pg : Nat) pg b.a b.c
def cntB (l : List Bool) : Nat := (l.filter id).length
/-- Which pages are there then, which are fresh; none: too many. -/
def commitF (on met : List Bool) (first behind : Nat) (most : Nat) : List Bool × List Nat × Bool :=
  let these := fun i => decide (first ≤ i ∧ i < behind)
  let need := (List.range on.length).map fun i => met.getD i false || these i
  let all := (List.range on.length).map fun i => on.getD i false || these i
  let fresh := (List.range on.length).filter fun i => these i && !on.getD i false
  if cntB need > most then ([], [], false)
  else (if cntB all > most then (List.range on.length).map fun i => all.getD i false && need.getD i false else all, fresh, true)
def trimF (on met : List Bool) : List Bool × Nat :=
  ((List.range on.length).map fun i => on.getD i false && met.getD i false, ((List.range on.length).filter fun i => on.getD i false && !met.getD i false).length)
def byteF (seed page i : Nat) : Nat := (seed % 256 + 31 * (page % 256) + 7 * (i % 256) + 1) % 256
def fillF (mem : List Nat) (seed page size : Nat) : List Nat := (List.range mem.length).map fun i => if i / size = page then byteF seed page (i % size) else mem.getD i 0
def totalB (l : List Bk) : Int := (l.map (·.c)).sum
def placeF (m : Mo) (l : List Bk) (n : Nat) (q : Int) : Mo × Int × Nat :=
  let lo := lowF m.c l n
  if lo.2 = false then (m, 0, 7)
  else
    let co := commitF m.on (metF m.c.Pg m.c.H l) (lo.1 / m.c.Pg) ((lo.1 + n - 1) / m.c.Pg + 1) m.c.P
    if co.2.2 = false then (m, 0, 6)
    else
      let bs := putB l ⟨lo.1, n, q⟩
      ({ m with bs := bs, live := totalB bs, peak := max m.peak (totalB bs), mark := max m.mark (lo.1 + n), on := co.1, mem := co.2.1.foldl (fun mem p => fillF mem m.c.Sd p m.c.Pg) m.mem }, lo.1, 0)
def newM (r : Rw) : Mo × Nat :=
  if (ofF r).2 ≠ 0 then (⟨cf0, [], 0, 0, 0, [], []⟩, (ofF r).2) else (⟨(ofF r).1, [], 0, 0, 0, List.replicate ((ofF r).1.H / (ofF r).1.Pg) false, List.replicate (ofF r).1.H 0⟩, 0)
end Go.Ev.W
namespace Go.Ev.W
open Go.Ev Go.Ev.N

/-- Blocks that lie apart, rising, within so much. -/
structure ApB (H : Nat) (l : List Bk) : Prop where
  p : l.Pairwise fun x y => x.a + x.c ≤ y.a
  b : ∀ x ∈ l, 0 ≤ x.a ∧ 1 ≤ x.c ∧ x.a + x.c ≤ H
theorem ApB.nil (H : Nat) : ApB H [] := ⟨List.Pairwise.nil, by simp⟩
theorem ApB.sub {H : Nat} {l m : List Bk} (h : ApB H l) (hs : m.Sublist l) : ApB H m := ⟨h.p.sublist hs, fun x hx => h.b x (hs.subset hx)⟩
theorem lowB_le (y : Int) : ∀ l, lowB y l ≤ l.length
  | [] => Nat.le_refl _
  | m :: l => by
    have := lowB_le y l
    unfold lowB; split <;> simp <;> omega
theorem lowB_lt {y : Int} : ∀ {l : List Bk} {k : Nat} (hk : k < l.length), k < lowB y l → l[k].a ≤ y
  | [], k, h, _ => by simp at h
  | m :: l, 0, h, h2 => by
    unfold lowB at h2; split at h2
    · assumption
    · omega
  | m :: l, k + 1, h, h2 => by
    unfold lowB at h2; split at h2
    · exact lowB_lt (l := l) (by simpa using h) (by omega)
    · omega
theorem lowB_ge {y : Int} : ∀ {l : List Bk} (hk : lowB y l < l.length), y < l[lowB y l].a
  | [], h => by simp at h
  | m :: l, h => by
    by_cases hm : m.a ≤ y
    · have e : lowB y (m :: l) = lowB y l + 1 := by simp [lowB, hm]
      simp only [e] at h ⊢
      exact lowB_ge (l := l) (by simpa using h)
    · have e : lowB y (m :: l) = 0 := by simp [lowB, hm]
      simp only [e]
      simp; omega
/-- Those ahead of a place, and those behind it. -/
theorem put_split {H : Nat} : ∀ {l : List Bk}, ApB H l → ∀ y : Int, ∃ l1 l2, l = l1 ++ l2 ∧ lowB y l = l1.length ∧ (∀ x ∈ l1, x.a ≤ y) ∧ ∀ x ∈ l2, y < x.a
  | [], _, _ => ⟨[], [], rfl, rfl, by simp, by simp⟩
  | x :: l, h, y => by
    have hl : ApB H l := h.sub (List.sublist_cons_self _ _)
    by_cases hx : x.a ≤ y
    · obtain ⟨l1, l2, rfl, e, h1, h2⟩ := put_split hl y
      exact ⟨x :: l1, l2, rfl, by simp [lowB, hx, e], by simpa [hx] using h1, h2⟩
    · refine ⟨[], x :: l, rfl, by simp [lowB, hx], by simp, fun z hz => ?_⟩
      have := h.b x (by simp)
      rcases List.mem_cons.1 hz with rfl | hz
      · omega
      · have := (List.pairwise_cons.1 h.p).1 z hz; omega
theorem freeAt_iff {l : List Bk} {n y : Int} : freeAt l n y = true ↔ ∀ x ∈ l, ¬ (y < x.a + x.c ∧ x.a < y + n) := by
  simp only [freeAt, List.all_eq_true, Bool.not_eq_true', ovr, decide_eq_false_iff_not]
theorem putB_ok {H : Nat} {l : List Bk} (h : ApB H l) {b : Bk} (hf : freeAt l b.c b.a = true) (hb : 0 ≤ b.a ∧ 1 ≤ b.c ∧ b.a + b.c ≤ H) :
    ApB H (putB l b) ∧ (∀ x, x ∈ putB l b ↔ x = b ∨ x ∈ l) ∧ totalB (putB l b) = totalB l + b.c ∧ (putB l b).length = l.length + 1 := by
  obtain ⟨l1, l2, e, e1, h1, h2⟩ := put_split h b.a
  have e3 : putB l b = l1 ++ b :: l2 := by unfold putB; rw [e1, e, List.take_left, List.drop_left]
  rw [freeAt_iff] at hf
  have hp := h.p
  have hbb := h.b
  rw [e] at hp hbb hf
  rw [List.pairwise_append] at hp
  have g1 : ∀ x ∈ l1, x.a + x.c ≤ b.a := fun x hx => by have := hf x (by simp [hx]); have := h1 x hx; omega
  have g2 : ∀ x ∈ l2, b.a + b.c ≤ x.a := fun x hx => by have := hf x (by simp [hx]); have := h2 x hx; have := hbb x (by simp [hx]); omega
  rw [e3, e]
  refine ⟨⟨?_, fun x hx => ?_⟩, fun x => ?_, ?_, by simp; omega⟩
  · rw [List.pairwise_append, List.pairwise_cons]
    refine ⟨hp.1, ⟨g2, hp.2.1⟩, fun x hx y hy => ?_⟩
    rcases List.mem_cons.1 hy with rfl | hy
    · exact g1 x hx
    · exact hp.2.2 x hx y hy
  · simp only [List.mem_append, List.mem_cons] at hx
    rcases hx with hx | rfl | hx
    · exact hbb x (by simp [hx])
    · exact hb
    · exact hbb x (by simp [hx])
  · simp only [List.mem_append, List.mem_cons]
    constructor
    · rintro (h | h | h)
      · exact .inr (.inl h)
      · exact .inl h
      · exact .inr (.inr h)
    · rintro (h | h | h)
      · exact .inr (.inl h)
      · exact .inl h
      · exact .inr (.inr h)
  · simp only [totalB, List.map_append, List.sum_append, List.map_cons, List.sum_cons]; omega
theorem totalB_nonneg {H : Nat} {l : List Bk} (h : ApB H l) : (l.length : Int) ≤ totalB l := by
  have hb := h.b
  clear h
  induction l with
  | nil => simp [totalB]
  | cons x l ih =>
    have := ih fun y hy => hb y (by simp [hy])
    have := hb x (by simp)
    have e : totalB (x :: l) = x.c + totalB l := by simp only [totalB, List.map_cons, List.sum_cons]
    rw [e, List.length_cons]; omega
theorem lowGo_spec {l : List Bk} {n : Nat} : ∀ (f k : Nat), (lowGo l n f k).2 = true → ∃ j, k ≤ j ∧ j < k + f ∧ (lowGo l n f k).1 = j * n ∧ freeAt l n ((j * n : Nat) : Int) = true ∧ ∀ i, k ≤ i → i < j → freeAt l n ((i * n : Nat) : Int) = false
  | 0, k, h => by simp [lowGo] at h
  | f + 1, k, h => by
    unfold lowGo at h ⊢
    split at h
    · rename_i hf
      rw [if_pos hf]
      exact ⟨k, Nat.le_refl _, by omega, rfl, hf, fun i _ _ => by omega⟩
    · rename_i hf
      rw [if_neg hf]
      obtain ⟨j, h1, h2, h3, h4, h5⟩ := lowGo_spec f (k + 1) h
      refine ⟨j, by omega, by omega, h3, h4, fun i hi hj => ?_⟩
      rcases Nat.lt_or_ge k i with h' | h'
      · exact h5 i h' hj
      · have : i = k := by omega
        subst this; simpa using hf
theorem lowF_spec {c : Cf} {l : List Bk} {n : Nat} (hn : 1 ≤ n) (h : (lowF c l n).2 = true) : ∃ j, (lowF c l n).1 = j * n ∧ j * n + n ≤ c.H ∧ freeAt l n ((lowF c l n).1 : Nat) = true ∧ ∀ i, i < j → freeAt l n ((i * n : Nat) : Int) = false := by
  obtain ⟨j, _, h2, h3, h4, h5⟩ := lowGo_spec (c.H / n) 0 h
  refine ⟨j, h3, ?_, by unfold lowF; rw [h3]; exact h4, fun i hi => h5 i (Nat.zero_le _) hi⟩
  have : (j + 1) * n ≤ c.H / n * n := Nat.mul_le_mul_right _ (by omega)
  have := Nat.div_mul_le_self c.H n
  rw [Nat.succ_mul] at *
  omega
/-- What holds of all that there is. -/
structure MoOk (m : Mo) : Prop where
  c : m.c.Ok
  a : ApB m.c.H m.bs
  z : ∀ x ∈ m.bs, ∃ k, k ≤ m.c.L ∧ x.c = ((m.c.G * 2 ^ k : Nat) : Int) ∧ x.a % x.c = 0 ∧ 0 ≤ x.q ∧ x.q ≤ x.c
  l : m.live = totalB m.bs
  lM : m.live ≤ m.c.M
  p : m.live ≤ m.peak ∧ m.peak ≤ m.c.M
  k : (∀ x ∈ m.bs, x.a + x.c ≤ m.mark) ∧ 0 ≤ m.mark ∧ m.mark ≤ m.c.H
  o : m.on.length = m.c.H / m.c.Pg
  on : cntB m.on ≤ m.c.P
  mm : m.mem.length = m.c.H
  b : IsB m.mem
end Go.Ev.W
