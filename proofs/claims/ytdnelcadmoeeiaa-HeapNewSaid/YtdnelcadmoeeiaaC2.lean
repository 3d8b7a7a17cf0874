/- Words and lemmas, part 2, for laws of this seat (a part of their proofs). -/
import Derived.Test.YtdnelcadmoeeiaaC1
set_option linter.unusedVariables false
set_option linter.unusedSimpArgs false
namespace Go.Ev.W
open Go.Ev Go.Ev.N

theorem shlG {i k : Nat} (hk : k ≤ 16) : ((i : Nat) : Int) * 2 ^ min ((k : Nat) : Int).toNat IntKind.i64.bits = ((i * 2 ^ k : Nat) : Int) := by
  rw [Int.toNat_natCast, show min k IntKind.i64.bits = k from Nat.min_eq_left (by show k ≤ 64; omega)]
  simp
theorem plTwin_told {G g c : Nat} {b : Nat → Bool} {l : List M} (h : EgOk G g c l) : Told P T place_twin [] [eE G g c b l] (eE G g c b l) [] := by
  have hml : (l.map encM).length = l.length := by simp
  have hl := h.len
  have c1 := slUse_told h.sl b 0 0 (by omega) (by omega) true
  rw [setZ_none] at c1
  have c1 : Told P T slots_Use [] [eS g c b, i64 0, i64 0, .bool true] (eS g c b) [] := c1
  refine told_of_ev (fn := place_twin_fn) tabOk mixed (by kernel_rfl) (by kernel_rfl) (by kernel_rfl) (by kernel_rfl) ?_
  (refine gw ?_; refine Choice.mk ⟨false, Choice.mk ⟨false, _, _, c1, ?_⟩⟩)
  (refine gw ?_; refine Choice.mk ⟨false, Choice.mk ⟨false, _, _, clone_Mark (l.map encM) (by omega), ?_⟩⟩)
  (refine gw ?_)
  exact RetN.fz ⟨[true], [], rfl, rfl, rfl⟩
set_option maxHeartbeats 1000000 in
theorem plPlace_told {G g c : Nat} {b : Nat → Bool} {l : List M} (h : EgOk G g c l) (cl : Int) (hcl : -9223372036854775808 ≤ cl ∧ cl ≤ 9223372036854775807) :
    Told P T place_Place [] [eE G g c b l, i64 cl] (.tup [eE G g c (placeB g c b cl) (placeL G g c b l cl), i64 (placeA G g c b cl), .bool (lowS g c b cl).isSome]) [] := by
  have c1 := slLowest_told h.sl b cl hcl
  have c2 := plTwin_told h (b := b)
  have hml : (l.map encM).length = l.length := by simp
  have hl := h.len
  unfold placeB placeL placeA
  cases hi : lowS g c b cl with
  | none =>
    rw [hi] at c1
    refine told_of_ev (fn := place_Place_fn) tabOk mixed (by kernel_rfl) (by kernel_rfl) (by kernel_rfl) (by kernel_rfl) ?_
    (refine gw ?_; refine Choice.mk ⟨false, Choice.mk ⟨false, _, _, c1, ?_⟩⟩)
    (refine gw ?_; refine Choice.mk ⟨false, Choice.mk ⟨false, _, _, c2, ?_⟩⟩)
    (refine gw ?_; exact RetN.mk ⟨[], rfl, rfl, rfl⟩)
  | some i =>
    rw [hi] at c1
    obtain ⟨k, rfl, hk, hik, _, _⟩ := lowS_lt h.sl hi
    have hb := sz_bound h.sl h.gG hk hik
    have hg2 := h.sl.g2
    have h17 := h.sl.c17
    simp only [Int.toNat_natCast]
    have hs1 := shlG (i := i) (k := k) (by omega)
    have hs2 := shlI (k := k) (by omega)
    have c3 := slUse_told h.sl b (i * 2 ^ k : Nat) (2 ^ k : Nat) (by omega) (by omega) true
    have c4 := putZ l h.rise ⟨(i * 2 ^ k * G : Nat), k⟩ (by omega)
    have hG : ((i * 2 ^ k : Nat) : Int) * (G : Int) = ((i * 2 ^ k * G : Nat) : Int) := (Int.natCast_mul _ G).symm
    have hle : i * 2 ^ k ≤ 65536 := by omega
    generalize i * 2 ^ k * G = a at *
    generalize i * 2 ^ k = f at *
    generalize 2 ^ k = n at *
    refine told_of_ev (fn := place_Place_fn) tabOk mixed (by kernel_rfl) (by kernel_rfl) (by kernel_rfl) (by kernel_rfl) ?_
    (refine gw ?_; refine Choice.mk ⟨false, Choice.mk ⟨false, _, _, c1, ?_⟩⟩)
    (refine gw ?_)
    rw [hs1]
    (refine gw ?_)
    rw [hG]
    (refine gw ?_)
    rw [hs1]
    (refine gw ?_)
    rw [hs2]
    (refine gw ?_; refine Choice.mk ⟨false, Choice.mk ⟨false, _, _, c3, ?_⟩⟩)
    (refine gw ?_; refine Choice.mk ⟨false, Choice.mk ⟨false, _, _, c4, ?_⟩⟩)
    (refine gw ?_; exact RetN.mk ⟨[], rfl, rfl, rfl⟩)
set_option maxHeartbeats 1000000 in
theorem plRel_told {G g c : Nat} {b : Nat → Bool} {l : List M} (h : EgOk G g c l) (y : Int) (hy : -9223372036854775808 ≤ y ∧ y ≤ 9223372036854775807) :
    Told P T place_Release [] [eE G g c b l, i64 y] (.tup [eE G g c (relB G b l y) (relL l y), i64 (relK l y), .bool (isAt y l)]) [] := by
  have c1 := takeZ l h.rise y (by have := h.len; omega)
  have c2 := plTwin_told h (b := b)
  have htl := tL_len g c b
  unfold relB relL relK
  cases hi : isAt y l with
  | false =>
    rw [hi] at c1
    refine told_of_ev (fn := place_Release_fn) tabOk mixed (by kernel_rfl) (by kernel_rfl) (by kernel_rfl) (by kernel_rfl) ?_
    (refine gw ?_; refine Choice.mk ⟨false, Choice.mk ⟨false, _, _, c1, ?_⟩⟩)
    (refine gw ?_; refine Choice.mk ⟨false, Choice.mk ⟨false, _, _, c2, ?_⟩⟩)
    (refine gw ?_; exact RetN.mk ⟨[], rfl, rfl, rfl⟩)
  | true =>
    rw [hi] at c1
    obtain ⟨y1, y2, y3, y4⟩ := relL_at h hi
    obtain ⟨a, rfl⟩ : ∃ a : Nat, y = a := ⟨y.toNat, by omega⟩
    have hg1 := h.g1
    have hg2 := h.sl.g2
    have h17 := h.sl.c17
    simp only [if_true] at c1 ⊢
    generalize takeM l a = l2 at *
    obtain ⟨k, hk⟩ : ∃ k : Nat, clsM l a = k := ⟨(clsM l a).toNat, by omega⟩
    rw [hk] at c1 y4 ⊢
    simp only [Int.toNat_natCast]
    have hs2 := shlI (k := k) (by omega)
    have hdv : ((a : Nat) : Int).tdiv (G : Int) = ((a / G : Nat) : Int) := (Int.ofNat_tdiv a G).symm
    have hdl : a / G ≤ a := Nat.div_le_self a G
    have hp2 : 2 ^ k ≤ 2 ^ 16 := Nat.pow_le_pow_right (by omega) (by omega)
    generalize a / G = f at *
    generalize 2 ^ k = n at *
    have c3 := slUse_told h.sl b f n (by omega) (by omega) false
    have hGne : ((G : Nat) : Int) ≠ 0 := by omega
    refine told_of_ev (fn := place_Release_fn) tabOk mixed (by kernel_rfl) (by kernel_rfl) (by kernel_rfl) (by kernel_rfl) ?_
    (refine gw ?_; refine Choice.mk ⟨false, Choice.mk ⟨false, _, _, c1, ?_⟩⟩)
    (refine gw ?_; refine IfB.ff (by simp; omega) ?_)
    (refine gw ?_; refine IfB.ff (by rw [htl]; simp; omega) ?_)
    (refine gw ?_)
    rw [hdv]
    (refine gw ?_)
    rw [hs2]
    (refine gw ?_; refine Choice.mk ⟨false, Choice.mk ⟨false, _, _, c3, ?_⟩⟩)
    (refine gw ?_; exact RetN.mk ⟨[], rfl, rfl, rfl⟩)
end Go.Ev.W
namespace Go.Ev.W
open Go.Ev Go.Ev.N

theorem pow2_bit {n : Nat} (h : 1 ≤ n) : n &&& (n - 1) = 0 ↔ n = 2 ^ Nat.log2 n := by
  have h1 : 2 ^ Nat.log2 n ≤ n := Nat.log2_self_le (by omega)
  have h2 : n < 2 ^ (Nat.log2 n + 1) := Nat.lt_log2_self
  constructor
  · intro h0
    by_cases e : n = 2 ^ Nat.log2 n
    · exact e
    · exfalso
      have hb1 : n.testBit (Nat.log2 n) = true := by
        rw [Nat.testBit_eq_decide_div_mod_eq]
        refine decide_eq_true ?_
        have : n / 2 ^ Nat.log2 n = 1 := by
          rw [Nat.pow_succ] at h2
          exact Nat.div_eq_of_lt_le (by omega) (by omega)
        rw [this]
      have hb2 : (n - 1).testBit (Nat.log2 n) = true := by
        rw [Nat.testBit_eq_decide_div_mod_eq]
        refine decide_eq_true ?_
        have : (n - 1) / 2 ^ Nat.log2 n = 1 := by
          rw [Nat.pow_succ] at h2
          exact Nat.div_eq_of_lt_le (by omega) (by omega)
        rw [this]
      have : (n &&& (n - 1)).testBit (Nat.log2 n) = true := by rw [Nat.testBit_and, hb1, hb2]; rfl
      rw [h0, Nat.zero_testBit] at this
      cases this
  · intro e
    generalize Nat.log2 n = k at *
    subst e
    rw [Nat.and_two_pow_sub_one_eq_mod, Nat.mod_self]
end Go.Ev.W
namespace Go.Ev.W
open Go.Ev Go.Ev.N

def sNw (g c : Int) : List AV := if SlOkI g c then tL g.toNat c.toNat offB else []
theorem sNw_told {g c : Int} (hg : -9223372036854775808 ≤ g ∧ g ≤ 9223372036854775807) (hc : -9223372036854775808 ≤ c ∧ c ≤ 9223372036854775807) : Told P T slots_New [] [i64 g, i64 c] (.agg [.lst t_api_Tree (sNw g c)]) [] := by
  unfold sNw
  by_cases h : SlOkI g c
  · rw [if_pos h]
    obtain ⟨n, rfl⟩ : ∃ n : Nat, g = n := ⟨g.toNat, by have := h.2.2.1; omega⟩
    obtain ⟨k, rfl⟩ : ∃ k : Nat, c = k := ⟨c.toNat, by have := h.1; omega⟩
    exact slNew_told h.ok
  · rw [if_neg h]
    exact slNewNo_told h hg hc
theorem sNw_len (g c : Int) : (sNw g c).length = if SlOkI g c then c.toNat else 0 := by
  unfold sNw
  split
  · rw [tL_len]
  · rfl
/-- May there be such an engine? -/
def NwOk (G g c : Int) : Prop := (1 ≤ G ∧ G ≤ 65536 ∧ G.toNat = 2 ^ Nat.log2 G.toNat) ∧ SlOkI g c ∧ g ≤ ((65536 / G.toNat : Nat) : Int)
instance (G g c : Int) : Decidable (NwOk G g c) := by unfold NwOk; infer_instance
def nwE (G g c : Int) : AV := if NwOk G g c then eE G.toNat g.toNat c.toNat offB [] else eN
theorem and_pred {n : Nat} (h : 1 ≤ n) (h2 : n ≤ 65536) : bitsOp .and .i64 (n : Int) ((n : Int) - 1) = ((n &&& (n - 1) : Nat) : Int) := by
  rw [show ((n : Nat) : Int) - 1 = ((n - 1 : Nat) : Int) by omega]
  exact and64i (by omega) (by omega)
set_option maxHeartbeats 1000000 in
theorem plNew_told (G g c : Int) (hG : -9223372036854775808 ≤ G ∧ G ≤ 9223372036854775807) (hg : -9223372036854775808 ≤ g ∧ g ≤ 9223372036854775807) (hc : -9223372036854775808 ≤ c ∧ c ≤ 9223372036854775807) : Told P T place_New [] [i64 G, i64 g, i64 c] (.tup [nwE G g c, .bool (decide (NwOk G g c))]) [] := by
  have no : ¬ NwOk G g c → (nwE G g c = eN ∧ decide (NwOk G g c) = false) := fun h => ⟨by unfold nwE; rw [if_neg h], decide_eq_false h⟩
  by_cases h1 : G < 1
  · obtain ⟨e1, e2⟩ := no fun h => by have := h.1.1; omega
    rw [e1, e2]
    refine told_of_ev (fn := place_New_fn) tabOk mixed (by kernel_rfl) (by kernel_rfl) (by kernel_rfl) (by kernel_rfl) ?_
    (refine gw ?_; refine IfB.tt (by simp; omega) ?_)
    (refine gw ?_)
    exact RetN.fz ⟨[true], [], rfl, rfl, rfl⟩
  · by_cases h2 : G > 65536
    · obtain ⟨e1, e2⟩ := no fun h => by have := h.1.2.1; omega
      rw [e1, e2]
      refine told_of_ev (fn := place_New_fn) tabOk mixed (by kernel_rfl) (by kernel_rfl) (by kernel_rfl) (by kernel_rfl) ?_
      (refine gw ?_; refine IfB.ff (by simp; omega) ?_)
      (refine gw ?_; refine IfB.tt (by simp; omega) ?_)
      (refine gw ?_)
      exact RetN.fz ⟨[true], [], rfl, rfl, rfl⟩
    · obtain ⟨n, rfl⟩ : ∃ n : Nat, G = n := ⟨G.toNat, by omega⟩
      have hand := and_pred (n := n) (by omega) (by omega)
      have hbit := pow2_bit (n := n) (by omega)
      have c1 := sNw_told hg hc
      have hl := sNw_len g c
      have hdv : (65536 : Int).tdiv (n : Int) = ((65536 / n : Nat) : Int) := (Int.ofNat_tdiv 65536 n).symm
      have hne : ((n : Nat) : Int) ≠ 0 := by omega
      by_cases h3 : n = 2 ^ Nat.log2 n
      · rw [hbit.2 h3] at hand
        by_cases h4 : SlOkI g c
        · rw [if_pos h4] at hl
          have hd2 : 65536 / n ≤ 65536 := Nat.div_le_self _ _
          by_cases h5 : g ≤ ((65536 / n : Nat) : Int)
          · have hok : NwOk n g c := ⟨⟨by omega, by omega, h3⟩, h4, h5⟩
            have e1 : nwE n g c = .agg [i64 n, .lst t_api_Tree (sNw g c), .lst t_api_Mark []] := by unfold nwE sNw; rw [if_pos hok, if_pos h4]; rfl
            rw [e1, decide_eq_true hok]
            have h41 := h4.1
            generalize 65536 / n = q at *
            refine told_of_ev (fn := place_New_fn) tabOk mixed (by kernel_rfl) (by kernel_rfl) (by kernel_rfl) (by kernel_rfl) ?_
            (refine gw ?_; refine IfB.ff (by simp; omega) ?_)
            (refine gw ?_; refine IfB.ff (by simp; omega) ?_)
            (refine gw ?_)
            rw [hand]
            (refine gw ?_; refine Choice.mk ⟨false, Choice.mk ⟨false, _, _, c1, ?_⟩⟩)
            (refine gw ?_)
            rw [hl]
            (refine gw ?_; refine IfB.ff (by simp; omega) ?_)
            (refine gw ?_)
            rw [hdv]
            (refine gw ?_; refine IfB.ff (by simp; omega) ?_)
            (refine gw ?_)
            exact RetN.fz ⟨[true], [], rfl, rfl, rfl⟩
          · obtain ⟨e1, e2⟩ := no fun h => h5 h.2.2
            rw [e1, e2]
            have h41 := h4.1
            generalize 65536 / n = q at *
            refine told_of_ev (fn := place_New_fn) tabOk mixed (by kernel_rfl) (by kernel_rfl) (by kernel_rfl) (by kernel_rfl) ?_
            (refine gw ?_; refine IfB.ff (by simp; omega) ?_)
            (refine gw ?_; refine IfB.ff (by simp; omega) ?_)
            (refine gw ?_)
            rw [hand]
            (refine gw ?_; refine Choice.mk ⟨false, Choice.mk ⟨false, _, _, c1, ?_⟩⟩)
            (refine gw ?_)
            rw [hl]
            (refine gw ?_; refine IfB.ff (by simp; omega) ?_)
            (refine gw ?_)
            rw [hdv]
            (refine gw ?_; refine IfB.tt (by simp; omega) ?_)
            (refine gw ?_)
            exact RetN.fz ⟨[true], [], rfl, rfl, rfl⟩
        · rw [if_neg h4] at hl
          obtain ⟨e1, e2⟩ := no fun h => h4 h.2.1
          rw [e1, e2]
          refine told_of_ev (fn := place_New_fn) tabOk mixed (by kernel_rfl) (by kernel_rfl) (by kernel_rfl) (by kernel_rfl) ?_
          (refine gw ?_; refine IfB.ff (by simp; omega) ?_)
          (refine gw ?_; refine IfB.ff (by simp; omega) ?_)
          (refine gw ?_)
          rw [hand]
          (refine gw ?_; refine Choice.mk ⟨false, Choice.mk ⟨false, _, _, c1, ?_⟩⟩)
          (refine gw ?_)
          rw [hl]
          (refine gw ?_)
          exact RetN.fz ⟨[true], [], rfl, rfl, rfl⟩
      · have hr : n &&& (n - 1) ≠ 0 := fun e => h3 (hbit.1 e)
        obtain ⟨e1, e2⟩ := no fun h => h3 h.1.2.2
        rw [e1, e2]
        generalize n &&& (n - 1) = r at *
        refine told_of_ev (fn := place_New_fn) tabOk mixed (by kernel_rfl) (by kernel_rfl) (by kernel_rfl) (by kernel_rfl) ?_
        (refine gw ?_; refine IfB.ff (by simp; omega) ?_)
        (refine gw ?_; refine IfB.ff (by simp; omega) ?_)
        (refine gw ?_)
        rw [hand]
        (refine gw ?_; refine IfB.tt (by simp; omega) ?_)
        (refine gw ?_)
        exact RetN.fz ⟨[true], [], rfl, rfl, rfl⟩
end Go.Ev.W
namespace Go.Ev.W
open Go.Ev Go.Ev.N

/-- The least power of two that is not below a number. -/
def upN (v : Nat) : Nat := if v ≤ 1 then 1 else 2 ^ (Nat.log2 (v - 1) + 1)
theorem upN_pow (v : Nat) : ∃ k, upN v = 2 ^ k := by
  unfold upN; split
  · exact ⟨0, rfl⟩
  · exact ⟨_, rfl⟩
theorem le_upN (v : Nat) : v ≤ upN v := by
  unfold upN; split
  · assumption
  · have := Nat.lt_log2_self (n := v - 1); omega
theorem upN_le {v k : Nat} (h : v ≤ 2 ^ k) : upN v ≤ 2 ^ k := by
  unfold upN; split
  · exact Nat.one_le_two_pow
  · refine Nat.pow_le_pow_right (by omega) ?_
    rw [Nat.succ_le_iff, Nat.log2_lt (by omega)]
    omega
theorem upN_lt {v : Nat} (h : 1 ≤ v) : upN v < 2 * v := by
  unfold upN; split
  · omega
  · have := Nat.log2_self_le (n := v - 1) (by omega)
    rw [Nat.pow_succ]; omega
theorem upN_pos (v : Nat) : 1 ≤ upN v := by obtain ⟨k, h⟩ := upN_pow v; rw [h]; exact Nat.one_le_two_pow
theorem pow_lt_dbl {j k : Nat} (h : 2 ^ j < 2 ^ k) : 2 ^ j * 2 ≤ 2 ^ k := by
  have : j < k := (Nat.pow_lt_pow_iff_right (by omega)).1 h
  rw [← Nat.pow_succ]; exact Nat.pow_le_pow_right (by omega) this

theorem refUp_told (v : Nat) (h1 : 1 ≤ v) (h2 : v ≤ 1000000) : Told P T ref1_Up [] [i64 v] (.tup [i64 (upN v : Nat), .bool true]) [] := by
  have hu := upN_lt h1
  refine told_of_ev (fn := ref1_Up_fn) tabOk mixed (by kernel_rfl) (by kernel_rfl) (by kernel_rfl) (by kernel_rfl) ?_
  (refine gw ?_; first | refine IfB.dec (fun h3 => ?_) (fun h3 => ?_) | refine IfB.eq (fun h3 => ?_) (fun h3 => ?_) | refine IfB.ne (fun h3 => ?_) (fun h3 => ?_) | refine IfB.mk (fun h3 => ?_) (fun h3 => ?_))
  · omega
  · (refine gw ?_; first | refine IfB.dec (fun h4 => ?_) (fun h4 => ?_) | refine IfB.eq (fun h4 => ?_) (fun h4 => ?_) | refine IfB.ne (fun h4 => ?_) (fun h4 => ?_) | refine IfB.mk (fun h4 => ?_) (fun h4 => ?_))
    · omega
    · (refine gw ?_; refine LoopN.mk ⟨[0,4], fun vs L => ∃ j : Nat, vs = [i64 v, i64 (2 ^ j : Nat)] ∧ L = [] ∧ 2 ^ j ≤ upN v, fun vs L => match vs with | [_, .int _ i] => 4000000 - i.toNat | _ => 0, [], [], rfl, ⟨0, rfl, rfl, upN_pos v⟩, ?_⟩)
      rintro vs L ⟨j, rfl, rfl, hj⟩
      obtain ⟨p, hp⟩ : ∃ p, 2 ^ j = p := ⟨_, rfl⟩
      obtain ⟨k, hk⟩ := upN_pow v
      have hle := le_upN v
      (refine gw ?_; first | refine IfB.dec (fun h5 => ?_) (fun h5 => ?_) | refine IfB.eq (fun h5 => ?_) (fun h5 => ?_) | refine IfB.ne (fun h5 => ?_) (fun h5 => ?_) | refine IfB.mk (fun h5 => ?_) (fun h5 => ?_))
      · have hd : 2 ^ j * 2 ≤ upN v := by rw [hk]; exact pow_lt_dbl (by omega)
        have e : ((2 ^ (j + 1) : Nat) : Int) = ((2 ^ j : Nat) : Int) * 2 := by rw [Nat.pow_succ]; omega
        rw [hp] at hd e ⊢
        have hpos : 1 ≤ p := by rw [← hp]; exact Nat.one_le_two_pow
        (refine gw ?_; refine ⟨[], [], rfl, ⟨j + 1, by rw [e]; rfl, rfl, by rw [Nat.pow_succ, hp]; exact hd⟩, (by omega : 4000000 - ((p : Int) * 2).toNat < 4000000 - (p : Int).toNat)⟩)
      · have e : upN v = 2 ^ j := by
          have := upN_le (v := v) (k := j) (by omega)
          omega
        rw [e]
        (refine gw ?_; exact RetN.mk ⟨[], rfl, rfl, rfl⟩)

/-- Which power of two. -/
def logF (v : Int) : Nat × Bool := if 1 ≤ v ∧ v = ((2 ^ Nat.log2 v.toNat : Nat) : Int) then (Nat.log2 v.toNat, true) else (0, false)
theorem logF_pow (k : Nat) : logF ((2 ^ k : Nat) : Int) = (k, true) := by
  have h := Nat.one_le_two_pow (n := k)
  have hl := Nat.log2_two_pow (n := k)
  unfold logF
  obtain ⟨q, hq⟩ : ∃ q, 2 ^ k = q := ⟨_, rfl⟩
  rw [hq] at h hl ⊢
  rw [Int.toNat_natCast, hl, hq, if_pos ⟨by omega, rfl⟩]
theorem refLog_told (v : Int) (h2 : v ≤ 9223372036854775807) : Told P T ref1_Log [] [i64 v] (.tup [i64 ((logF v).1 : Nat), .bool (logF v).2]) [] := by
  refine told_of_ev (fn := ref1_Log_fn) tabOk mixed (by kernel_rfl) (by kernel_rfl) (by kernel_rfl) (by kernel_rfl) ?_
  (refine gw ?_; refine LoopN.mk ⟨[0,4,5], fun vs L => ∃ j : Nat, vs = [i64 v, i64 (2 ^ (min j 62) : Nat), i64 j] ∧ L = [] ∧ j ≤ 63 ∧ ∀ i, i < j → v ≠ ((2 ^ i : Nat) : Int), fun vs L => match vs with | [_, _, .int _ i] => 63 - i.toNat | _ => 0, [], [], rfl, ⟨0, rfl, rfl, by omega, fun i h => by omega⟩, ?_⟩)
  rintro vs L ⟨j, rfl, rfl, hj, hn⟩
  (refine gw ?_; first | refine IfB.dec (fun h1 => ?_) (fun h1 => ?_) | refine IfB.eq (fun h1 => ?_) (fun h1 => ?_) | refine IfB.ne (fun h1 => ?_) (fun h1 => ?_) | refine IfB.mk (fun h1 => ?_) (fun h1 => ?_))
  · have hj2 : j < 63 := by omega
    have em : min j 62 = j := by omega
    rw [em]
    (refine gw ?_; first | refine IfB.dec (fun h2 => ?_) (fun h2 => ?_) | refine IfB.eq (fun h2 => ?_) (fun h2 => ?_) | refine IfB.ne (fun h2 => ?_) (fun h2 => ?_) | refine IfB.mk (fun h2 => ?_) (fun h2 => ?_))
    · have e := logF_pow j
      rw [h2] at e
      rw [e]
      (refine gw ?_; exact RetN.mk ⟨[], rfl, rfl, rfl⟩)
    · have hn' : ∀ i, i < j + 1 → v ≠ ((2 ^ i : Nat) : Int) := fun i hi => by
        rcases Nat.lt_or_ge i j with h | h
        · exact hn i h
        · rw [show i = j by omega]; exact fun h => h2 h.symm
      (refine gw ?_; first | refine IfB.dec (fun h3 => ?_) (fun h3 => ?_) | refine IfB.eq (fun h3 => ?_) (fun h3 => ?_) | refine IfB.ne (fun h3 => ?_) (fun h3 => ?_) | refine IfB.mk (fun h3 => ?_) (fun h3 => ?_))
      · have hp : 2 ^ (j + 1) ≤ 2 ^ 62 := Nat.pow_le_pow_right (by omega) (by omega)
        have e : ((2 ^ (min (j + 1) 62) : Nat) : Int) = ((2 ^ j : Nat) : Int) * 2 := by rw [show min (j + 1) 62 = j + 1 by omega, Nat.pow_succ]; omega
        rw [Nat.pow_succ] at hp
        have hpos : 0 < 2 ^ j := Nat.two_pow_pos j
        generalize 2 ^ j = q at hp e hpos ⊢
        (refine gw ?_; refine ⟨[], [], rfl, ⟨j + 1, by rw [e]; rfl, rfl, by omega, hn'⟩, (by omega : 63 - ((j : Int) + 1).toNat < 63 - (j : Int).toNat)⟩)
      · have e : j = 62 := by omega
        subst e
        (refine gw ?_; refine ⟨[], [], rfl, ⟨63, rfl, rfl, by omega, hn'⟩, (by omega : 63 - (((62 : Nat) : Int) + 1).toNat < 63 - ((62 : Nat) : Int).toNat)⟩)
  · have e : logF v = (0, false) := by
      unfold logF
      rw [if_neg]
      rintro ⟨h3, h4⟩
      refine hn (Nat.log2 v.toNat) ?_ h4
      rw [Nat.log2_lt (by omega)]
      have : v.toNat ≤ 9223372036854775807 := by omega
      have e63 : (2 : Nat) ^ j ≥ 2 ^ 63 := Nat.pow_le_pow_right (by omega) (by omega)
      omega
    rw [e]
    (refine gw ?_; exact RetN.mk ⟨[], rfl, rfl, rfl⟩)

/-- What there is. -/
structure Cf where
  G : Nat
  N : Nat
  M : Nat
  L : Nat
  Pg : Nat
  P : Nat
  H : Nat
  Sd : Nat
  deriving DecidableEq
def eC (c : Cf) : AV := .agg [i64 c.G, i64 c.N, i64 c.M, i64 c.L, i64 c.Pg, i64 c.P, i64 c.H, i64 c.Sd]
/-- What is asked for. -/
structure Rw where
  g : Int
  l : Int
  m : Int
  p : Int
  b : Int
  s : Int
  deriving DecidableEq
def eR (r : Rw) : AV := .agg [i64 r.g, i64 r.l, i64 r.m, i64 r.p, i64 r.b, i64 r.s]
def cf0 : Cf := ⟨0, 0, 0, 0, 0, 0, 0, 0⟩
def inR (v : Int) : Bool := decide (1 ≤ v ∧ v ≤ 65536)
def Rw.ok (r : Rw) : Bool := inR r.g && inR r.l && inR r.m && inR r.p && decide (0 ≤ r.b ∧ r.b ≤ 65536) && decide (0 ≤ r.s ∧ r.s ≤ 255)
def rnd (v t : Nat) : Nat := if v % t = 0 then v else v - v % t + t
def cfOf (r : Rw) : Cf :=
  let g := upN r.g.toNat
  let n := upN (max r.l.toNat g)
  let pg := upN (max r.p.toNat g)
  let m := rnd r.m.toNat (2 * max n pg)
  let l := Nat.log2 (n / g)
  ⟨g, n, m, l, pg, r.b.toNat, m + l * (m / 2), r.s.toNat⟩
def ofF (r : Rw) : Cf × Nat := if r.ok = true ∧ (cfOf r).H ≤ 65536 then (cfOf r, 0) else (cf0, 1)

theorem refAdd_told (a b : Int) (ha : 0 ≤ a) (hb : 1 ≤ b) (hab : a + b ≤ 9223372036854775807) : Told P T ref1_Add [] [i64 a, i64 b] (.tup [i64 (a + b), .bool true]) [] := by
  refine told_of_ev (fn := ref1_Add_fn) tabOk mixed (by kernel_rfl) (by kernel_rfl) (by kernel_rfl) (by kernel_rfl) ?_
  repeat' ((conv => whnf); first | (refine Sure.mk (by kernel_rfl) ?_) | (refine IfB.tt rfl ?_) | (refine IfB.ff rfl ?_) | (refine IfB.tt ?_ ?_; (focus (simp <;> fail))) | (refine IfB.ff ?_ ?_; (focus (simp <;> fail))) | (refine fits (wrap64 ?_ ?_) ?_; (focus omega); (focus omega)) | (refine fits (wrapU64 ?_ ?_) ?_; (focus omega); (focus omega)) | (refine Need.mk ?_ ?_; (focus omega)) | (refine InB.mk ?_ ?_ ?_; (focus omega); (focus omega)) | (refine IfB.dec (fun h => ?_) (fun h => ?_)) | (refine IfB.eq (fun h => ?_) (fun h => ?_)) | (refine IfB.ne (fun h => ?_) (fun h => ?_)))
  all_goals first | omega | (refine gw ?_; exact RetN.mk ⟨[], rfl, rfl, rfl⟩)
theorem refRound_told (v t : Nat) (hv : v ≤ 1000000) (h1 : 1 ≤ t) (h2 : t ≤ 1000000) : Told P T ref1_Round [] [i64 v, i64 t] (.tup [i64 (rnd v t : Nat), .bool true]) [] := by
  have em : ((v : Nat) : Int).tmod (t : Nat) = ((v % t : Nat) : Int) := by rw [Int.tmod_eq_emod_of_nonneg (by omega)]; omega
  have hm := Nat.mod_lt v h1
  have hd := Nat.mod_le v t
  refine told_of_ev (fn := ref1_Round_fn) tabOk mixed (by kernel_rfl) (by kernel_rfl) (by kernel_rfl) (by kernel_rfl) ?_
  (refine gw ?_; first | refine IfB.dec (fun h4 => ?_) (fun h4 => ?_) | refine IfB.eq (fun h4 => ?_) (fun h4 => ?_) | refine IfB.ne (fun h4 => ?_) (fun h4 => ?_) | refine IfB.mk (fun h4 => ?_) (fun h4 => ?_))
  · omega
  · refine gw ?_
    rw [em]
    (refine gw ?_; first | refine IfB.dec (fun h5 => ?_) (fun h5 => ?_) | refine IfB.eq (fun h5 => ?_) (fun h5 => ?_) | refine IfB.ne (fun h5 => ?_) (fun h5 => ?_) | refine IfB.mk (fun h5 => ?_) (fun h5 => ?_))
    · have e : rnd v t = v := by unfold rnd; rw [if_pos (by omega)]
      rw [e]
      (refine gw ?_; exact RetN.mk ⟨[], rfl, rfl, rfl⟩)
    · have e : rnd v t = v - v % t + t := by unfold rnd; rw [if_neg (by omega)]
      have c := refAdd_told ((v : Int) - ((v % t : Nat) : Int)) t (by omega) (by omega) (by omega)
      have e2 : ((v - v % t + t : Nat) : Int) = (v : Int) - ((v % t : Nat) : Int) + t := by omega
      rw [e, e2]
      refine gw ?_
      rw [em]
      refine gw ?_
      (refine gw ?_; refine Choice.mk ⟨false, Choice.mk ⟨true, _, _, c, ?_⟩⟩)
      (refine gw ?_; exact RetN.mk ⟨[], rfl, rfl, rfl⟩)

/-- What holds of what there is. -/
structure Cf.Ok (c : Cf) : Prop where
  g : ∃ a, c.G = 2 ^ a
  n : c.N = c.G * 2 ^ c.L
  p : ∃ e, c.Pg = c.G * 2 ^ e
  m : ∃ q, c.M = 2 * max c.N c.Pg * q
  m1 : 1 ≤ c.M
  h : c.H = c.M + c.L * (c.M / 2)
  h2 : c.H ≤ 65536
  b : c.P ≤ 65536
  s : c.Sd ≤ 255
theorem pow_up {g v : Nat} (hg : ∃ a, g = 2 ^ a) : ∃ e, upN (max v g) = g * 2 ^ e := by
  obtain ⟨a, rfl⟩ := hg
  obtain ⟨b, hb⟩ := upN_pow (max v (2 ^ a))
  have h1 := le_upN (max v (2 ^ a))
  rw [hb] at h1 ⊢
  have : a ≤ b := (Nat.pow_le_pow_iff_right (a := 2) (by omega)).1 (Nat.le_trans (Nat.le_max_right _ _) h1)
  exact ⟨b - a, by rw [← Nat.pow_add]; congr 1; omega⟩
theorem rnd_spec {v t : Nat} (h : 1 ≤ t) : ∃ q, rnd v t = t * q ∧ v ≤ rnd v t ∧ rnd v t < v + t := by
  have h1 := Nat.div_add_mod v t
  have h2 := Nat.mod_lt v h
  unfold rnd
  split
  · exact ⟨v / t, by omega, by omega, by omega⟩
  · refine ⟨v / t + 1, ?_, by omega, by omega⟩
    rw [Nat.mul_add]; omega
theorem log_of {G N k : Nat} (hg : 1 ≤ G) (h : N = G * 2 ^ k) : Nat.log2 (N / G) = k := by
  rw [h, Nat.mul_div_cancel_left _ (by omega), Nat.log2_two_pow]
theorem ofF_ok {r : Rw} (h : (ofF r).2 = 0) : (ofF r).1.Ok ∧ r.ok = true ∧ (ofF r).1 = cfOf r := by
  unfold ofF at h ⊢
  split at h
  · rename_i hh
    rw [if_pos hh]
    obtain ⟨hr, hH⟩ := hh
    refine ⟨?_, hr, rfl⟩
    simp only [Rw.ok, inR, Bool.and_eq_true, decide_eq_true_eq] at hr
    obtain ⟨⟨⟨⟨⟨r1, r2⟩, r3⟩, r4⟩, r5⟩, r6⟩ := hr
    have g := upN_pow r.g.toNat
    obtain ⟨k, hk⟩ := pow_up (v := r.l.toNat) g
    obtain ⟨e, he⟩ := pow_up (v := r.p.toNat) g
    have hg1 := upN_pos r.g.toNat
    have hn1 := upN_pos (max r.l.toNat (upN r.g.toNat))
    have hlog := log_of hg1 hk
    obtain ⟨q, q1, q2, q3⟩ := rnd_spec (v := r.m.toNat) (t := 2 * max (upN (max r.l.toNat (upN r.g.toNat))) (upN (max r.p.toNat (upN r.g.toNat)))) (by omega)
    exact ⟨g, by show upN _ = upN _ * 2 ^ Nat.log2 _; rw [hlog]; exact hk, ⟨e, he⟩, ⟨q, q1⟩, by show 1 ≤ rnd _ _; omega, rfl, hH, by show r.b.toNat ≤ _; omega, by show r.s.toNat ≤ _; omega⟩
  · cases h

set_option maxHeartbeats 2000000 in
theorem refOf_told (r : Rw) : Told P T ref1_Of [] [eR r] (.tup [eC (ofF r).1, i64 ((ofF r).2 : Nat)]) [] := by
  have bad : r.ok = false → ofF r = (cf0, 1) := fun h => by unfold ofF; rw [if_neg (by rw [h]; simp)]
  obtain ⟨g, l, m, p, b, s⟩ := r
  refine told_of_ev (fn := ref1_Of_fn) tabOk mixed (by kernel_rfl) (by kernel_rfl) (by kernel_rfl) (by kernel_rfl) ?_
  (refine gw ?_; refine LoopN.mk ⟨[1,2,4,5], fun vs L => ∃ i : Nat, vs = [.ptr 0 0 0, .ptr 1 0 0, .lst t_int ([g, l, m, p].map i64), i64 i] ∧ L = [.var (.agg [i64 g, i64 l, i64 m, i64 p, i64 b, i64 s]), .var (eC cf0)] ∧ i ≤ 4 ∧ ∀ j (h : j < [g, l, m, p].length), j < i → inR ([g, l, m, p][j]) = true, fun vs L => match vs with | [_, _, _, .int _ i] => 4 - i.toNat | _ => 0, [4], [0,1], rfl, ⟨0, rfl, rfl, by omega, fun j _ h => by omega⟩, ?_⟩)
  rintro vs L ⟨i, rfl, rfl, hi, hin⟩
  (refine gw ?_; first | refine IfB.dec (fun h1 => ?_) (fun h1 => ?_) | refine IfB.eq (fun h1 => ?_) (fun h1 => ?_) | refine IfB.ne (fun h1 => ?_) (fun h1 => ?_) | refine IfB.mk (fun h1 => ?_) (fun h1 => ?_))
  · have hlt : i < [g, l, m, p].length := by simp; omega
    obtain ⟨x, hx⟩ : ∃ x, [g, l, m, p][i] = x := ⟨_, rfl⟩
    have hbad : inR x = false → ofF ⟨g, l, m, p, b, s⟩ = (cf0, 1) := fun h => bad (by
      have : ∃ y ∈ [g, l, m, p], inR y = false := ⟨x, by rw [← hx]; exact List.getElem_mem _, h⟩
      simp only [List.mem_cons, List.not_mem_nil, or_false] at this
      obtain ⟨y, hy, h⟩ := this
      unfold Rw.ok
      rcases hy with rfl | rfl | rfl | rfl <;> simp [h])
    (refine gw ?_; refine idx_map (hlt) ?_)
    rw [hx]
    (refine gw ?_; first | refine IfB.dec (fun h2 => ?_) (fun h2 => ?_) | refine IfB.eq (fun h2 => ?_) (fun h2 => ?_) | refine IfB.ne (fun h2 => ?_) (fun h2 => ?_) | refine IfB.mk (fun h2 => ?_) (fun h2 => ?_))
    · rw [hbad (by simp [inR]; omega)]
      (refine gw ?_; exact RetN.mk ⟨[], rfl, rfl, rfl⟩)
    · (refine gw ?_; refine idx_map (hlt) ?_)
      rw [hx]
      (refine gw ?_; first | refine IfB.dec (fun h3 => ?_) (fun h3 => ?_) | refine IfB.eq (fun h3 => ?_) (fun h3 => ?_) | refine IfB.ne (fun h3 => ?_) (fun h3 => ?_) | refine IfB.mk (fun h3 => ?_) (fun h3 => ?_))
      · rw [hbad (by simp [inR]; omega)]
        (refine gw ?_; exact RetN.mk ⟨[], rfl, rfl, rfl⟩)
      · have hx' : inR x = true := by simp [inR]; omega
        (refine gw ?_; refine ⟨[4], [0,1], rfl, ⟨i + 1, rfl, rfl, by omega, fun j h hj => ?_⟩, (by omega : 4 - ((i : Int) + 1).toNat < 4 - (i : Int).toNat)⟩)
        rcases Nat.lt_or_ge j i with h' | h'
        · exact hin j h h'
        · have : j = i := by omega
          subst this; rw [hx]; exact hx'
  · have e4 : i = 4 := by omega
    subst e4
    have i1 := hin 0 (by simp) (by omega)
    have i2 := hin 1 (by simp) (by omega)
    have i3 := hin 2 (by simp) (by omega)
    have i4 := hin 3 (by simp) (by omega)
    simp only [List.getElem_cons_zero, List.getElem_cons_succ] at i1 i2 i3 i4
    simp only [inR, decide_eq_true_eq] at i1 i2 i3 i4
    have hr : (Rw.ok ⟨g, l, m, p, b, s⟩) = (decide (0 ≤ b ∧ b ≤ 65536) && decide (0 ≤ s ∧ s ≤ 255)) := by simp [Rw.ok, inR, i1, i2, i3, i4]
    (refine gw ?_; first | refine IfB.dec (fun h2 => ?_) (fun h2 => ?_) | refine IfB.eq (fun h2 => ?_) (fun h2 => ?_) | refine IfB.ne (fun h2 => ?_) (fun h2 => ?_) | refine IfB.mk (fun h2 => ?_) (fun h2 => ?_))
    · rw [bad (by rw [hr]; simp; omega)]
      (refine gw ?_; exact RetN.mk ⟨[], rfl, rfl, rfl⟩)
    · (refine gw ?_; first | refine IfB.dec (fun h3 => ?_) (fun h3 => ?_) | refine IfB.eq (fun h3 => ?_) (fun h3 => ?_) | refine IfB.ne (fun h3 => ?_) (fun h3 => ?_) | refine IfB.mk (fun h3 => ?_) (fun h3 => ?_))
      · rw [bad (by rw [hr]; simp; omega)]
        (refine gw ?_; exact RetN.mk ⟨[], rfl, rfl, rfl⟩)
      · (refine gw ?_; first | refine IfB.dec (fun h4 => ?_) (fun h4 => ?_) | refine IfB.eq (fun h4 => ?_) (fun h4 => ?_) | refine IfB.ne (fun h4 => ?_) (fun h4 => ?_) | refine IfB.mk (fun h4 => ?_) (fun h4 => ?_))
        · rw [bad (by rw [hr]; simp; omega)]
          (refine gw ?_; exact RetN.mk ⟨[], rfl, rfl, rfl⟩)
        · (refine gw ?_; first | refine IfB.dec (fun h5 => ?_) (fun h5 => ?_) | refine IfB.eq (fun h5 => ?_) (fun h5 => ?_) | refine IfB.ne (fun h5 => ?_) (fun h5 => ?_) | refine IfB.mk (fun h5 => ?_) (fun h5 => ?_))
          · rw [bad (by rw [hr]; simp; omega)]
            (refine gw ?_; exact RetN.mk ⟨[], rfl, rfl, rfl⟩)
          · have hok : Rw.ok ⟨g, l, m, p, b, s⟩ = true := by rw [hr]; simp; omega
            obtain ⟨G, hG⟩ : ∃ G, upN g.toNat = G := ⟨_, rfl⟩
            obtain ⟨N, hN⟩ : ∃ N, upN (max l.toNat G) = N := ⟨_, rfl⟩
            obtain ⟨Pg, hPg⟩ : ∃ Pg, upN (max p.toNat G) = Pg := ⟨_, rfl⟩
            obtain ⟨M, hM⟩ : ∃ M, rnd m.toNat (2 * max N Pg) = M := ⟨_, rfl⟩
            obtain ⟨K, hK⟩ : ∃ K, Nat.log2 (N / G) = K := ⟨_, rfl⟩
            have hcf : cfOf ⟨g, l, m, p, b, s⟩ = ⟨G, N, M, K, Pg, b.toNat, M + K * (M / 2), s.toNat⟩ := by
              unfold cfOf; simp only [hG, hN, hPg, hM, hK]
            have bG := upN_lt (v := g.toNat) (by omega)
            have bG0 := upN_pos g.toNat
            rw [hG] at bG bG0
            have bN := upN_lt (v := max l.toNat G) (by omega)
            rw [hN] at bN
            have bN0 := le_upN (max l.toNat G)
            rw [hN] at bN0
            have bP := upN_lt (v := max p.toNat G) (by omega)
            rw [hPg] at bP
            have c1 := refUp_told g.toNat (by omega) (by omega)
            rw [hG, show ((g.toNat : Nat) : Int) = g by omega] at c1
            have c2 := refUp_told (max l.toNat G) (by omega) (by omega)
            rw [hN, show ((max l.toNat G : Nat) : Int) = (if ((G : Nat) : Int) > l then ((G : Nat) : Int) else l) by split <;> omega] at c2
            have c3 := refUp_told (max p.toNat G) (by omega) (by omega)
            rw [hPg, show ((max p.toNat G : Nat) : Int) = (if ((G : Nat) : Int) > p then ((G : Nat) : Int) else p) by split <;> omega] at c3
            have c4 := refRound_told m.toNat (2 * max N Pg) (by omega) (by omega) (by omega)
            rw [hM, show ((2 * max N Pg : Nat) : Int) = 2 * (if ((Pg : Nat) : Int) > ((N : Nat) : Int) then ((Pg : Nat) : Int) else ((N : Nat) : Int)) by split <;> omega, show ((m.toNat : Nat) : Int) = m by omega] at c4
            obtain ⟨q, q1, q2, q3⟩ := rnd_spec (v := m.toNat) (t := 2 * max N Pg) (by omega)
            rw [hM] at q1 q2 q3
            obtain ⟨k0, hk0⟩ := pow_up (v := l.toNat) (hG ▸ upN_pow g.toNat)
            rw [hN] at hk0
            have hK0 : K = k0 := by rw [← hK]; exact log_of bG0 hk0
            have c5 := refLog_told ((N / G : Nat) : Int) (by have := Nat.div_le_self N G; omega)
            have e5 : N / G = 2 ^ K := by rw [hk0, hK0, Nat.mul_div_cancel_left _ (by omega)]
            rw [e5, logF_pow, ← e5, show ((N / G : Nat) : Int) = ((N : Nat) : Int).tdiv ((G : Nat) : Int) by rw [Int.tdiv_eq_ediv_of_nonneg (by omega)]; omega] at c5
            have bK : K < 20 := by
              have h6 : 2 ^ K ≤ 2 ^ 18 := by rw [← e5]; have := Nat.div_le_self N G; omega
              have := (Nat.pow_le_pow_iff_right (a := 2) (by omega)).1 h6
              omega
            have bKM : K * (M / 2) ≤ 20 * (M / 2) := Nat.mul_le_mul_right _ (by omega)
            have hM2 : ((M : Nat) : Int).tdiv 2 = ((M / 2 : Nat) : Int) := by rw [Int.tdiv_eq_ediv_of_nonneg (by omega)]; omega
            have hKM : ((K : Nat) : Int) * ((M / 2 : Nat) : Int) = ((K * (M / 2) : Nat) : Int) := by rw [Int.natCast_mul]
            (refine gw ?_; refine Choice.mk ⟨false, Choice.mk ⟨false, _, _, c1, ?_⟩⟩)
            (refine gw ?_; refine Choice.mk ⟨false, Choice.mk ⟨false, _, _, c2, ?_⟩⟩)
            (refine gw ?_; refine Choice.mk ⟨false, Choice.mk ⟨false, _, _, c3, ?_⟩⟩)
            (refine gw ?_; refine Choice.mk ⟨false, Choice.mk ⟨false, _, _, c4, ?_⟩⟩)
            have hdiv : ((N : Nat) : Int).tdiv ((G : Nat) : Int) = ((N / G : Nat) : Int) := by rw [Int.tdiv_eq_ediv_of_nonneg (by omega)]; omega
            have hdle := Nat.div_le_self N G
            have hd0 : (0 : Int) ≤ ((N / G : Nat) : Int) := Int.natCast_nonneg _
            (refine gw ?_)
            (refine gw ?_; refine Choice.mk ⟨false, Choice.mk ⟨true, _, _, c5, ?_⟩⟩)
            (refine gw ?_)
            rw [hM2]
            (refine gw ?_)
            rw [hKM]
            (refine gw ?_)
            have hH : (M : Int) + ((K * (M / 2) : Nat) : Int) = ((M + K * (M / 2) : Nat) : Int) := by omega
            rw [hH]
            (refine gw ?_; first | refine IfB.dec (fun h6 => ?_) (fun h6 => ?_) | refine IfB.eq (fun h6 => ?_) (fun h6 => ?_) | refine IfB.ne (fun h6 => ?_) (fun h6 => ?_) | refine IfB.mk (fun h6 => ?_) (fun h6 => ?_))
            · rw [show ofF ⟨g, l, m, p, b, s⟩ = (cf0, 1) by unfold ofF; rw [if_neg (by rw [hcf]; simp only; omega)]]
              (refine gw ?_; exact RetN.mk ⟨[], rfl, rfl, rfl⟩)
            · rw [show ofF ⟨g, l, m, p, b, s⟩ = (cfOf ⟨g, l, m, p, b, s⟩, 0) by unfold ofF; rw [if_pos ⟨hok, by rw [hcf]; simp only; omega⟩], hcf]
              (refine gw ?_; refine RetN.mk ⟨[], rfl, ?_, rfl⟩)
              rw [show b = ((b.toNat : Nat) : Int) by omega, show s = ((s.toNat : Nat) : Int) by omega]
              rfl

theorem Cf.Ok.gpos {c : Cf} (h : c.Ok) : 1 ≤ c.G := by obtain ⟨a, e⟩ := h.g; rw [e]; exact Nat.one_le_two_pow
theorem Cf.Ok.nM {c : Cf} (h : c.Ok) : 2 * c.N ≤ c.M := by
  obtain ⟨q, e⟩ := h.m
  have := h.m1
  cases q with
  | zero => rw [Nat.mul_zero] at e; omega
  | succ q =>
    rw [Nat.mul_succ] at e
    have := Nat.zero_le (2 * max c.N c.Pg * q)
    omega
theorem Cf.Ok.mH {c : Cf} (h : c.Ok) : c.M ≤ 65536 := by have := h.h; have := h.h2; omega
theorem Cf.Ok.lL {c : Cf} (h : c.Ok) : c.L ≤ 16 := by
  have h1 := h.nM
  have h2 := h.mH
  have h3 := h.n
  have h4 := h.gpos
  have h5 : 2 ^ c.L ≤ 2 ^ 15 := by
    have : 1 * 2 ^ c.L ≤ c.G * 2 ^ c.L := Nat.mul_le_mul_right _ h4
    omega
  have := (Nat.pow_le_pow_iff_right (a := 2) (by omega)).1 h5
  omega
end Go.Ev.W
namespace Go.Ev.W
open Go.Ev Go.Ev.N

/-- Numbers and bools of a row, by place. -/
def tabF (n : Nat) (f : Nat → AV) : List AV := (List.range n).map f
theorem tabF_len (n : Nat) (f : Nat → AV) : (tabF n f).length = n := by simp [tabF]
theorem tabF_get {n : Nat} {f : Nat → AV} {k : Nat} (h : k < n) : (tabF n f)[k]? = some (f k) := by simp [tabF, h]
theorem tabF_congr {n : Nat} {f g : Nat → AV} (h : ∀ k, k < n → f k = g k) : tabF n f = tabF n g := List.map_congr_left fun k hk => h k (by simpa using hk)
theorem tabF_set {n : Nat} {f g : Nat → AV} {k : Nat} {v : AV} (h : k < n) (hg : ∀ j, j < n → g j = if j = k then v else f j) : (tabF n f).set k v = tabF n g := by
  apply List.ext_getElem?
  intro j
  rw [List.getElem?_set]
  by_cases hj : j < n
  · rw [tabF_get hj, tabF_get hj, hg j hj]
    by_cases e : k = j
    · subst e; simp [tabF_len, h]
    · simp [e, Ne.symm e]
  · rw [List.getElem?_eq_none (by rw [tabF_len]; omega), List.getElem?_eq_none (by rw [tabF_len]; omega)]
    rw [if_neg (by omega)]
theorem tabF_map {α : Type} (l : List α) (enc : α → AV) (d : α) : l.map enc = tabF l.length fun k => enc (l.getD k d) := by
  apply List.ext_getElem?
  intro j
  by_cases hj : j < l.length
  · rw [tabF_get hj]; simp [hj, List.getD_eq_getElem?_getD]
  · rw [List.getElem?_eq_none (by simp; omega), List.getElem?_eq_none (by rw [tabF_len]; omega)]
theorem tabF_of {α : Type} (n : Nat) (f : Nat → α) (enc : α → AV) : (tabF n fun k => enc (f k)) = ((List.range n).map f).map enc := by simp [tabF]

/-- How much is charged for so much, at a multiple of so much; why not. -/
def chargeF (c : Cf) (s a : Int) : Nat × Nat :=
  if (logF a).2 = false ∨ a > c.N then (0, 3) else if s < 0 ∨ s > c.N then (0, 4) else (upN (max (max s.toNat a.toNat) c.G), 0)
def prodF (c : Cf) (n s : Int) : Nat × Nat :=
  if n < 0 ∨ s < 0 then (0, 2) else if n * s ≤ c.N then ((n * s).toNat, 0) else (0, 4)
def newF (c : Cf) (live s a : Int) : Nat × Nat :=
  if (chargeF c s a).2 ≠ 0 then (0, (chargeF c s a).2) else if live > (c.M : Int) - (chargeF c s a).1 then (0, 5) else ((chargeF c s a).1, 0)
def manyF (c : Cf) (live n s : Int) : Nat × Nat :=
  if (prodF c n s).2 ≠ 0 then (0, (prodF c n s).2) else newF c live (prodF c n s).1 1

/-- A block: where, how much is charged, how much was asked for. -/
structure Bk where
  a : Int
  c : Int
  q : Int
  deriving DecidableEq
def eB (b : Bk) : AV := .agg [i64 b.a, i64 b.c, i64 b.q]
/-- All that there is. -/
structure Mo where
  c : Cf
  bs : List Bk
  live : Int
  peak : Int
  mark : Int
  on : List Bool
  mem : List Nat
  deriving DecidableEq
def lK (l : List Bk) : AV := .lst t_api_Block (l.map eB)
def lT (l : List Bool) : AV := .lst t_bool (l.map .bool)
def lU (l : List Nat) : AV := .lst t_uint8 (l.map u8)
def eM (m : Mo) : AV := .agg [i64 m.c.G, i64 m.c.N, i64 m.c.M, i64 m.c.L, i64 m.c.Pg, i64 m.c.P, i64 m.c.H, i64 m.c.Sd, lK m.bs, i64 m.live, i64 m.peak, i64 m.mark, lT m.on, lU m.mem]
/-- What a call is told. -/
structure An where
  e : Nat
  at' : Int
  n : Int
  b : Nat
  live : Int
  peak : Int
  mark : Int
  pg : Int
  deriving DecidableEq
def eA (x : An) : AV := .agg [i64 x.e, i64 x.at', i64 x.n, .int .u8 (x.b : Int), i64 x.live, i64 x.peak, i64 x.mark, i64 x.pg]
def an0 : An := ⟨0, 0, 0, 0, 0, 0, 0, 0⟩
def anE (e : Nat) : An := ⟨e, 0, 0, 0, 0, 0, 0, 0⟩

def ovr (a n b m : Int) : Bool := decide (a < b + m ∧ b < a + n)
def freeAt (l : List Bk) (n y : Int) : Bool := l.all fun b => !ovr y n b.a b.c
/-- The lowest place of so much. -/
def lowGo (l : List Bk) (n : Nat) : Nat → Nat → Nat × Bool
  | 0, _ => (0, false)
  | f + 1, k => if freeAt l n (k * n : Nat) = true then (k * n, true) else lowGo l n f (k + 1)
def lowF (c : Cf) (l : List Bk) (n : Nat) : Nat × Bool := lowGo l n (c.H / n) 0
def lowB (y : Int) : List Bk → Nat
  | [] => 0
  | x :: l => if x.a ≤ y then lowB y l + 1 else 0
def putB (l : List Bk) (b : Bk) : List Bk := l.take (lowB b.a l) ++ b :: l.drop (lowB b.a l)
def metF (pg size : Nat) (l : List Bk) : List Bool := (List.range (size / pg)).map fun i => l.any fun b => ovr (i * pg : Nat) pg b.a b.c
def cntB (l : List Bool) : Nat := (l.filter id).length
/-- Which pages are there then, which are fresh; none: too many. -/
def commitF (on met : List Bool) (first behind : Nat) (most : Nat) : List Bool × List Nat × Bool :=
  let these := fun i => decide (first ≤ i ∧ i < behind)
  let need := (List.range on.length).map fun i => met.getD i false || these i
  let all := (List.range on.length).map fun i => on.getD i false || these i
  let fresh := (List.range on.length).filter fun i => these i && !on.getD i false
  if cntB need > most then ([], [], false)
  else (if cntB all > most then (List.range on.length).map fun i => all.getD i false && need.getD i false else all, fresh, true)
def trimF (on met : List Bool) : List Bool × Nat :=
  ((List.range on.length).map fun i => on.getD i false && met.getD i false, ((List.range on.length).filter fun i => on.getD i false && !met.getD i false).length)
def byteF (seed page i : Nat) : Nat := (seed % 256 + 31 * (page % 256) + 7 * (i % 256) + 1) % 256
def fillF (mem : List Nat) (seed page size : Nat) : List Nat := (List.range mem.length).map fun i => if i / size = page then byteF seed page (i % size) else mem.getD i 0
def totalB (l : List Bk) : Int := (l.map (·.c)).sum
def placeF (m : Mo) (l : List Bk) (n : Nat) (q : Int) : Mo × Int × Nat :=
  let lo := lowF m.c l n
  if lo.2 = false then (m, 0, 7)
  else
    let co := commitF m.on (metF m.c.Pg m.c.H l) (lo.1 / m.c.Pg) ((lo.1 + n - 1) / m.c.Pg + 1) m.c.P
    if co.2.2 = false then (m, 0, 6)
    else
      let bs := putB l ⟨lo.1, n, q⟩
      ({ m with bs := bs, live := totalB bs, peak := max m.peak (totalB bs), mark := max m.mark (lo.1 + n), on := co.1, mem := co.2.1.foldl (fun mem p => fillF mem m.c.Sd p m.c.Pg) m.mem }, lo.1, 0)
def newM (r : Rw) : Mo × Nat :=
  if (ofF r).2 ≠ 0 then (⟨cf0, [], 0, 0, 0, [], []⟩, (ofF r).2) else (⟨(ofF r).1, [], 0, 0, 0, List.replicate ((ofF r).1.H / (ofF r).1.Pg) false, List.replicate (ofF r).1.H 0⟩, 0)
end Go.Ev.W
namespace Go.Ev.W
open Go.Ev Go.Ev.N

/-- Blocks that lie apart, rising, within so much. -/
structure ApB (H : Nat) (l : List Bk) : Prop where
  p : l.Pairwise fun x y => x.a + x.c ≤ y.a
  b : ∀ x ∈ l, 0 ≤ x.a ∧ 1 ≤ x.c ∧ x.a + x.c ≤ H
theorem ApB.nil (H : Nat) : ApB H [] := ⟨List.Pairwise.nil, by simp⟩
theorem ApB.sub {H : Nat} {l m : List Bk} (h : ApB H l) (hs : m.Sublist l) : ApB H m := ⟨h.p.sublist hs, fun x hx => h.b x (hs.subset hx)⟩
/-- Those ahead of a place, and those behind it. -/
theorem put_split {H : Nat} : ∀ {l : List Bk}, ApB H l → ∀ y : Int, ∃ l1 l2, l = l1 ++ l2 ∧ lowB y l = l1.length ∧ (∀ x ∈ l1, x.a ≤ y) ∧ ∀ x ∈ l2, y < x.a
  | [], _, _ => ⟨[], [], rfl, rfl, by simp, by simp⟩
  | x :: l, h, y => by
    have hl : ApB H l := h.sub (List.sublist_cons_self _ _)
    by_cases hx : x.a ≤ y
    · obtain ⟨l1, l2, rfl, e, h1, h2⟩ := put_split hl y
      exact ⟨x :: l1, l2, rfl, by simp [lowB, hx, e], by simpa [hx] using h1, h2⟩
    · refine ⟨[], x :: l, rfl, by simp [lowB, hx], by simp, fun z hz => ?_⟩
      have := h.b x (by simp)
      rcases List.mem_cons.1 hz with rfl | hz
      · omega
      · have := (List.pairwise_cons.1 h.p).1 z hz; omega
theorem freeAt_iff {l : List Bk} {n y : Int} : freeAt l n y = true ↔ ∀ x ∈ l, ¬ (y < x.a + x.c ∧ x.a < y + n) := by
  simp only [freeAt, List.all_eq_true, Bool.not_eq_true', ovr, decide_eq_false_iff_not]
theorem putB_ok {H : Nat} {l : List Bk} (h : ApB H l) {b : Bk} (hf : freeAt l b.c b.a = true) (hb : 0 ≤ b.a ∧ 1 ≤ b.c ∧ b.a + b.c ≤ H) :
    ApB H (putB l b) ∧ (∀ x, x ∈ putB l b ↔ x = b ∨ x ∈ l) ∧ totalB (putB l b) = totalB l + b.c ∧ (putB l b).length = l.length + 1 := by
  obtain ⟨l1, l2, e, e1, h1, h2⟩ := put_split h b.a
  have e3 : putB l b = l1 ++ b :: l2 := by unfold putB; rw [e1, e, List.take_left, List.drop_left]
  rw [freeAt_iff] at hf
  have hp := h.p
  have hbb := h.b
  rw [e] at hp hbb hf
  rw [List.pairwise_append] at hp
  have g1 : ∀ x ∈ l1, x.a + x.c ≤ b.a := fun x hx => by have := hf x (by simp [hx]); have := h1 x hx; omega
  have g2 : ∀ x ∈ l2, b.a + b.c ≤ x.a := fun x hx => by have := hf x (by simp [hx]); have := h2 x hx; have := hbb x (by simp [hx]); omega
  rw [e3, e]
  refine ⟨⟨?_, fun x hx => ?_⟩, fun x => ?_, ?_, by simp; omega⟩
  · rw [List.pairwise_append, List.pairwise_cons]
    refine ⟨hp.1, ⟨g2, hp.2.1⟩, fun x hx y hy => ?_⟩
    rcases List.mem_cons.1 hy with rfl | hy
    · exact g1 x hx
    · exact hp.2.2 x hx y hy
  · simp only [List.mem_append, List.mem_cons] at hx
    rcases hx with hx | rfl | hx
    · exact hbb x (by simp [hx])
    · exact hb
    · exact hbb x (by simp [hx])
  · simp only [List.mem_append, List.mem_cons]
    constructor
    · rintro (h | h | h)
      · exact .inr (.inl h)
      · exact .inl h
      · exact .inr (.inr h)
    · rintro (h | h | h)
      · exact .inr (.inl h)
      · exact .inl h
      · exact .inr (.inr h)
  · simp only [totalB, List.map_append, List.sum_append, List.map_cons, List.sum_cons]; omega
theorem totalB_nonneg {H : Nat} {l : List Bk} (h : ApB H l) : (l.length : Int) ≤ totalB l := by
  have hb := h.b
  clear h
  induction l with
  | nil => simp [totalB]
  | cons x l ih =>
    have := ih fun y hy => hb y (by simp [hy])
    have := hb x (by simp)
    have e : totalB (x :: l) = x.c + totalB l := by simp only [totalB, List.map_cons, List.sum_cons]
    rw [e, List.length_cons]; omega
theorem lowGo_spec {l : List Bk} {n : Nat} : ∀ (f k : Nat), (lowGo l n f k).2 = true → ∃ j, k ≤ j ∧ j < k + f ∧ (lowGo l n f k).1 = j * n ∧ freeAt l n ((j * n : Nat) : Int) = true ∧ ∀ i, k ≤ i → i < j → freeAt l n ((i * n : Nat) : Int) = false
  | 0, k, h => by simp [lowGo] at h
  | f + 1, k, h => by
    unfold lowGo at h ⊢
    split at h
    · rename_i hf
      rw [if_pos hf]
      exact ⟨k, Nat.le_refl _, by omega, rfl, hf, fun i _ _ => by omega⟩
    · rename_i hf
      rw [if_neg hf]
      obtain ⟨j, h1, h2, h3, h4, h5⟩ := lowGo_spec f (k + 1) h
      refine ⟨j, by omega, by omega, h3, h4, fun i hi hj => ?_⟩
      rcases Nat.lt_or_ge k i with h' | h'
      · exact h5 i h' hj
      · have : i = k := by omega
        subst this; simpa using hf
theorem lowF_spec {c : Cf} {l : List Bk} {n : Nat} (hn : 1 ≤ n) (h : (lowF c l n).2 = true) : ∃ j, (lowF c l n).1 = j * n ∧ j * n + n ≤ c.H ∧ freeAt l n ((lowF c l n).1 : Nat) = true ∧ ∀ i, i < j → freeAt l n ((i * n : Nat) : Int) = false := by
  obtain ⟨j, _, h2, h3, h4, h5⟩ := lowGo_spec (c.H / n) 0 h
  refine ⟨j, h3, ?_, by unfold lowF; rw [h3]; exact h4, fun i hi => h5 i (Nat.zero_le _) hi⟩
  have : (j + 1) * n ≤ c.H / n * n := Nat.mul_le_mul_right _ (by omega)
  have := Nat.div_mul_le_self c.H n
  rw [Nat.succ_mul] at *
  omega
/-- What holds of all that there is. -/
structure MoOk (m : Mo) : Prop where
  c : m.c.Ok
  a : ApB m.c.H m.bs
  z : ∀ x ∈ m.bs, ∃ k, k ≤ m.c.L ∧ x.c = ((m.c.G * 2 ^ k : Nat) : Int) ∧ x.a % x.c = 0 ∧ 0 ≤ x.q ∧ x.q ≤ x.c
  l : m.live = totalB m.bs
  lM : m.live ≤ m.c.M
  p : m.live ≤ m.peak ∧ m.peak ≤ m.c.M
  k : (∀ x ∈ m.bs, x.a + x.c ≤ m.mark) ∧ 0 ≤ m.mark ∧ m.mark ≤ m.c.H
  o : m.on.length = m.c.H / m.c.Pg
  on : cntB m.on ≤ m.c.P
  mm : m.mem.length = m.c.H
  b : IsB m.mem
end Go.Ev.W
namespace Go.Ev.W
open Go.Ev Go.Ev.N

theorem tdiv_rng {w s : Int} (h1 : -9223372036854775808 ≤ w) (h2 : w ≤ 9223372036854775807) (hs : 1 ≤ s) : -9223372036854775808 ≤ w.tdiv s ∧ w.tdiv s ≤ 9223372036854775807 := by
  rcases Int.lt_or_le w 0 with h | h
  · obtain ⟨y, rfl⟩ : ∃ y, w = -y := ⟨-w, by omega⟩
    rw [Int.neg_tdiv, Int.tdiv_eq_ediv_of_nonneg (show 0 ≤ y by omega)]
    have a := Int.ediv_nonneg (show 0 ≤ y by omega) (show 0 ≤ s by omega)
    have b := Int.ediv_le_self s (show 0 ≤ y by omega)
    omega
  · rw [Int.tdiv_eq_ediv_of_nonneg h]
    have a := Int.ediv_nonneg h (show 0 ≤ s by omega)
    have b := Int.ediv_le_self s h
    omega
theorem mul_over {n s : Int} (hn : 0 ≤ n) (hs : 1 ≤ s ∧ s ≤ 9223372036854775807) (h : 9223372036854775808 ≤ n * s) : (IntKind.i64.wrap (n * s)).tdiv s ≠ n := by
  intro e
  have h1 := Int.mul_tdiv_add_tmod (IntKind.i64.wrap (n * s)) s
  rw [e] at h1
  have h2 := Int.tmod_lt_of_pos (IntKind.i64.wrap (n * s)) (show (0 : Int) < s by omega)
  have h3 := Int.lt_tmod_of_pos (IntKind.i64.wrap (n * s)) (show (0 : Int) < s by omega)
  rw [Int.mul_comm s n] at h1
  generalize (IntKind.i64.wrap (n * s)).tmod s = d at *
  rw [IntKind.wrap_i64] at h1
  generalize n * s = p at *
  omega
theorem chargeF_bd {c : Cf} (hc : c.Ok) (s a : Int) : (chargeF c s a).1 ≤ 65536 ∧ ((chargeF c s a).2 = 0 → ∃ k, k ≤ c.L ∧ (chargeF c s a).1 = c.G * 2 ^ k ∧ 0 ≤ s ∧ s ≤ (chargeF c s a).1) := by
  unfold chargeF
  split
  · simp
  · split
    · simp
    · rename_i h1 h2
      simp only [not_or] at h1 h2
      have ha : a ≤ c.N := by omega
      have hN := hc.n
      obtain ⟨g, hg⟩ := hc.g
      have hpN : c.N = 2 ^ (g + c.L) := by rw [hN, hg, Nat.pow_add]
      have hle : upN (max (max s.toNat a.toNat) c.G) ≤ 2 ^ (g + c.L) := by
        refine upN_le ?_
        rw [← hpN]
        have hgN : c.G ≤ c.N := by rw [hN]; exact Nat.le_mul_of_pos_right _ (Nat.two_pow_pos _)
        omega
      have hb := hc.nM
      have hb2 := hc.mH
      refine ⟨by rw [← hpN] at hle; omega, fun _ => ?_⟩
      obtain ⟨e, he⟩ := pow_up (v := max s.toNat a.toNat) hc.g
      refine ⟨e, ?_, he, by omega, ?_⟩
      · rw [he, hg, ← Nat.pow_add] at hle
        have := (Nat.pow_le_pow_iff_right (a := 2) (by omega)).1 hle
        omega
      · have := le_upN (max (max s.toNat a.toNat) c.G)
        show s ≤ ((upN _ : Nat) : Int)
        omega
theorem prodF_bd {c : Cf} (n s : Int) : (prodF c n s).1 ≤ c.N := by
  unfold prodF; split
  · simp
  · split
    · show (n * s).toNat ≤ _; omega
    · simp
end Go.Ev.W
namespace Go.Ev.W
open Go.Ev Go.Ev.N

def findB (l : List Bk) (y : Int) : Option Nat := l.findIdx? fun x => decide (x.a = y)
end Go.Ev.W
namespace Go.Ev.W
open Go.Ev Go.Ev.N

theorem cntB_succ {l : List Bool} {i : Nat} (h : i < l.length) : cntB (l.take (i + 1)) = cntB (l.take i) + if l[i] = true then 1 else 0 := by
  unfold cntB; rw [List.take_succ_eq_append_getElem h, List.filter_append]
  cases l[i] <;> simp
theorem cntB_le (l : List Bool) : cntB l ≤ l.length := List.length_filter_le _ _
end Go.Ev.W
namespace Go.Ev.W
open Go.Ev Go.Ev.N

theorem lT_get {l : List Bool} {i : Nat} (h : i < l.length) : l.getD i false = l[i] := by simp [List.getD_eq_getElem?_getD, h]
def isIn (f b i : Nat) : Bool := decide (f ≤ i ∧ i < b)
def needF (met : List Bool) (f b i : Nat) : Bool := met.getD i false || isIn f b i
def freshL (on : List Bool) (f b i : Nat) : List Nat := (List.range i).filter fun j => isIn f b j && !on.getD j false
theorem freshL_succ (on : List Bool) (f b i : Nat) : freshL on f b (i + 1) = freshL on f b i ++ if (isIn f b i && !on.getD i false) = true then [i] else [] := by
  unfold freshL; rw [List.range_succ, List.filter_append]; simp [List.filter_cons]
theorem freshL_len (on : List Bool) (f b i : Nat) : (freshL on f b i).length ≤ i := by
  unfold freshL
  have := List.length_filter_le (fun j => isIn f b j && !on.getD j false) (List.range i)
  simpa using this
theorem commitF_eq (on met : List Bool) (f b most : Nat) : commitF on met f b most =
    if cntB ((List.range on.length).map (needF met f b)) > most then ([], [], false)
    else (if cntB ((List.range on.length).map (needF on f b)) > most then (List.range on.length).map fun i => needF on f b i && needF met f b i else (List.range on.length).map (needF on f b), freshL on f b on.length, true) := by
  unfold commitF
  simp only
  have e1 : ((List.range on.length).map fun i => met.getD i false || decide (f ≤ i ∧ i < b)) = (List.range on.length).map (needF met f b) := rfl
  have e2 : ((List.range on.length).map fun i => on.getD i false || decide (f ≤ i ∧ i < b)) = (List.range on.length).map (needF on f b) := rfl
  rw [e1, e2]
  have e3 : ((List.range on.length).map fun i => ((List.range on.length).map (needF on f b)).getD i false && ((List.range on.length).map (needF met f b)).getD i false) = (List.range on.length).map fun i => needF on f b i && needF met f b i := by
    refine List.map_congr_left fun i hi => ?_
    have hi : i < on.length := by simpa using hi
    simp [List.getD_eq_getElem?_getD, hi]
  rw [e3]
  rfl
end Go.Ev.W
namespace Go.Ev.W
open Go.Ev Go.Ev.N

theorem totalB_le {H : Nat} : ∀ {l : List Bk} {lo : Int}, (l.Pairwise fun x y => x.a + x.c ≤ y.a) → (∀ x ∈ l, lo ≤ x.a ∧ 1 ≤ x.c ∧ x.a + x.c ≤ H) → lo ≤ H → totalB l ≤ H - lo
  | [], lo, _, _, h => by simp [totalB]; omega
  | x :: l, lo, hp, hb, h => by
    have hx := hb x (by simp)
    rw [List.pairwise_cons] at hp
    have := totalB_le (l := l) (lo := x.a + x.c) hp.2 (fun y hy => ⟨hp.1 y hy, (hb y (by simp [hy])).2⟩) hx.2.2
    have e : totalB (x :: l) = x.c + totalB l := by simp only [totalB, List.map_cons, List.sum_cons]
    rw [e]; omega
theorem ApB.tot {H : Nat} {l : List Bk} (h : ApB H l) : totalB l ≤ H := by
  have := totalB_le (lo := 0) h.p (fun x hx => ⟨(h.b x hx).1, (h.b x hx).2.1, (h.b x hx).2.2⟩) (by omega)
  omega
theorem ApB.len {H : Nat} {l : List Bk} (h : ApB H l) : l.length ≤ H := by have := h.tot; have := totalB_nonneg h; omega
theorem fillF_len (mem : List Nat) (a b c : Nat) : (fillF mem a b c).length = mem.length := by simp [fillF]
theorem fills_len (sd pg : Nat) : ∀ (fs : List Nat) (mem : List Nat), (fs.foldl (fun mem p => fillF mem sd p pg) mem).length = mem.length
  | [], _ => rfl
  | f :: fs, mem => by rw [List.foldl_cons, fills_len sd pg fs, fillF_len]

theorem Cf.Ok.pgH {c : Cf} (h : c.Ok) : ∃ k, c.H = c.Pg * k := by
  obtain ⟨e, he⟩ := h.p
  obtain ⟨q, hq⟩ := h.m
  have hd : ∃ r, max c.N c.Pg = c.Pg * r := by
    rcases Nat.le_total c.N c.Pg with h1 | h1
    · exact ⟨1, by rw [Nat.max_eq_right h1]; omega⟩
    · rw [Nat.max_eq_left h1]
      have hg := h.gpos
      have hn := h.n
      rw [hn, he] at h1 ⊢
      have h2 := Nat.le_of_mul_le_mul_left h1 (by omega)
      have h3 := (Nat.pow_le_pow_iff_right (by omega : 1 < 2)).1 h2
      exact ⟨2 ^ (c.L - e), by rw [Nat.mul_assoc, ← Nat.pow_add]; congr 2; omega⟩
  obtain ⟨r, hr⟩ := hd
  have h1 : c.M / 2 = c.Pg * r * q := by rw [hq, hr, show 2 * (c.Pg * r) * q = 2 * (c.Pg * r * q) by rw [Nat.mul_assoc 2]]; omega
  refine ⟨r * q * 2 + c.L * (r * q), ?_⟩
  rw [h.h, h1, hq, hr, Nat.mul_add]
  have e1 : 2 * (c.Pg * r) * q = c.Pg * (r * q * 2) := by simp only [Nat.mul_assoc, Nat.mul_comm, Nat.mul_left_comm]
  have e2 : c.L * (c.Pg * r * q) = c.Pg * (c.L * (r * q)) := by simp only [Nat.mul_assoc, Nat.mul_comm, Nat.mul_left_comm]
  rw [e1, e2]
theorem Cf.Ok.pgpos {c : Cf} (h : c.Ok) : 1 ≤ c.Pg := by
  obtain ⟨e, he⟩ := h.p
  have := h.gpos
  have := Nat.one_le_two_pow (n := e)
  rw [he]; exact Nat.mul_pos (by omega) (by omega)
theorem Cf.Ok.pages {c : Cf} (h : c.Ok) {y n : Nat} (hn : 1 ≤ n) (hy : y + n ≤ c.H) : y / c.Pg ≤ (y + n - 1) / c.Pg + 1 ∧ (y + n - 1) / c.Pg + 1 ≤ c.H / c.Pg := by
  have hp := h.pgpos
  obtain ⟨k, hk⟩ := h.pgH
  refine ⟨?_, ?_⟩
  · have := Nat.div_le_div_right (c := c.Pg) (show y ≤ y + n - 1 by omega); omega
  · rw [hk, Nat.mul_div_cancel_left _ (by omega)]
    refine Nat.div_lt_of_lt_mul ?_
    rw [← hk]; omega
end Go.Ev.W
namespace Go.Ev.X
open Go.Ev Go.Ev.N

structure O where
  k : Int
  p : Int
  s : Int
  a : Int
  n : Int
  b : Int
  deriving DecidableEq

def encO (o : O) : AV := .agg [.int .i64 o.k, .int .i64 o.p, .int .i64 o.s, .int .i64 o.a, .int .i64 o.n, .int .u8 o.b]

end Go.Ev.X
namespace Go.Ev.W
open Go.Ev Go.Ev.N

def SzB (c : Cf) (x : Bk) : Prop := ∃ k, k ≤ c.L ∧ x.c = ((c.G * 2 ^ k : Nat) : Int) ∧ x.a % x.c = 0 ∧ 0 ≤ x.q ∧ x.q ≤ x.c
theorem cnt_mono {n : Nat} {f g : Nat → Bool} (h : ∀ i, f i = true → g i = true) : cntB ((List.range n).map f) ≤ cntB ((List.range n).map g) := by
  unfold cntB
  rw [List.filter_map, List.filter_map, List.length_map, List.length_map, ← List.countP_eq_length_filter, ← List.countP_eq_length_filter]
  exact List.countP_mono_left fun i _ hi => h i hi
theorem commitF_ok {on met : List Bool} {f b most : Nat} (h : (commitF on met f b most).2.2 = true) : (commitF on met f b most).1.length = on.length ∧ cntB (commitF on met f b most).1 ≤ most := by
  rw [commitF_eq] at h ⊢
  split at h
  · simp at h
  · rename_i h1
    rw [if_neg h1]
    refine ⟨?_, ?_⟩
    · simp only; split <;> simp
    · simp only
      split
      · have := cnt_mono (n := on.length) (f := fun i => needF on f b i && needF met f b i) (g := needF met f b) fun i hi => by rw [Bool.and_eq_true] at hi; exact hi.2
        omega
      · omega
theorem fillF_b {mem : List Nat} (h : IsB mem) (a b c : Nat) : IsB (fillF mem a b c) := fun x hx => by
  obtain ⟨i, hi, rfl⟩ := List.mem_map.1 hx
  split
  · exact Nat.mod_lt _ (by omega)
  · have hi : i < mem.length := by simpa using hi
    rw [List.getD_eq_getElem?_getD, List.getElem?_eq_getElem hi]
    exact h _ (List.getElem_mem hi)
theorem fills_b (sd pg : Nat) : ∀ (fs : List Nat) (mem : List Nat), IsB mem → IsB (fs.foldl (fun mem p => fillF mem sd p pg) mem)
  | [], _, h => h
  | f :: fs, mem, h => fills_b sd pg fs _ (fillF_b h _ _ _)
/-- A block has been put. -/
structure Put (m : Mo) (l : List Bk) (n : Nat) (q : Int) (m' : Mo) (y : Int) : Prop where
  ok : MoOk m'
  c : m'.c = m.c
  y0 : 0 ≤ y
  yH : y + n ≤ m.c.H
  f : freeAt l n y = true
  bs : m'.bs = putB l ⟨y, n, q⟩
  li : m'.live = totalB l + n
  ml : m'.mem.length = m.mem.length
  low : ∃ j : Nat, y = ((j * n : Nat) : Int) ∧ ∀ i, i < j → freeAt l n ((i * n : Nat) : Int) = false
theorem placeF_ok {m : Mo} (hm : MoOk m) {l : List Bk} (ha : ApB m.c.H l) (hz : ∀ x ∈ l, SzB m.c x) {n : Nat} {q : Int} (hn : ∃ k, k ≤ m.c.L ∧ n = m.c.G * 2 ^ k) (hq : 0 ≤ q ∧ q ≤ n) (ht : totalB l + n ≤ m.c.M) (hk : ∀ x ∈ l, x.a + x.c ≤ m.mark) (h : (placeF m l n q).2.2 = 0) : Put m l n q (placeF m l n q).1 (placeF m l n q).2.1 := by
  obtain ⟨k, hkL, hkn⟩ := hn
  have hn1 : 1 ≤ n := by rw [hkn]; exact Nat.mul_pos hm.c.gpos (Nat.two_pow_pos _)
  have hsp := lowF_spec (c := m.c) (l := l) hn1
  have hco := commitF_ok (on := m.on) (met := metF m.c.Pg m.c.H l) (f := (lowF m.c l n).1 / m.c.Pg) (b := ((lowF m.c l n).1 + n - 1) / m.c.Pg + 1) (most := m.c.P)
  unfold placeF at h ⊢
  simp only at h ⊢
  split at h
  · simp at h
  · rename_i h1
    rw [if_neg h1]
    split at h
    · simp at h
    · rename_i h2
      rw [if_neg h2]
      have h1' : (lowF m.c l n).2 = true := by simpa using h1
      have h2' := hco (by simpa using h2)
      obtain ⟨j, e1, e2, e3, e4⟩ := hsp h1'
      rw [← e1] at e2
      generalize (lowF m.c l n).1 = y at *
      have hput := putB_ok ha (b := ⟨y, n, q⟩) e3 (by simp; omega)
      obtain ⟨p1, p2, p3, p4⟩ := hput
      have p3 : totalB (putB l ⟨y, n, q⟩) = totalB l + n := p3
      have htb := totalB_nonneg ha
      have hMH : m.c.M ≤ m.c.H := by have := hm.c.h; omega
      refine ⟨?_, rfl, by simp, by simp; omega, e3, rfl, p3, fills_len _ _ _ _, ⟨j, by rw [← e1], e4⟩⟩
      refine ⟨hm.c, p1, fun x hx => ?_, rfl, by rw [p3]; exact ht, ⟨by simp only; omega, ?_⟩, ⟨fun x hx => ?_, ?_, ?_⟩, by rw [h2'.1]; exact hm.o, h2'.2, by rw [fills_len]; exact hm.mm, fills_b _ _ _ _ hm.b⟩
      · rcases (p2 x).1 hx with rfl | hx
        · refine ⟨k, hkL, by rw [← hkn], ?_, hq⟩
          show ((y : Nat) : Int) % ((n : Nat) : Int) = 0
          rw [e1, Int.natCast_mul]
          exact Int.mul_emod_left _ _
        · exact hz x hx
      · have := hm.p
        simp only
        rw [p3]; omega
      · rcases (p2 x).1 hx with rfl | hx
        · simp only; omega
        · have := hk x hx
          simp only; omega
      · have := hm.k; simp only; omega
      · have := hm.k; simp only; omega

theorem newF_ok {c : Cf} (hc : c.Ok) {live s a : Int} (h : (newF c live s a).2 = 0) : (∃ k, k ≤ c.L ∧ (newF c live s a).1 = c.G * 2 ^ k) ∧ 0 ≤ s ∧ s ≤ (newF c live s a).1 ∧ live + (newF c live s a).1 ≤ c.M := by
  have hb := (chargeF_bd hc s a).2
  unfold newF at h ⊢
  split at h
  · rename_i h1; exact absurd h h1
  · rename_i h1
    rw [if_neg h1]
    split at h
    · simp at h
    · rename_i h2
      rw [if_neg h2]
      obtain ⟨k, h3, h4, h5, h6⟩ := hb (by simpa using h1)
      exact ⟨⟨k, h3, h4⟩, h5, h6, by simp only; omega⟩
theorem prodF_ok {c : Cf} {n s : Int} (h : (prodF c n s).2 = 0) : 0 ≤ n ∧ 0 ≤ s ∧ n * s ≤ c.N ∧ ((prodF c n s).1 : Int) = n * s := by
  unfold prodF at h ⊢
  split at h
  · simp at h
  · rename_i h1
    rw [if_neg h1]
    split at h
    · rename_i h2
      rw [if_pos h2]
      have := Int.mul_nonneg (show 0 ≤ n by omega) (show 0 ≤ s by omega)
      exact ⟨by omega, by omega, h2, by simp only; omega⟩
    · simp at h
theorem manyF_ok {c : Cf} (hc : c.Ok) {live n s : Int} (h : (manyF c live n s).2 = 0) : (∃ k, k ≤ c.L ∧ (manyF c live n s).1 = c.G * 2 ^ k) ∧ 0 ≤ n * s ∧ n * s ≤ (manyF c live n s).1 ∧ live + (manyF c live n s).1 ≤ c.M ∧ n * s ≤ c.N := by
  unfold manyF at h ⊢
  split at h
  · rename_i h1; exact absurd h h1
  · rename_i h1
    rw [if_neg h1]
    obtain ⟨a1, a2, a3, a4⟩ := prodF_ok (by simpa using h1)
    have b := newF_ok hc h
    rw [a4] at b ⊢
    exact ⟨b.1, b.2.1, b.2.2.1, b.2.2.2, a3⟩

def zeroF (mem : List Nat) (a n : Nat) : List Nat := (List.range mem.length).map fun j => if a ≤ j ∧ j < a + n then 0 else mem.getD j 0
theorem zeroF_len (mem : List Nat) (a n : Nat) : (zeroF mem a n).length = mem.length := by simp [zeroF]
theorem zeroF_b {mem : List Nat} (h : IsB mem) (a n : Nat) : IsB (zeroF mem a n) := fun x hx => by
  obtain ⟨i, hi, rfl⟩ := List.mem_map.1 hx
  split
  · omega
  · have hi : i < mem.length := by simpa using hi
    rw [List.getD_eq_getElem?_getD, List.getElem?_eq_getElem hi]
    exact h _ (List.getElem_mem hi)
/-- An operation's words. -/
structure OpOk (o : X.O) : Prop where
  k : -9223372036854775808 ≤ o.k ∧ o.k ≤ 9223372036854775807
  p : -9223372036854775808 ≤ o.p ∧ o.p ≤ 9223372036854775807
  s : -9223372036854775808 ≤ o.s ∧ o.s ≤ 9223372036854775807
  a : -9223372036854775808 ≤ o.a ∧ o.a ≤ 9223372036854775807
  n : -9223372036854775808 ≤ o.n ∧ o.n ≤ 9223372036854775807
  b : 0 ≤ o.b ∧ o.b < 256
def giveF (m : Mo) (o : X.O) : Mo × An :=
  let ce := if o.k = 2 then manyF m.c m.live o.n o.s else newF m.c m.live o.s (if o.k = 3 then o.a else 1)
  if ce.2 ≠ 0 then (m, anE ce.2)
  else
    let p := placeF m m.bs ce.1 (if o.k = 2 then o.n * o.s else o.s)
    if p.2.2 ≠ 0 then (m, anE p.2.2)
    else (if o.k = 2 then { p.1 with mem := zeroF p.1.mem p.2.1.toNat ce.1 } else p.1, { an0 with at' := p.2.1 })
def dropB (l : List Bk) (i : Nat) : List Bk := l.take i ++ l.drop (i + 1)
def bk0 : Bk := ⟨0, 0, 0⟩
def ofB (m : Mo) (o : X.O) (i : Nat) : Mo × An :=
  let b := m.bs.getD i bk0
  if o.k = 4 then
    let ce := newF m.c (m.live - b.c) o.s 1
    if ce.2 ≠ 0 then (m, anE ce.2)
    else
      let p := placeF m (dropB m.bs i) ce.1 o.s
      if p.2.2 ≠ 0 then (m, anE p.2.2)
      else
        let n := min (ce.1 : Int) b.c
        ({ p.1 with mem := p.1.mem.take p.2.1.toNat ++ (m.mem.take (b.a + n).toNat).drop b.a.toNat ++ p.1.mem.drop (p.2.1 + n).toNat }, { an0 with at' := p.2.1 })
  else if o.k = 5 then ({ m with bs := dropB m.bs i, live := m.live - b.c }, an0)
  else if o.k = 6 then (m, { an0 with n := b.c })
  else if o.n < 0 ∨ o.n ≥ b.c then (m, anE 9)
  else if o.k = 7 then (m, { an0 with b := m.mem.getD (b.a + o.n).toNat 0 })
  else ({ m with mem := m.mem.set (b.a + o.n).toNat o.b.toNat }, an0)
def doF (m : Mo) (o : X.O) : Mo × An :=
  if o.k = 1 ∨ o.k = 3 ∨ o.k = 2 then giveF m o
  else if o.k = 9 then ({ m with on := (trimF m.on (metF m.c.Pg m.c.H m.bs)).1 }, { an0 with n := (trimF m.on (metF m.c.Pg m.c.H m.bs)).2 })
  else if o.k = 10 then (m, { an0 with live := m.live, peak := m.peak, mark := m.mark, pg := cntB m.on })
  else if o.k = 4 ∨ o.k = 5 ∨ o.k = 6 ∨ o.k = 7 ∨ o.k = 8 then
    match findB m.bs o.p with
    | none => (m, anE 8)
    | some i => ofB m o i
  else (m, anE 2)
end Go.Ev.W
namespace Go.Ev.W
open Go.Ev Go.Ev.N

theorem dropB_sub (l : List Bk) (i : Nat) : (dropB l i).Sublist l := by
  unfold dropB
  have h := List.take_append_drop i l
  conv => rhs; rw [← h]
  refine List.Sublist.append (List.Sublist.refl _) ?_
  rw [show i + 1 = i + 1 by rfl, ← List.drop_drop]
  exact List.drop_sublist _ _
theorem dropB_tot {l : List Bk} {i : Nat} (h : i < l.length) : totalB (dropB l i) = totalB l - l[i].c := by
  have e : l = l.take i ++ (l[i] :: l.drop (i + 1)) := by rw [← List.drop_eq_getElem_cons h, List.take_append_drop]
  have e2 : totalB l = totalB (l.take i ++ (l[i] :: l.drop (i + 1))) := by rw [← e]
  rw [e2]
  unfold dropB totalB
  simp only [List.map_append, List.sum_append, List.map_cons, List.sum_cons]
  omega
end Go.Ev.W
namespace Go.Ev.W
open Go.Ev Go.Ev.N

theorem findB_lt {l : List Bk} {y : Int} {i : Nat} (h : findB l y = some i) : ∃ hi : i < l.length, l[i].a = y := by
  unfold findB at h
  rw [List.findIdx?_eq_some_iff_getElem] at h
  obtain ⟨h1, h2, _⟩ := h
  exact ⟨h1, of_decide_eq_true h2⟩

theorem giveG_ok {m : Mo} (hm : MoOk m) (ce : Nat × Nat) (q : Int) (f : Mo × Int × Nat → Mo) (hf : ∀ p : Mo × Int × Nat, MoOk p.1 → p.1.c = m.c → MoOk (f p) ∧ (f p).c = m.c) (h : ce.2 = 0 → (∃ k, k ≤ m.c.L ∧ ce.1 = m.c.G * 2 ^ k) ∧ 0 ≤ q ∧ q ≤ ce.1 ∧ m.live + ce.1 ≤ m.c.M) :
    MoOk (if ce.2 ≠ 0 then (m, anE ce.2) else if (placeF m m.bs ce.1 q).2.2 ≠ 0 then (m, anE (placeF m m.bs ce.1 q).2.2) else (f (placeF m m.bs ce.1 q), { an0 with at' := (placeF m m.bs ce.1 q).2.1 })).1 ∧
    (if ce.2 ≠ 0 then (m, anE ce.2) else if (placeF m m.bs ce.1 q).2.2 ≠ 0 then (m, anE (placeF m m.bs ce.1 q).2.2) else (f (placeF m m.bs ce.1 q), { an0 with at' := (placeF m m.bs ce.1 q).2.1 })).1.c = m.c := by
  by_cases h1 : ce.2 = 0
  · rw [if_neg (by simpa using h1)]
    obtain ⟨a1, a2, a3, a4⟩ := h h1
    by_cases h2 : (placeF m m.bs ce.1 q).2.2 = 0
    · rw [if_neg (by simpa using h2)]
      have hput := placeF_ok hm hm.a hm.z a1 ⟨a2, a3⟩ (by rw [← hm.l]; exact a4) hm.k.1 h2
      exact hf _ hput.ok hput.c
    · rw [if_pos h2]; exact ⟨hm, rfl⟩
  · rw [if_pos h1]; exact ⟨hm, rfl⟩
theorem doF_ok {m : Mo} (hm : MoOk m) {o : X.O} (ho : OpOk o) : MoOk (doF m o).1 ∧ (doF m o).1.c = m.c := by
  have hkeep : MoOk m ∧ m.c = m.c := ⟨hm, rfl⟩
  have hmm := hm.mm
  have htb := totalB_nonneg hm.a
  unfold doF
  split
  · unfold giveF
    simp only
    by_cases h2 : o.k = 2
    · simp only [if_pos h2]
      refine giveG_ok hm (manyF m.c m.live o.n o.s) (o.n * o.s) (fun p => { p.1 with mem := zeroF p.1.mem p.2.1.toNat (manyF m.c m.live o.n o.s).1 }) (fun p hok hc => ⟨⟨hok.c, hok.a, hok.z, hok.l, hok.lM, hok.p, hok.k, hok.o, hok.on, ?_, zeroF_b hok.b _ _⟩, hc⟩) fun h => ?_
      · rw [zeroF_len]; exact hok.mm
      · have := manyF_ok hm.c h
        exact ⟨this.1, this.2.1, this.2.2.1, this.2.2.2.1⟩
    · simp only [if_neg h2]
      refine giveG_ok hm (newF m.c m.live o.s (if o.k = 3 then o.a else 1)) o.s (fun p => p.1) (fun p hok hc => ⟨hok, hc⟩) fun h => ?_
      have := newF_ok hm.c h
      exact ⟨this.1, this.2.1, this.2.2.1, this.2.2.2⟩
  · split
    · refine ⟨⟨hm.c, hm.a, hm.z, hm.l, hm.lM, hm.p, hm.k, ?_, ?_, hm.mm, hm.b⟩, rfl⟩
      · simp only [trimF, List.length_map, List.length_range]; exact hm.o
      · have h := hm.on
        refine Nat.le_trans ?_ h
        have e : m.on = (List.range m.on.length).map fun i => m.on.getD i false := by
          refine List.ext_getElem (by simp) fun i h1 h2 => ?_
          simp [List.getD_eq_getElem?_getD, h1]
        conv => rhs; rw [e]
        exact cnt_mono fun i hi => by rw [Bool.and_eq_true] at hi; exact hi.1
    · split
      · exact hkeep
      · split
        · split
          · exact hkeep
          · rename_i hk i hf
            obtain ⟨hi, _⟩ := findB_lt hf
            have hg : m.bs.getD i bk0 = m.bs[i] := by simp [List.getD_eq_getElem?_getD, hi]
            have hdt := dropB_tot hi
            have hds := dropB_sub m.bs i
            have hb := hm.a.b _ (List.getElem_mem hi)
            unfold ofB
            rw [hg]
            simp only
            split
            · split
              · exact hkeep
              · rename_i h1
                have h1 := Decidable.of_not_not h1
                have hn := newF_ok hm.c h1
                split
                · exact hkeep
                · rename_i h2
                  have h2 := Decidable.of_not_not h2
                  have had := hm.a.sub hds
                  have hput : Put m (dropB m.bs i) _ _ _ _ := placeF_ok hm had (fun x hx => hm.z x (hds.subset hx)) hn.1 ⟨hn.2.1, hn.2.2.1⟩ (by rw [hdt, ← hm.l]; exact hn.2.2.2) (fun x hx => hm.k.1 x (hds.subset hx)) h2
                  have hok := hput.ok
                  have hy := hput.y0
                  have hyH := hput.yH
                  have hml := hput.ml
                  generalize placeF m (dropB m.bs i) (newF m.c (m.live - m.bs[i].c) o.s 1).1 o.s = p at *
                  generalize (newF m.c (m.live - m.bs[i].c) o.s 1).1 = ch at *
                  refine ⟨⟨hok.c, hok.a, hok.z, hok.l, hok.lM, hok.p, hok.k, hok.o, hok.on, ?_, ?_⟩, hput.c⟩
                  · simp only [List.length_append, List.length_take, List.length_drop]
                    rw [hput.c]
                    omega
                  · intro x hx
                    simp only [List.mem_append] at hx
                    rcases hx with (hx | hx) | hx
                    · exact hok.b x (List.mem_of_mem_take hx)
                    · exact hm.b x (List.mem_of_mem_take (List.mem_of_mem_drop hx))
                    · exact hok.b x (List.mem_of_mem_drop hx)
            · split
              · have had := hm.a.sub hds
                have hdn := totalB_nonneg had
                have hl := hm.l
                have hlM := hm.lM
                have hp := hm.p
                refine ⟨⟨hm.c, had, fun x hx => hm.z x (hds.subset hx), by rw [hdt, ← hl], by simp only; omega, by simp only; omega, ⟨fun x hx => hm.k.1 x (hds.subset hx), hm.k.2⟩, hm.o, hm.on, hm.mm, hm.b⟩, rfl⟩
              · split
                · exact hkeep
                · split
                  · exact hkeep
                  · split
                    · exact hkeep
                    · refine ⟨⟨hm.c, hm.a, hm.z, hm.l, hm.lM, hm.p, hm.k, hm.o, hm.on, by rw [List.length_set]; exact hm.mm, fun x hx => ?_⟩, rfl⟩
                      have hob := ho.b
                      rcases List.mem_or_eq_of_mem_set hx with hx | rfl
                      · exact hm.b x hx
                      · omega
        · exact hkeep
end Go.Ev.W
namespace Go.Ev.W
open Go.Ev Go.Ev.N

theorem up_told (v : Nat) (h1 : 1 ≤ v) (h2 : v ≤ 1000000) : Told P T calc_Up [] [i64 v] (.tup [i64 (upN v : Nat), .bool true]) [] := by
  have hu := upN_lt h1
  have hsh : ∀ x : Int, x * 2 ^ min (Int.toNat 1) IntKind.i64.bits = x * 2 := fun x => by
    have : (2 : Int) ^ min (Int.toNat 1) IntKind.i64.bits = 2 := by decide
    rw [this]
  refine told_of_ev (fn := calc_Up_fn) tabOk mixed (by kernel_rfl) (by kernel_rfl) (by kernel_rfl) (by kernel_rfl) ?_
  (refine gw ?_; first | refine IfB.dec (fun h3 => ?_) (fun h3 => ?_) | refine IfB.eq (fun h3 => ?_) (fun h3 => ?_) | refine IfB.ne (fun h3 => ?_) (fun h3 => ?_) | refine IfB.mk (fun h3 => ?_) (fun h3 => ?_))
  · omega
  · (refine gw ?_; first | refine IfB.dec (fun h4 => ?_) (fun h4 => ?_) | refine IfB.eq (fun h4 => ?_) (fun h4 => ?_) | refine IfB.ne (fun h4 => ?_) (fun h4 => ?_) | refine IfB.mk (fun h4 => ?_) (fun h4 => ?_))
    · omega
    · (refine gw ?_; refine LoopN.mk ⟨[0,4], fun vs L => ∃ j : Nat, vs = [i64 v, i64 (2 ^ j : Nat)] ∧ L = [] ∧ 2 ^ j ≤ upN v, fun vs L => match vs with | [_, .int _ i] => 4000000 - i.toNat | _ => 0, [], [], rfl, ⟨0, rfl, rfl, upN_pos v⟩, ?_⟩)
      rintro vs L ⟨j, rfl, rfl, hj⟩
      obtain ⟨p, hp⟩ : ∃ p, 2 ^ j = p := ⟨_, rfl⟩
      obtain ⟨k, hk⟩ := upN_pow v
      have hle := le_upN v
      (refine gw ?_; first | refine IfB.dec (fun h5 => ?_) (fun h5 => ?_) | refine IfB.eq (fun h5 => ?_) (fun h5 => ?_) | refine IfB.ne (fun h5 => ?_) (fun h5 => ?_) | refine IfB.mk (fun h5 => ?_) (fun h5 => ?_))
      · have hd : 2 ^ j * 2 ≤ upN v := by rw [hk]; exact pow_lt_dbl (by omega)
        have e : ((2 ^ (j + 1) : Nat) : Int) = ((2 ^ j : Nat) : Int) * 2 := by rw [Nat.pow_succ]; omega
        rw [hp] at hd e ⊢
        have hpos : 1 ≤ p := by rw [← hp]; exact Nat.one_le_two_pow
        (refine gw ?_)
        rw [hsh]
        (refine gw ?_; refine ⟨[], [], rfl, ⟨j + 1, by rw [e]; rfl, rfl, by rw [Nat.pow_succ, hp]; exact hd⟩, (by omega : 4000000 - ((p : Int) * 2).toNat < 4000000 - (p : Int).toNat)⟩)
      · have e : upN v = 2 ^ j := by
          have := upN_le (v := v) (k := j) (by omega)
          omega
        rw [e]
        (refine gw ?_; exact RetN.mk ⟨[], rfl, rfl, rfl⟩)
theorem pinCount_told (l : List Bool) (hl : l.length ≤ 1000000) : Told P T pin_Count [] [lT l] (i64 (cntB l : Nat)) [] := by
  have hml : (l.map AV.bool).length = l.length := by simp
  refine told_of_ev (fn := pin_Count_fn) tabOk mixed (by kernel_rfl) (by kernel_rfl) (by kernel_rfl) (by kernel_rfl) ?_
  (refine gw ?_; refine LoopN.mk ⟨[2,5,6,7], fun vs L => ∃ i : Nat, vs = [i64 (cntB (l.take i) : Nat), lT l, i64 (l.map AV.bool).length, i64 i] ∧ L = [] ∧ i ≤ l.length, fun vs L => match vs with | [_, _, _, .int _ i] => l.length - i.toNat | _ => 0, [], [], rfl, ⟨0, rfl, rfl, by omega⟩, ?_⟩)
  rintro vs L ⟨i, rfl, rfl, hi⟩
  (refine gw ?_; first | refine IfB.dec (fun h1 => ?_) (fun h1 => ?_) | refine IfB.eq (fun h1 => ?_) (fun h1 => ?_) | refine IfB.ne (fun h1 => ?_) (fun h1 => ?_) | refine IfB.mk (fun h1 => ?_) (fun h1 => ?_))
  · have hlt : i < l.length := by omega
    have hs := cntB_succ hlt
    have hb := cntB_le (l.take i)
    rw [List.length_take] at hb
    (refine gw ?_; refine idx_map (hlt) ?_)
    cases hb : l[i] with
    | false =>
      rw [hb, if_neg (by simp)] at hs
      (refine gw ?_; refine ⟨[], [], rfl, ⟨i + 1, by rw [hs]; rfl, rfl, hlt⟩, (by omega : l.length - ((i : Int) + 1).toNat < l.length - (i : Int).toNat)⟩)
    | true =>
      rw [hb, if_pos rfl] at hs
      (refine gw ?_; refine ⟨[], [], rfl, ⟨i + 1, by rw [hs]; rfl, rfl, hlt⟩, (by omega : l.length - ((i : Int) + 1).toNat < l.length - (i : Int).toNat)⟩)
  · have : i = l.length := by omega
    subst this
    rw [List.take_length]
    (refine gw ?_; exact RetN.mk ⟨[], rfl, rfl, rfl⟩)
end Go.Ev.W
namespace Go.Ev.W
open Go.Ev Go.Ev.N

theorem junkByte_told (seed page k : Nat) : Told P T junk_Byte [] [i64 seed, i64 page, i64 k] (u8 (byteF seed page k)) [] := by
  refine told_of_ev (fn := junk_Byte_fn) tabOk mixed (by kernel_rfl) (by kernel_rfl) (by kernel_rfl) (by kernel_rfl) ?_
  (refine gw ?_)
  refine ⟨?_⟩
  (refine gw ?_)
  refine ⟨?_⟩
  (refine gw ?_)
  refine ⟨?_⟩
  (refine gw ?_)
  refine ⟨?_⟩
  (refine gw ?_)
  refine ⟨?_⟩
  (refine gw ?_)
  refine ⟨?_⟩
  (refine gw ?_)
  refine ⟨?_⟩
  (refine gw ?_)
  refine ⟨?_⟩
  (refine gw ?_; refine RetN.mk ⟨[], rfl, ?_, rfl⟩)
  unfold byteF
  simp only [IntKind.wrap_u8]
  refine congrArg (AV.int .u8) ?_
  omega
theorem pinPages_told {pg y n : Nat} (hp : 1 ≤ pg) (hn : 1 ≤ n) (hy : y + n ≤ 1000000) : Told P T pin_Pages [] [i64 pg, i64 y, i64 n] (.tup [i64 (y / pg : Nat), i64 ((y + n - 1) / pg + 1 : Nat)]) [] := by
  have e1 : ((y : Nat) : Int).tdiv (pg : Nat) = ((y / pg : Nat) : Int) := by rw [Int.tdiv_eq_ediv_of_nonneg (by omega)]; omega
  have e0 : ((y : Nat) : Int) + ((n : Nat) : Int) - 1 = ((y + n - 1 : Nat) : Int) := by omega
  have e2 : (((y + n - 1 : Nat)) : Int).tdiv (pg : Nat) = (((y + n - 1) / pg : Nat) : Int) := by rw [Int.tdiv_eq_ediv_of_nonneg (by omega)]; omega
  have d1 := Nat.div_le_self y pg
  have d2 := Nat.div_le_self (y + n - 1) pg
  generalize y / pg = q at *
  generalize (y + n - 1) / pg = r at *
  refine told_of_ev (fn := pin_Pages_fn) tabOk mixed (by kernel_rfl) (by kernel_rfl) (by kernel_rfl) (by kernel_rfl) ?_
  (refine gw ?_; refine IfB.ff (by simp; omega) ?_)
  (refine gw ?_)
  rw [e1]
  (refine gw ?_; refine IfB.ff (by simp; omega) ?_)
  (refine gw ?_; refine IfB.tt (by simp; omega) ?_)
  (refine gw ?_)
  rw [e0]
  (refine gw ?_)
  rw [e2]
  (refine gw ?_; exact RetN.mk ⟨[], rfl, rfl, rfl⟩)
end Go.Ev.W
namespace Go.Ev.W
open Go.Ev Go.Ev.N

theorem clone_bool (es : List AV) (hl : es.length ≤ 1000000) : Told P T slices_Clone_bool_bool [] [.lst t_bool es] (.ref 0) [.row t_bool es] := by
  refine told_of_ev (fn := slices_Clone_bool_bool_fn) tabOk mixed (by kernel_rfl) (by kernel_rfl) (by kernel_rfl) (by kernel_rfl) ?_
  refine AnyB.mk (fun b hb => ?_)
  refine IfB.mk (fun h1 => ?_) (fun h1 => ?_)
  · obtain rfl := hb h1
    exact RetN.mk ⟨[1], rfl, rfl, rfl⟩
  · refine Room.mk (by first | omega | (simp; omega) | (simp; done)) ?_
    exact RetN.mk ⟨[2], rfl, rfl, rfl⟩
theorem clone_byte (es : List AV) (hl : es.length ≤ 1000000) : Told P T slices_Clone_byte_byte [] [.lst t_uint8 es] (.ref 0) [.row t_uint8 es] := by
  refine told_of_ev (fn := slices_Clone_byte_byte_fn) tabOk mixed (by kernel_rfl) (by kernel_rfl) (by kernel_rfl) (by kernel_rfl) ?_
  refine AnyB.mk (fun b hb => ?_)
  refine IfB.mk (fun h1 => ?_) (fun h1 => ?_)
  · obtain rfl := hb h1
    exact RetN.mk ⟨[1], rfl, rfl, rfl⟩
  · refine Room.mk (by first | omega | (simp; omega) | (simp; done)) ?_
    exact RetN.mk ⟨[2], rfl, rfl, rfl⟩
end Go.Ev.W
namespace Go.Ev.W
open Go.Ev Go.Ev.N

set_option maxHeartbeats 4000000 in
theorem trim_told {on met : List Bool} (hN : met.length = on.length) (hl : on.length ≤ 65536) : Told P T commit_Trim [] [lT on, lT met] (.tup [lT (trimF on met).1, i64 ((trimF on met).2 : Nat)]) [] := by
  have hmo : (on.map AV.bool).length = on.length := by simp
  have hmm : (met.map AV.bool).length = met.length := by simp
  obtain ⟨D, hD⟩ : ∃ D, on.length = D := ⟨_, rfl⟩
  have c1 := clone_bool (on.map AV.bool) (by omega)
  refine told_of_ev (fn := commit_Trim_fn) tabOk mixed (by kernel_rfl) (by kernel_rfl) (by kernel_rfl) (by kernel_rfl) ?_
  (refine gw ?_; refine Choice.mk ⟨false, Choice.mk ⟨false, _, _, c1, ?_⟩⟩)
  (refine gw ?_; refine LoopN.mk ⟨[1,4,5,10,11,12], fun vs L => ∃ i : Nat, vs = [lT met, .ref 0, i64 (((List.range i).filter fun i => on.getD i false && !met.getD i false).length : Nat), lT on, i64 (on.map AV.bool).length, i64 i] ∧ L = [.row t_bool (tabF D fun j => .bool (on.getD j false && or (decide (i ≤ j)) (met.getD j false)))] ∧ i ≤ D, fun vs L => match vs with | [_, _, _, _, _, .int _ i] => D - i.toNat | _ => 0, [], [1], rfl, ⟨0, rfl, ?_, by omega⟩, ?_⟩)
  · show [Blk.row t_bool (on.map AV.bool)] = _
    rw [tabF_map on AV.bool false, hD]
    refine congrArg (fun z => [Blk.row t_bool z]) (tabF_congr fun k _ => ?_)
    rw [decide_eq_true (Nat.zero_le k)]; simp
  rintro vs L ⟨i, rfl, rfl, hi⟩
  have hset : ∀ (v : Bool), i < D → v = (on.getD i false && met.getD i false) → (tabF D fun j => AV.bool (on.getD j false && or (decide (i ≤ j)) (met.getD j false))).set ((i : Nat) : Int).toNat (.bool v) = tabF D fun j => AV.bool (on.getD j false && or (decide (i + 1 ≤ j)) (met.getD j false)) := fun v hiD hv => by
    rw [Int.toNat_natCast]
    refine tabF_set hiD fun j hj => ?_
    by_cases e : j = i
    · subst e; rw [if_pos rfl, decide_eq_false (show ¬ j + 1 ≤ j by omega), hv]; rfl
    · rw [if_neg e]
      have : decide (i + 1 ≤ j) = decide (i ≤ j) := decide_eq_decide.2 (by omega)
      rw [this]
  have hkeep : i < D → (on.getD i false = true → met.getD i false = true) → (tabF D fun j => AV.bool (on.getD j false && or (decide (i ≤ j)) (met.getD j false))) = tabF D fun j => AV.bool (on.getD j false && or (decide (i + 1 ≤ j)) (met.getD j false)) := fun hiD hv => by
    refine tabF_congr fun j hj => ?_
    by_cases e : j = i
    · subst e
      rw [decide_eq_false (show ¬ j + 1 ≤ j by omega), decide_eq_true (Nat.le_refl j)]
      cases ho : on.getD j false with
      | true => rw [hv ho]; rfl
      | false => rfl
    · have : decide (i + 1 ≤ j) = decide (i ≤ j) := decide_eq_decide.2 (by omega)
      rw [this]
  (refine gw ?_; first | refine IfB.dec (fun g1 => ?_) (fun g1 => ?_) | refine IfB.eq (fun g1 => ?_) (fun g1 => ?_) | refine IfB.ne (fun g1 => ?_) (fun g1 => ?_) | refine IfB.mk (fun g1 => ?_) (fun g1 => ?_))
  · have hiD : i < D := by omega
    have hio : i < on.length := by omega
    have him : i < met.length := by omega
    have ho := lT_get hio
    have hm := lT_get him
    have hs : (List.filter (fun i => on.getD i false && !met.getD i false) (List.range (i + 1))).length = (List.filter (fun i => on.getD i false && !met.getD i false) (List.range i)).length + if (on[i] && !met[i]) = true then 1 else 0 := by
      rw [List.range_succ, List.filter_append, List.length_append, ← ho, ← hm]; simp only [List.filter_cons, List.filter_nil]; split <;> rfl
    have hs2 : (List.filter (fun i => on.getD i false && !met.getD i false) (List.range i)).length ≤ i := by
      simpa using List.length_filter_le (fun i => on.getD i false && !met.getD i false) (List.range i)
    rw [ho, hm] at hset hkeep
    (refine gw ?_; refine idx_map (hio) ?_)
    rcases hov : on[i] with _ | _
    · rw [hov] at hs hkeep
      rw [Bool.false_and] at hs
      have hs : (List.filter (fun i => on.getD i false && !met.getD i false) (List.range (i + 1))).length = (List.filter (fun i => on.getD i false && !met.getD i false) (List.range i)).length := hs
      (refine gw ?_; refine ⟨[], [0], rfl, ⟨i + 1, by rw [hs]; rfl, by rw [← hkeep hiD (by simp)]; rfl, hiD⟩, (by omega : D - ((i : Int) + 1).toNat < D - (i : Int).toNat)⟩)
    · rw [hov] at hs hset hkeep
      rw [Bool.true_and] at hs hset
      (refine gw ?_; refine IfB.ff (by rw [hmm]; simp; omega) ?_)
      (refine gw ?_; refine idx_map (him) ?_)
      rcases hmv : met[i] with _ | _
      · rw [hmv] at hs hset
        have hs : (List.filter (fun i => on.getD i false && !met.getD i false) (List.range (i + 1))).length = (List.filter (fun i => on.getD i false && !met.getD i false) (List.range i)).length + 1 := hs
        (refine gw ?_; refine InB.mk (by omega) (by rw [tabF_len]; omega) ?_)
        (refine gw ?_; refine ⟨[], [0], rfl, ⟨i + 1, by rw [hs]; rfl, by rw [← hset false hiD rfl]; rfl, hiD⟩, (by omega : D - ((i : Int) + 1).toNat < D - (i : Int).toNat)⟩)
      · rw [hmv] at hs hkeep
        have hs : (List.filter (fun i => on.getD i false && !met.getD i false) (List.range (i + 1))).length = (List.filter (fun i => on.getD i false && !met.getD i false) (List.range i)).length := hs
        (refine gw ?_; refine ⟨[], [0], rfl, ⟨i + 1, by rw [hs]; rfl, by rw [← hkeep hiD (by simp)]; rfl, hiD⟩, (by omega : D - ((i : Int) + 1).toNat < D - (i : Int).toNat)⟩)
  · have e : i = D := by omega
    subst e
    have f1 : (tabF i fun j => AV.bool (on.getD j false && or (decide (i ≤ j)) (met.getD j false))) = ((List.range i).map fun j => on.getD j false && met.getD j false).map AV.bool := by
      rw [← tabF_of]; exact tabF_congr fun j hj => by rw [decide_eq_false (show ¬ i ≤ j by omega)]; simp
    rw [f1]
    unfold trimF
    rw [hD]
    (refine gw ?_; exact RetN.fz ⟨[true, true], [], rfl, rfl, rfl⟩)
end Go.Ev.W
namespace Go.Ev.W
open Go.Ev Go.Ev.N

/-- Which are there behind the first so many of what is given. -/
def upF (on : List Bool) (f i j : Nat) : Bool := on.getD j false || (decide (f ≤ j) && decide (j < i))
theorem freshL_end (on : List Bool) {f b n : Nat} (h1 : f ≤ b) (h2 : b ≤ n) : freshL on f b n = freshL on f b b := by
  unfold freshL
  obtain ⟨d, rfl⟩ : ∃ d, n = b + d := ⟨n - b, by omega⟩
  clear h2
  induction d with
  | zero => rfl
  | succ d ih =>
    rw [show b + (d + 1) = b + d + 1 by omega, List.range_succ, List.filter_append, ih]
    have : isIn f b (b + d) = false := decide_eq_false (by omega)
    simp [this]
theorem freshL_low (on : List Bool) {f b : Nat} : freshL on f b f = [] := by
  unfold freshL
  rw [List.filter_eq_nil_iff]
  intro j hj
  have hj : j < f := by simpa using hj
  have : isIn f b j = false := decide_eq_false (by omega)
  simp [this]
set_option maxHeartbeats 8000000 in
theorem commit_told {on met : List Bool} (hN : met.length = on.length) (hl : on.length ≤ 65536) {f b most : Nat} (hf : f ≤ b) (hb : b ≤ on.length) (hm : most ≤ 65536) : Told P T commit_Commit [] [lT on, lT met, i64 f, i64 b, i64 most] (.tup [lT (commitF on met f b most).1, .lst t_int ((commitF on met f b most).2.1.map fun n => i64 (n : Nat)), .bool (commitF on met f b most).2.2]) [] := by
  have hmo : (on.map AV.bool).length = on.length := by simp
  have hmm : (met.map AV.bool).length = met.length := by simp
  have e3 := commitF_eq on met f b most
  obtain ⟨D, hD⟩ : ∃ D, on.length = D := ⟨_, rfl⟩
  have c1 := clone_bool (on.map AV.bool) (by omega)
  have c2 := clone_bool (met.map AV.bool) (by omega)
  refine told_of_ev (fn := commit_Commit_fn) tabOk mixed (by kernel_rfl) (by kernel_rfl) (by kernel_rfl) (by kernel_rfl) ?_
  (refine gw ?_; refine IfB.ff (by rw [hmm, hmo, hN]; simp) ?_)
  (refine gw ?_; refine IfB.ff (by simp; omega) ?_)
  (refine gw ?_; refine IfB.ff (by rw [hmo]; simp; omega) ?_)
  (refine gw ?_; refine Choice.mk ⟨false, Choice.mk ⟨false, _, _, c1, ?_⟩⟩)
  (refine gw ?_; refine Choice.mk ⟨false, Choice.mk ⟨false, _, _, c2, ?_⟩⟩)
  rw [hD] at hN hl hb hmo e3
  (refine gw ?_; refine LoopN.mk ⟨[0,3,4,10,11,13,14], fun vs L => ∃ i : Nat, vs = [lT on, i64 b, i64 most, .ref 0, .ref 1, .ref 2, i64 i] ∧ L = [.row t_bool (tabF D fun j => .bool (upF on f i j)), .row t_int ((freshL on f b i).map fun n => i64 (n : Nat)), .row t_bool (tabF D fun j => .bool (upF met f i j))] ∧ f ≤ i ∧ i ≤ b, fun vs L => match vs with | [_, _, _, _, _, _, .int _ i] => b - i.toNat | _ => 0, [], [2,1,3], rfl, ⟨f, rfl, ?_, by omega, by omega⟩, ?_⟩)
  · show [Blk.row t_bool (on.map AV.bool), Blk.row t_int [], Blk.row t_bool (met.map AV.bool)] = _
    have e0 : ∀ l : List Bool, l.length = D → l.map AV.bool = tabF D fun j => AV.bool (upF l f f j) := fun l hl => by
      rw [tabF_map l AV.bool false, hl]
      refine tabF_congr fun k _ => ?_
      unfold upF
      have : (decide (f ≤ k) && decide (k < f)) = false := by rw [Bool.and_eq_false_iff]; by_cases h : f ≤ k <;> simp [h]
      rw [this, Bool.or_false]
    rw [e0 on hD, e0 met hN, freshL_low]; rfl
  rintro vs L ⟨i, rfl, rfl, hfi, hib⟩
  have hfl := freshL_len on f b i
  have hfm : ((freshL on f b i).map fun n => i64 (n : Nat)).length = (freshL on f b i).length := by simp
  have hset : ∀ l : List Bool, i < D → (tabF D fun j => AV.bool (upF l f i j)).set ((i : Nat) : Int).toNat (.bool true) = tabF D fun j => AV.bool (upF l f (i + 1) j) := fun l hiD => by
    rw [Int.toNat_natCast]
    refine tabF_set hiD fun j hj => ?_
    unfold upF
    by_cases e : j = i
    · subst e; rw [if_pos rfl, decide_eq_true (show j < j + 1 by omega), decide_eq_true hfi]; simp
    · rw [if_neg e]
      have : decide (j < i + 1) = decide (j < i) := decide_eq_decide.2 (by omega)
      rw [this]
  (refine gw ?_; first | refine IfB.dec (fun g1 => ?_) (fun g1 => ?_) | refine IfB.eq (fun g1 => ?_) (fun g1 => ?_) | refine IfB.ne (fun g1 => ?_) (fun g1 => ?_) | refine IfB.mk (fun g1 => ?_) (fun g1 => ?_))
  · have hiD : i < D := by omega
    have hio : i < on.length := by omega
    have ho := lT_get hio
    have hfs := freshL_succ on f b i
    have hin : isIn f b i = true := decide_eq_true (by omega)
    rw [ho, hin, Bool.true_and] at hfs
    (refine gw ?_; refine idx_map (hio) ?_)
    rcases hov : on[i] with _ | _
    · rw [hov] at hfs
      have hz : (freshL on f b i).map (fun n => i64 (n : Nat)) ++ [i64 (i : Nat)] = (freshL on f b (i + 1)).map fun n => i64 (n : Nat) := by rw [hfs]; simp
      (refine gw ?_; refine Room.mk (by first | omega | (simp; omega) | (simp <;> fail)) ?_)
      (refine gw ?_; refine InB.mk (by omega) (by rw [tabF_len]; omega) ?_)
      (refine gw ?_; refine InB.mk (by omega) (by rw [tabF_len]; omega) ?_)
      (refine gw ?_; refine ⟨[], [0,4,2], rfl, ⟨i + 1, rfl, by rw [← hset on hiD, ← hset met hiD, ← hz]; rfl, by omega, by omega⟩, (by omega : b - ((i : Int) + 1).toNat < b - (i : Int).toNat)⟩)
    · rw [hov] at hfs
      have hz : freshL on f b (i + 1) = freshL on f b i := by rw [hfs]; simp
      (refine gw ?_; refine InB.mk (by omega) (by rw [tabF_len]; omega) ?_)
      (refine gw ?_; refine InB.mk (by omega) (by rw [tabF_len]; omega) ?_)
      (refine gw ?_; refine ⟨[], [0,1,2], rfl, ⟨i + 1, rfl, by rw [← hset on hiD, ← hset met hiD, hz]; rfl, by omega, by omega⟩, (by omega : b - ((i : Int) + 1).toNat < b - (i : Int).toNat)⟩)
  · have e : i = b := by omega
    subst e
    have f1 : ∀ l : List Bool, (tabF D fun j => AV.bool (upF l f i j)) = ((List.range D).map (needF l f i)).map AV.bool := fun l => by
      rw [← tabF_of]
      refine tabF_congr fun j hj => ?_
      unfold upF needF isIn
      congr 2
      rw [Bool.decide_and]
    rw [f1, f1]
    rw [freshL_end on hfi hb] at e3
    have c3 := pinCount_told ((List.range D).map (needF met f i)) (by simp; omega)
    have c4 := pinCount_told ((List.range D).map (needF on f i)) (by simp; omega)
    (refine gw ?_; refine Choice.mk ⟨false, Choice.mk ⟨true, _, _, c3, ?_⟩⟩)
    (refine gw ?_; first | refine IfB.dec (fun g2 => ?_) (fun g2 => ?_) | refine IfB.eq (fun g2 => ?_) (fun g2 => ?_) | refine IfB.ne (fun g2 => ?_) (fun g2 => ?_) | refine IfB.mk (fun g2 => ?_) (fun g2 => ?_))
    · rw [e3, if_pos (by omega)]
      (refine gw ?_; exact RetN.fz ⟨[true, true, true], [], rfl, rfl, rfl⟩)
    · rw [if_neg (by omega)] at e3
      (refine gw ?_; refine Choice.mk ⟨false, Choice.mk ⟨true, _, _, c4, ?_⟩⟩)
      (refine gw ?_; first | refine IfB.dec (fun g3 => ?_) (fun g3 => ?_) | refine IfB.eq (fun g3 => ?_) (fun g3 => ?_) | refine IfB.ne (fun g3 => ?_) (fun g3 => ?_) | refine IfB.mk (fun g3 => ?_) (fun g3 => ?_))
      · rw [if_pos (by omega)] at e3
        have hlA : ((List.range D).map (needF on f i)).length = D := by simp
        have hlN : ((List.range D).map (needF met f i)).length = D := by simp
        have c5 := trim_told (on := (List.range D).map (needF on f i)) (met := (List.range D).map (needF met f i)) (by rw [hlA, hlN]) (by omega)
        have et : (trimF ((List.range D).map (needF on f i)) ((List.range D).map (needF met f i))).1 = (List.range D).map fun j => needF on f i j && needF met f i j := by
          unfold trimF
          rw [hlA]
          refine List.map_congr_left fun j hj => ?_
          have hj : j < D := by simpa using hj
          simp [List.getD_eq_getElem?_getD, hj]
        rw [et] at c5
        (refine gw ?_; refine Choice.mk ⟨false, Choice.mk ⟨false, _, _, c5, ?_⟩⟩)
        rw [e3]
        (refine gw ?_; exact RetN.fz ⟨[true, true, true], [], rfl, rfl, rfl⟩)
      · rw [if_neg (by omega)] at e3
        rw [e3]
        (refine gw ?_; exact RetN.fz ⟨[true, true, true], [], rfl, rfl, rfl⟩)
end Go.Ev.W
namespace Go.Ev.W
open Go.Ev Go.Ev.N

theorem bits_xor {x y : Nat} (hx : x < 9223372036854775808) (hy : y < 9223372036854775808) : bitsOp .xor .i64 (x : Int) (y : Int) = ((x ^^^ y : Nat) : Int) ∧ x ^^^ y < 9223372036854775808 := by
  have h0 : x ^^^ y < 2 ^ 63 := Nat.xor_lt_two_pow (n := 63) (by omega) (by omega)
  have e : (BitVec.ofInt 64 (x : Int) ^^^ BitVec.ofInt 64 (y : Int)).toNat = x ^^^ y := by
    rw [BitVec.toNat_xor, BitVec.ofInt_natCast, BitVec.ofInt_natCast, BitVec.toNat_ofNat, BitVec.toNat_ofNat, Nat.mod_eq_of_lt (by omega), Nat.mod_eq_of_lt (by omega)]
  refine ⟨?_, by omega⟩
  show IntKind.i64.wrap ((BitVec.ofInt 64 (x : Int) ^^^ BitVec.ofInt 64 (y : Int)).toNat : Int) = _
  rw [e]
  exact wrap64 (by omega) (by omega)
theorem bits_and {x y : Nat} (hx : x < 9223372036854775808) (hy : y < 9223372036854775808) : bitsOp .and .i64 (x : Int) (y : Int) = ((x &&& y : Nat) : Int) ∧ x &&& y < 9223372036854775808 := by
  have h0 : x &&& y < 2 ^ 63 := Nat.and_lt_two_pow (n := 63) x (by omega)
  have e : (BitVec.ofInt 64 (x : Int) &&& BitVec.ofInt 64 (y : Int)).toNat = x &&& y := by
    rw [BitVec.toNat_and, BitVec.ofInt_natCast, BitVec.ofInt_natCast, BitVec.toNat_ofNat, BitVec.toNat_ofNat, Nat.mod_eq_of_lt (by omega), Nat.mod_eq_of_lt (by omega)]
  refine ⟨?_, by omega⟩
  show IntKind.i64.wrap ((BitVec.ofInt 64 (x : Int) &&& BitVec.ofInt 64 (y : Int)).toNat : Int) = _
  rw [e]
  exact wrap64 (by omega) (by omega)
theorem calcAdd_told {a b : Int} (ha : 0 ≤ a) (hb : 0 ≤ b) (hab : a + b ≤ 9223372036854775807) : Told P T calc_Add [] [i64 a, i64 b] (.tup [i64 (a + b), .bool true]) [] := by
  obtain ⟨x, rfl⟩ : ∃ x : Nat, a = (x : Int) := ⟨a.toNat, by omega⟩
  obtain ⟨y, rfl⟩ : ∃ y : Nat, b = (y : Int) := ⟨b.toNat, by omega⟩
  obtain ⟨h1, h1'⟩ := bits_xor (x := x) (y := x + y) (by omega) (by omega)
  obtain ⟨h2, h2'⟩ := bits_xor (x := y) (y := x + y) (by omega) (by omega)
  obtain ⟨h3, h3'⟩ := bits_and h1' h2'
  rw [← Int.natCast_add]
  have hn : (((x : Int) + (y : Int))) = ((x + y : Nat) : Int) := by omega
  refine told_of_ev (fn := calc_Add_fn) tabOk mixed (by kernel_rfl) (by kernel_rfl) (by kernel_rfl) (by kernel_rfl) ?_
  (refine gw ?_)
  rw [hn, h1, h2, h3]
  (refine gw ?_; exact RetN.mk ⟨[], rfl, rfl, rfl⟩)
theorem calcLog_told (v : Int) (h2 : v ≤ 9223372036854775807) : Told P T calc_Log [] [i64 v] (.tup [i64 ((logF v).1 : Nat), .bool (logF v).2]) [] := by
  have hsh : ∀ m : Nat, (((2 ^ (m + 1) : Nat)) : Int).fdiv (2 ^ min (Int.toNat 1) IntKind.i64.bits) = ((2 ^ m : Nat) : Int) := fun m => by
    have : (2 : Int) ^ min (Int.toNat 1) IntKind.i64.bits = 2 := by decide
    rw [this, Int.fdiv_eq_ediv_of_nonneg _ (by omega), Nat.pow_succ]; omega
  by_cases h1 : v < 1
  · have e : logF v = (0, false) := by unfold logF; rw [if_neg (by omega)]
    rw [e]
    refine told_of_ev (fn := calc_Log_fn) tabOk mixed (by kernel_rfl) (by kernel_rfl) (by kernel_rfl) (by kernel_rfl) ?_
    (refine gw ?_; refine IfB.tt (by simp; omega) ?_)
    (refine gw ?_; exact RetN.mk ⟨[], rfl, rfl, rfl⟩)
  · obtain ⟨n, rfl⟩ : ∃ n : Nat, v = (n : Int) := ⟨v.toNat, by omega⟩
    have hn : n ≠ 0 := by omega
    obtain ⟨b1, b2⟩ := bits_and (x := n) (y := n - 1) (by omega) (by omega)
    have hc : ((n : Int) - 1) = ((n - 1 : Nat) : Int) := by omega
    have hp := Nat.and_sub_one_eq_zero_iff_isPowerOfTwo hn
    by_cases h0 : n &&& (n - 1) = 0
    · obtain ⟨K, hK⟩ := hp.1 h0
      have e : logF (n : Int) = (K, true) := by rw [hK]; exact logF_pow K
      rw [e]
      have hK63 : K < 63 := by
        refine (Nat.pow_lt_pow_iff_right (a := 2) (by omega)).1 ?_
        rw [← hK]; omega
      refine told_of_ev (fn := calc_Log_fn) tabOk mixed (by kernel_rfl) (by kernel_rfl) (by kernel_rfl) (by kernel_rfl) ?_
      (refine gw ?_; refine IfB.ff (by simp; omega) ?_)
      (refine gw ?_)
      rw [hc, b1, h0]
      (refine gw ?_; refine LoopN.mk ⟨[0,2], fun vs L => ∃ j : Nat, vs = [i64 (2 ^ (K - j) : Nat), i64 j] ∧ L = [] ∧ j ≤ K, fun vs L => match vs with | [_, .int _ i] => 63 - i.toNat | _ => 0, [], [], rfl, ⟨0, by rw [Nat.sub_zero, ← hK]; rfl, rfl, by omega⟩, ?_⟩)
      rintro vs L ⟨j, rfl, rfl, hj⟩
      by_cases hjK : j < K
      · obtain ⟨m, hm⟩ : ∃ m, K - j = m + 1 := ⟨K - j - 1, by omega⟩
        rw [hm]
        have hpos : 2 ≤ 2 ^ (m + 1) := by have := Nat.one_le_two_pow (n := m); rw [Nat.pow_succ]; omega
        have hs := hsh m
        generalize hq : 2 ^ (m + 1) = q at *
        (refine gw ?_; refine IfB.tt (by simp; omega) ?_)
        (refine gw ?_)
        rw [hs]
        (refine gw ?_; refine ⟨[], [], rfl, ⟨j + 1, by rw [show K - (j + 1) = m by omega]; rfl, rfl, by omega⟩, (by omega : 63 - ((j : Int) + 1).toNat < 63 - (j : Int).toNat)⟩)
      · have e : j = K := by omega
        subst e
        rw [Nat.sub_self]
        (refine gw ?_; exact RetN.mk ⟨[], rfl, rfl, rfl⟩)
    · have e : logF (n : Int) = (0, false) := by
        unfold logF
        rw [if_neg]
        rintro ⟨_, h4⟩
        refine h0 (hp.2 ⟨Nat.log2 n, ?_⟩)
        rw [Int.toNat_natCast] at h4
        omega
      rw [e]
      refine told_of_ev (fn := calc_Log_fn) tabOk mixed (by kernel_rfl) (by kernel_rfl) (by kernel_rfl) (by kernel_rfl) ?_
      (refine gw ?_; refine IfB.ff (by simp; omega) ?_)
      (refine gw ?_)
      rw [hc, b1]
      (refine gw ?_; refine IfB.tt (by simp; omega) ?_)
      (refine gw ?_; exact RetN.mk ⟨[], rfl, rfl, rfl⟩)
end Go.Ev.W
namespace Go.Ev.W
open Go.Ev Go.Ev.N

theorem classCharge_told {c : Cf} (hc : c.N ≤ 65536) (hg : c.G ≤ 65536) (hg1 : 1 ≤ c.G) (s a : Int) (ha : a ≤ 9223372036854775807) : Told P T class_Charge [] [eC c, i64 s, i64 a] (.tup [i64 ((chargeF c s a).1 : Nat), i64 ((chargeF c s a).2 : Nat)]) [] := by
  refine told_of_ev (fn := class_Charge_fn) tabOk mixed (by kernel_rfl) (by kernel_rfl) (by kernel_rfl) (by kernel_rfl) ?_
  (refine gw ?_; refine Choice.mk ⟨false, Choice.mk ⟨true, _, _, calcLog_told a ha, ?_⟩⟩)
  cases h1 : (logF a).2 with
  | false =>
    rw [show chargeF c s a = (0, 3) by unfold chargeF; rw [if_pos (.inl h1)]]
    (refine gw ?_; exact RetN.mk ⟨[], rfl, rfl, rfl⟩)
  | true =>
    have ha1 : 1 ≤ a := by
      unfold logF at h1; split at h1
      · rename_i h; exact h.1
      · cases h1
    (refine gw ?_; first | refine IfB.dec (fun h2 => ?_) (fun h2 => ?_) | refine IfB.eq (fun h2 => ?_) (fun h2 => ?_) | refine IfB.ne (fun h2 => ?_) (fun h2 => ?_) | refine IfB.mk (fun h2 => ?_) (fun h2 => ?_))
    · rw [show chargeF c s a = (0, 3) by unfold chargeF; rw [if_pos (.inr h2)]]
      (refine gw ?_; exact RetN.mk ⟨[], rfl, rfl, rfl⟩)
    · (refine gw ?_; first | refine IfB.dec (fun h3 => ?_) (fun h3 => ?_) | refine IfB.eq (fun h3 => ?_) (fun h3 => ?_) | refine IfB.ne (fun h3 => ?_) (fun h3 => ?_) | refine IfB.mk (fun h3 => ?_) (fun h3 => ?_))
      · rw [show chargeF c s a = (0, 4) by unfold chargeF; rw [if_neg (by rw [h1]; simp; omega), if_pos (.inl h3)]]
        (refine gw ?_; exact RetN.mk ⟨[], rfl, rfl, rfl⟩)
      · (refine gw ?_; first | refine IfB.dec (fun h4 => ?_) (fun h4 => ?_) | refine IfB.eq (fun h4 => ?_) (fun h4 => ?_) | refine IfB.ne (fun h4 => ?_) (fun h4 => ?_) | refine IfB.mk (fun h4 => ?_) (fun h4 => ?_))
        · rw [show chargeF c s a = (0, 4) by unfold chargeF; rw [if_neg (by rw [h1]; simp; omega), if_pos (.inr h4)]]
          (refine gw ?_; exact RetN.mk ⟨[], rfl, rfl, rfl⟩)
        · have cu := up_told (max (max s.toNat a.toNat) c.G) (by omega) (by omega)
          have e1 : (if a > s then a else s) = ((max s.toNat a.toNat : Nat) : Int) := by split <;> omega
          have e2 : (if ((c.G : Nat) : Int) > ((max s.toNat a.toNat : Nat) : Int) then ((c.G : Nat) : Int) else ((max s.toNat a.toNat : Nat) : Int)) = ((max (max s.toNat a.toNat) c.G : Nat) : Int) := by split <;> omega
          rw [← e2, ← e1] at cu
          rw [show chargeF c s a = (upN (max (max s.toNat a.toNat) c.G), 0) by unfold chargeF; rw [if_neg (by rw [h1]; simp; omega), if_neg (by omega)]]
          (refine gw ?_; refine Choice.mk ⟨false, Choice.mk ⟨true, _, _, cu, ?_⟩⟩)
          (refine gw ?_; exact RetN.mk ⟨[], rfl, rfl, rfl⟩)
theorem admitNew_told {c : Cf} (hc : c.Ok) (live s a : Int) (hl : 0 ≤ live ∧ live ≤ 1000000) (ha : a ≤ 9223372036854775807) : Told P T admit_New [] [eC c, i64 live, i64 s, i64 a] (.tup [i64 ((newF c live s a).1 : Nat), i64 ((newF c live s a).2 : Nat)]) [] := by
  have h1 := hc.nM
  have h2 := hc.mH
  have h3 := hc.gpos
  have h4 : c.G ≤ c.N := by rw [hc.n]; exact Nat.le_mul_of_pos_right _ (Nat.two_pow_pos _)
  have hb := (chargeF_bd hc s a).1
  have c2 := calcAdd_told (a := live) (b := ((chargeF c s a).1 : Nat)) (by omega) (by omega) (by omega)
  refine told_of_ev (fn := admit_New_fn) tabOk mixed (by kernel_rfl) (by kernel_rfl) (by kernel_rfl) (by kernel_rfl) ?_
  (refine gw ?_; refine Choice.mk ⟨false, Choice.mk ⟨true, _, _, classCharge_told (by omega) (by omega) h3 s a ha, ?_⟩⟩)
  (refine gw ?_; first | refine IfB.dec (fun g1 => ?_) (fun g1 => ?_) | refine IfB.eq (fun g1 => ?_) (fun g1 => ?_) | refine IfB.ne (fun g1 => ?_) (fun g1 => ?_) | refine IfB.mk (fun g1 => ?_) (fun g1 => ?_))
  · rw [show newF c live s a = (0, (chargeF c s a).2) by unfold newF; rw [if_pos (by omega)]]
    (refine gw ?_; exact RetN.mk ⟨[], rfl, rfl, rfl⟩)
  · (refine gw ?_; refine Choice.mk ⟨false, Choice.mk ⟨true, _, _, c2, ?_⟩⟩)
    (refine gw ?_; first | refine IfB.dec (fun g2 => ?_) (fun g2 => ?_) | refine IfB.eq (fun g2 => ?_) (fun g2 => ?_) | refine IfB.ne (fun g2 => ?_) (fun g2 => ?_) | refine IfB.mk (fun g2 => ?_) (fun g2 => ?_))
    · rw [show newF c live s a = (0, 5) by unfold newF; rw [if_neg (by omega), if_pos (by omega)]]
      (refine gw ?_; exact RetN.mk ⟨[], rfl, rfl, rfl⟩)
    · rw [show newF c live s a = ((chargeF c s a).1, 0) by unfold newF; rw [if_neg (by omega), if_neg (by omega)]]
      (refine gw ?_; exact RetN.mk ⟨[], rfl, rfl, rfl⟩)
theorem admitAnew_told {c : Cf} (hc : c.Ok) (live old s : Int) (hl : 0 ≤ old ∧ old ≤ live ∧ live ≤ 1000000) : Told P T admit_Anew [] [eC c, i64 live, i64 old, i64 s] (.tup [i64 ((newF c (live - old) s 1).1 : Nat), i64 ((newF c (live - old) s 1).2 : Nat)]) [] := by
  refine told_of_ev (fn := admit_Anew_fn) tabOk mixed (by kernel_rfl) (by kernel_rfl) (by kernel_rfl) (by kernel_rfl) ?_
  (refine gw ?_; refine Choice.mk ⟨false, Choice.mk ⟨true, _, _, admitNew_told hc (live - old) s 1 (by omega) (by omega), ?_⟩⟩)
  (refine gw ?_; exact RetN.mk ⟨[], rfl, rfl, rfl⟩)
end Go.Ev.W
namespace Go.Ev.W
open Go.Ev Go.Ev.N

theorem wrap_both (p : Int) : IntKind.i64.wrap (IntKind.u64.wrap p) = IntKind.i64.wrap p := by
  rw [IntKind.wrap_i64, IntKind.wrap_i64, IntKind.wrap_u64]; omega
theorem calcMul_told (n s : Int) (hn : 0 ≤ n ∧ n ≤ 9223372036854775807) (hs : 0 ≤ s ∧ s ≤ 9223372036854775807) : Told P T calc_Mul [] [i64 n, i64 s] (.tup [i64 (if n * s ≤ 9223372036854775807 then n * s else 0), .bool (decide (n * s ≤ 9223372036854775807))]) [] := by
  refine told_of_ev (fn := calc_Mul_fn) tabOk mixed (by kernel_rfl) (by kernel_rfl) (by kernel_rfl) (by kernel_rfl) ?_
  (refine gw ?_; first | refine IfB.dec (fun h1 => ?_) (fun h1 => ?_) | refine IfB.eq (fun h1 => ?_) (fun h1 => ?_) | refine IfB.ne (fun h1 => ?_) (fun h1 => ?_) | refine IfB.mk (fun h1 => ?_) (fun h1 => ?_))
  · rw [h1, Int.zero_mul]
    (refine gw ?_; exact RetN.mk ⟨[], rfl, rfl, rfl⟩)
  · (refine gw ?_; first | refine IfB.dec (fun h2 => ?_) (fun h2 => ?_) | refine IfB.eq (fun h2 => ?_) (fun h2 => ?_) | refine IfB.ne (fun h2 => ?_) (fun h2 => ?_) | refine IfB.mk (fun h2 => ?_) (fun h2 => ?_))
    · rw [h2, Int.mul_zero]
      (refine gw ?_; exact RetN.mk ⟨[], rfl, rfl, rfl⟩)
    · (refine gw ?_; refine IfB.ff (by simp; omega) ?_)
      (refine gw ?_; refine IfB.ff (by simp; omega) ?_)
      by_cases h : n * s ≤ 9223372036854775807
      · rw [if_pos h, decide_eq_true h]
        have hp : 0 ≤ n * s := Int.mul_nonneg hn.1 hs.1
        have e : (n * s).tdiv s = n := Int.mul_tdiv_cancel _ (by omega)
        (refine gw ?_; refine IfB.ff (by simpa using e) ?_)
        (refine gw ?_; exact RetN.mk ⟨[], rfl, rfl, rfl⟩)
      · rw [if_neg h, decide_eq_false h]
        have hne := mul_over hn.1 (s := s) (by omega) (by omega)
        obtain ⟨w, hw⟩ : ∃ w, IntKind.i64.wrap (n * s) = w := ⟨_, rfl⟩
        have hwr : -9223372036854775808 ≤ w ∧ w ≤ 9223372036854775807 := by
          rw [← hw, IntKind.wrap_i64]; omega
        rw [hw] at hne
        have ht := tdiv_rng hwr.1 hwr.2 (s := s) (by omega)
        (refine gw ?_)
        refine ⟨?_⟩
        (refine gw ?_)
        refine ⟨?_⟩
        rw [wrap_both, hw]
        (refine gw ?_; refine IfB.tt (by simpa using hne) ?_)
        (refine gw ?_; exact RetN.mk ⟨[], rfl, rfl, rfl⟩)
theorem classProd_told {c : Cf} (hc : c.N ≤ 65536) (n s : Int) (hn : -9223372036854775808 ≤ n ∧ n ≤ 9223372036854775807) (hs : -9223372036854775808 ≤ s ∧ s ≤ 9223372036854775807) : Told P T class_Product [] [eC c, i64 n, i64 s] (.tup [i64 ((prodF c n s).1 : Nat), i64 ((prodF c n s).2 : Nat)]) [] := by
  refine told_of_ev (fn := class_Product_fn) tabOk mixed (by kernel_rfl) (by kernel_rfl) (by kernel_rfl) (by kernel_rfl) ?_
  (refine gw ?_; first | refine IfB.dec (fun h1 => ?_) (fun h1 => ?_) | refine IfB.eq (fun h1 => ?_) (fun h1 => ?_) | refine IfB.ne (fun h1 => ?_) (fun h1 => ?_) | refine IfB.mk (fun h1 => ?_) (fun h1 => ?_))
  · rw [show prodF c n s = (0, 2) by unfold prodF; rw [if_pos (.inl h1)]]
    (refine gw ?_; exact RetN.mk ⟨[], rfl, rfl, rfl⟩)
  · (refine gw ?_; first | refine IfB.dec (fun h2 => ?_) (fun h2 => ?_) | refine IfB.eq (fun h2 => ?_) (fun h2 => ?_) | refine IfB.ne (fun h2 => ?_) (fun h2 => ?_) | refine IfB.mk (fun h2 => ?_) (fun h2 => ?_))
    · rw [show prodF c n s = (0, 2) by unfold prodF; rw [if_pos (.inr h2)]]
      (refine gw ?_; exact RetN.mk ⟨[], rfl, rfl, rfl⟩)
    · have hm := calcMul_told n s (by omega) (by omega)
      have hp : 0 ≤ n * s := Int.mul_nonneg (by omega) (by omega)
      by_cases h : n * s ≤ 9223372036854775807
      · rw [if_pos h, decide_eq_true h] at hm
        (refine gw ?_; refine Choice.mk ⟨false, Choice.mk ⟨true, _, _, hm, ?_⟩⟩)
        (refine gw ?_; first | refine IfB.dec (fun h3 => ?_) (fun h3 => ?_) | refine IfB.eq (fun h3 => ?_) (fun h3 => ?_) | refine IfB.ne (fun h3 => ?_) (fun h3 => ?_) | refine IfB.mk (fun h3 => ?_) (fun h3 => ?_))
        · rw [show prodF c n s = (0, 4) by unfold prodF; rw [if_neg (by omega), if_neg (by omega)]]
          (refine gw ?_; exact RetN.mk ⟨[], rfl, rfl, rfl⟩)
        · rw [show prodF c n s = ((n * s).toNat, 0) by unfold prodF; rw [if_neg (by omega), if_pos (by omega)]]
          have e : (((n * s).toNat : Nat) : Int) = n * s := by omega
          rw [e]
          (refine gw ?_; exact RetN.mk ⟨[], rfl, rfl, rfl⟩)
      · rw [if_neg h, decide_eq_false h] at hm
        rw [show prodF c n s = (0, 4) by unfold prodF; rw [if_neg (by omega), if_neg (by omega)]]
        (refine gw ?_; refine Choice.mk ⟨false, Choice.mk ⟨true, _, _, hm, ?_⟩⟩)
        (refine gw ?_; exact RetN.mk ⟨[], rfl, rfl, rfl⟩)
theorem admitMany_told {c : Cf} (hc : c.Ok) (live n s : Int) (hl : 0 ≤ live ∧ live ≤ 1000000) (hn : -9223372036854775808 ≤ n ∧ n ≤ 9223372036854775807) (hs : -9223372036854775808 ≤ s ∧ s ≤ 9223372036854775807) : Told P T admit_Many [] [eC c, i64 live, i64 n, i64 s] (.tup [i64 ((manyF c live n s).1 : Nat), i64 ((manyF c live n s).2 : Nat)]) [] := by
  have h1 := hc.nM
  have h2 := hc.mH
  have h3 := prodF_bd (c := c) n s
  refine told_of_ev (fn := admit_Many_fn) tabOk mixed (by kernel_rfl) (by kernel_rfl) (by kernel_rfl) (by kernel_rfl) ?_
  (refine gw ?_; refine Choice.mk ⟨false, Choice.mk ⟨true, _, _, classProd_told (c := c) (by omega) n s hn hs, ?_⟩⟩)
  (refine gw ?_; first | refine IfB.dec (fun g1 => ?_) (fun g1 => ?_) | refine IfB.eq (fun g1 => ?_) (fun g1 => ?_) | refine IfB.ne (fun g1 => ?_) (fun g1 => ?_) | refine IfB.mk (fun g1 => ?_) (fun g1 => ?_))
  · rw [show manyF c live n s = (0, (prodF c n s).2) by unfold manyF; rw [if_pos (by omega)]]
    (refine gw ?_; exact RetN.mk ⟨[], rfl, rfl, rfl⟩)
  · rw [show manyF c live n s = newF c live (prodF c n s).1 1 by unfold manyF; rw [if_neg (by omega)]]
    (refine gw ?_; refine Choice.mk ⟨false, Choice.mk ⟨true, _, _, admitNew_told hc live ((prodF c n s).1 : Nat) 1 hl (by omega), ?_⟩⟩)
    (refine gw ?_; exact RetN.mk ⟨[], rfl, rfl, rfl⟩)
end Go.Ev.W
namespace Go.Ev.W
open Go.Ev Go.Ev.N

theorem calcRound_told (v t : Nat) (hv : v ≤ 1000000) (h1 : 1 ≤ t) (h2 : t ≤ 1000000) : Told P T calc_Round [] [i64 v, i64 t] (.tup [i64 (rnd v t : Nat), .bool true]) [] := by
  have em : ((v : Nat) : Int).tmod (t : Nat) = ((v % t : Nat) : Int) := by rw [Int.tmod_eq_emod_of_nonneg (by omega)]; omega
  have hm := Nat.mod_lt v h1
  have hd := Nat.mod_le v t
  have e0 : v % t = 0 → rnd v t = v := fun h => by unfold rnd; rw [if_pos h]
  have e1 : v % t ≠ 0 → rnd v t = v - v % t + t := fun h => by unfold rnd; rw [if_neg h]
  generalize v % t = r at *
  refine told_of_ev (fn := calc_Round_fn) tabOk mixed (by kernel_rfl) (by kernel_rfl) (by kernel_rfl) (by kernel_rfl) ?_
  (refine gw ?_; refine IfB.ff (by simp; omega) ?_)
  (refine gw ?_)
  rw [em]
  by_cases h5 : r = 0
  · rw [e0 h5]
    (refine gw ?_; refine IfB.tt (by simp [h5]) ?_)
    (refine gw ?_; exact RetN.mk ⟨[], rfl, rfl, rfl⟩)
  · rw [e1 h5]
    (refine gw ?_; refine IfB.ff (by simp; omega) ?_)
    have c := calcAdd_told (a := (v : Int)) (b := (t : Int) - (r : Int)) (by omega) (by omega) (by omega)
    have e2 : ((v - r + t : Nat) : Int) = (v : Int) + ((t : Int) - (r : Int)) := by omega
    rw [e2]
    (refine gw ?_; refine Choice.mk ⟨false, Choice.mk ⟨true, _, _, c, ?_⟩⟩)
    (refine gw ?_; exact RetN.mk ⟨[], rfl, rfl, rfl⟩)
theorem confWithin_told (l : List Int) (hl : l.length ≤ 1000) : Told P T conf_within [] [.lst t_int (l.map i64)] (.bool (l.all inR)) [] := by
  have hml : (l.map i64).length = l.length := by simp
  refine told_of_ev (fn := conf_within_fn) tabOk mixed (by kernel_rfl) (by kernel_rfl) (by kernel_rfl) (by kernel_rfl) ?_
  (refine gw ?_; refine LoopN.mk ⟨[5,6,7], fun vs L => ∃ i : Nat, vs = [.lst t_int (l.map i64), i64 (l.map i64).length, i64 i] ∧ L = [] ∧ i ≤ l.length ∧ (l.take i).all inR = true, fun vs L => match vs with | [_, _, .int _ i] => l.length - i.toNat | _ => 0, [], [], rfl, ⟨0, rfl, rfl, by omega, rfl⟩, ?_⟩)
  rintro vs L ⟨i, rfl, rfl, hi, hin⟩
  (refine gw ?_; first | refine IfB.dec (fun h1 => ?_) (fun h1 => ?_) | refine IfB.eq (fun h1 => ?_) (fun h1 => ?_) | refine IfB.ne (fun h1 => ?_) (fun h1 => ?_) | refine IfB.mk (fun h1 => ?_) (fun h1 => ?_))
  · have hlt : i < l.length := by omega
    have hbad : inR l[i] = false → l.all inR = false := fun h => by
      rw [List.all_eq_false]
      exact ⟨l[i], List.getElem_mem hlt, by rw [h]; simp⟩
    have hnext : inR l[i] = true → (l.take (i + 1)).all inR = true := fun h => by
      rw [List.take_succ_eq_append_getElem hlt, List.all_append, hin]; simp [h]
    (refine gw ?_; refine idx_map (hlt) ?_)
    generalize l[i] = x at *
    (refine gw ?_; first | refine IfB.dec (fun h2 => ?_) (fun h2 => ?_) | refine IfB.eq (fun h2 => ?_) (fun h2 => ?_) | refine IfB.ne (fun h2 => ?_) (fun h2 => ?_) | refine IfB.mk (fun h2 => ?_) (fun h2 => ?_))
    · rw [hbad (by simp [inR]; omega)]
      (refine gw ?_; exact RetN.mk ⟨[], rfl, rfl, rfl⟩)
    · (refine gw ?_; first | refine IfB.dec (fun h3 => ?_) (fun h3 => ?_) | refine IfB.eq (fun h3 => ?_) (fun h3 => ?_) | refine IfB.ne (fun h3 => ?_) (fun h3 => ?_) | refine IfB.mk (fun h3 => ?_) (fun h3 => ?_))
      · rw [hbad (by simp [inR]; omega)]
        (refine gw ?_; exact RetN.mk ⟨[], rfl, rfl, rfl⟩)
      · (refine gw ?_; refine ⟨[], [], rfl, ⟨i + 1, rfl, rfl, hlt, hnext (by simp [inR]; omega)⟩, (by omega : l.length - ((i : Int) + 1).toNat < l.length - (i : Int).toNat)⟩)
  · have e : i = l.length := by omega
    subst e
    rw [List.take_length] at hin
    rw [hin]
    (refine gw ?_; exact RetN.mk ⟨[], rfl, rfl, rfl⟩)
end Go.Ev.W
namespace Go.Ev.W
open Go.Ev Go.Ev.N

set_option maxHeartbeats 8000000 in
theorem confOf_told (r : Rw) : Told P T conf_Of [] [eR r] (.tup [eC (ofF r).1, i64 ((ofF r).2 : Nat)]) [] := by
  have bad : r.ok = false → ofF r = (cf0, 1) := fun h => by unfold ofF; rw [if_neg (by rw [h]; simp)]
  have hsl : ∀ x : Int, x * 2 ^ min (Int.toNat 1) IntKind.i64.bits = x * 2 := fun x => by
    have : (2 : Int) ^ min (Int.toNat 1) IntKind.i64.bits = 2 := by decide
    rw [this]
  have hsr : ∀ x : Nat, ((x : Nat) : Int).fdiv (2 ^ min (Int.toNat 1) IntKind.i64.bits) = ((x / 2 : Nat) : Int) := fun x => by
    have : (2 : Int) ^ min (Int.toNat 1) IntKind.i64.bits = 2 := by decide
    rw [this, Int.fdiv_eq_ediv_of_nonneg _ (by omega)]; omega
  obtain ⟨g, l, m, p, b, s⟩ := r
  have c0 := confWithin_told [g, l, m, p] (by simp)
  have hr0 : (Rw.ok ⟨g, l, m, p, b, s⟩) = (([g, l, m, p] : List Int).all inR && decide (0 ≤ b ∧ b ≤ 65536) && decide (0 ≤ s ∧ s ≤ 255)) := by
    simp only [Rw.ok, List.all_cons, List.all_nil, Bool.and_true, Bool.and_assoc]
  refine told_of_ev (fn := conf_Of_fn) tabOk mixed (by kernel_rfl) (by kernel_rfl) (by kernel_rfl) (by kernel_rfl) ?_
  (refine gw ?_; refine Choice.mk ⟨false, Choice.mk ⟨true, _, _, c0, ?_⟩⟩)
  by_cases hin : ([g, l, m, p] : List Int).all inR = true
  · rw [hin] at hr0 ⊢
    simp only [List.all_cons, List.all_nil, Bool.and_true, Bool.and_eq_true, inR, decide_eq_true_eq] at hin
    obtain ⟨i1, i2, i3, i4⟩ := hin
    have hr : (Rw.ok ⟨g, l, m, p, b, s⟩) = (decide (0 ≤ b ∧ b ≤ 65536) && decide (0 ≤ s ∧ s ≤ 255)) := by rw [hr0, Bool.true_and]
    by_cases hbs : (0 ≤ b ∧ b ≤ 65536) ∧ 0 ≤ s ∧ s ≤ 255
    · (refine gw ?_; refine IfB.ff (by simp; omega) ?_)
      (refine gw ?_; refine IfB.ff (by simp; omega) ?_)
      (refine gw ?_; refine IfB.ff (by simp; omega) ?_)
      (refine gw ?_; refine IfB.ff (by simp; omega) ?_)
      have hok : Rw.ok ⟨g, l, m, p, b, s⟩ = true := by rw [hr]; simp; omega
      obtain ⟨G, hG⟩ : ∃ G, upN g.toNat = G := ⟨_, rfl⟩
      obtain ⟨N, hN⟩ : ∃ N, upN (max l.toNat G) = N := ⟨_, rfl⟩
      obtain ⟨Pg, hPg⟩ : ∃ Pg, upN (max p.toNat G) = Pg := ⟨_, rfl⟩
      obtain ⟨M, hM⟩ : ∃ M, rnd m.toNat (2 * max N Pg) = M := ⟨_, rfl⟩
      obtain ⟨K, hK⟩ : ∃ K, Nat.log2 (N / G) = K := ⟨_, rfl⟩
      have hcf : cfOf ⟨g, l, m, p, b, s⟩ = ⟨G, N, M, K, Pg, b.toNat, M + K * (M / 2), s.toNat⟩ := by
        unfold cfOf; simp only [hG, hN, hPg, hM, hK]
      have bG := upN_lt (v := g.toNat) (by omega)
      have bG0 := upN_pos g.toNat
      rw [hG] at bG bG0
      have bN := upN_lt (v := max l.toNat G) (by omega)
      rw [hN] at bN
      have bN0 := le_upN (max l.toNat G)
      rw [hN] at bN0
      have bP := upN_lt (v := max p.toNat G) (by omega)
      rw [hPg] at bP
      have c1 := up_told g.toNat (by omega) (by omega)
      rw [hG, show ((g.toNat : Nat) : Int) = g by omega] at c1
      have c2 := up_told (max l.toNat G) (by omega) (by omega)
      rw [hN, show ((max l.toNat G : Nat) : Int) = (if ((G : Nat) : Int) > l then ((G : Nat) : Int) else l) by split <;> omega] at c2
      have c3 := up_told (max p.toNat G) (by omega) (by omega)
      rw [hPg, show ((max p.toNat G : Nat) : Int) = (if ((G : Nat) : Int) > p then ((G : Nat) : Int) else p) by split <;> omega] at c3
      have c4 := calcRound_told m.toNat (2 * max N Pg) (by omega) (by omega) (by omega)
      rw [hM, show ((2 * max N Pg : Nat) : Int) = (if ((Pg : Nat) : Int) > ((N : Nat) : Int) then ((Pg : Nat) : Int) else ((N : Nat) : Int)) * 2 by split <;> omega, show ((m.toNat : Nat) : Int) = m by omega] at c4
      obtain ⟨q, q1, q2, q3⟩ := rnd_spec (v := m.toNat) (t := 2 * max N Pg) (by omega)
      rw [hM] at q1 q2 q3
      obtain ⟨k0, hk0⟩ := pow_up (v := l.toNat) (hG ▸ upN_pow g.toNat)
      rw [hN] at hk0
      have hK0 : K = k0 := by rw [← hK]; exact log_of bG0 hk0
      have c5 := calcLog_told ((N / G : Nat) : Int) (by have := Nat.div_le_self N G; omega)
      have e5 : N / G = 2 ^ K := by rw [hk0, hK0, Nat.mul_div_cancel_left _ (by omega)]
      rw [e5, logF_pow, ← e5, show ((N / G : Nat) : Int) = ((N : Nat) : Int).tdiv ((G : Nat) : Int) by rw [Int.tdiv_eq_ediv_of_nonneg (by omega)]; omega] at c5
      have bK : K < 20 := by
        have h6 : 2 ^ K ≤ 2 ^ 18 := by rw [← e5]; have := Nat.div_le_self N G; omega
        have := (Nat.pow_le_pow_iff_right (a := 2) (by omega)).1 h6
        omega
      have bKM : K * (M / 2) ≤ 20 * (M / 2) := Nat.mul_le_mul_right _ (by omega)
      have hM2 : ((M : Nat) : Int).tdiv 2 = ((M / 2 : Nat) : Int) := by rw [Int.tdiv_eq_ediv_of_nonneg (by omega)]; omega
      have hKM : ((K : Nat) : Int) * ((M / 2 : Nat) : Int) = ((K * (M / 2) : Nat) : Int) := by rw [Int.natCast_mul]
      (refine gw ?_; refine Choice.mk ⟨false, Choice.mk ⟨false, _, _, c1, ?_⟩⟩)
      (refine gw ?_; refine Choice.mk ⟨false, Choice.mk ⟨false, _, _, c2, ?_⟩⟩)
      (refine gw ?_; refine Choice.mk ⟨false, Choice.mk ⟨false, _, _, c3, ?_⟩⟩)
      (refine gw ?_)
      rw [hsl]
      (refine gw ?_; refine Choice.mk ⟨false, Choice.mk ⟨false, _, _, c4, ?_⟩⟩)
      have hdiv : ((N : Nat) : Int).tdiv ((G : Nat) : Int) = ((N / G : Nat) : Int) := by rw [Int.tdiv_eq_ediv_of_nonneg (by omega)]; omega
      have hdle := Nat.div_le_self N G
      have hd0 : (0 : Int) ≤ ((N / G : Nat) : Int) := Int.natCast_nonneg _
      (refine gw ?_)
      (refine gw ?_; refine Choice.mk ⟨false, Choice.mk ⟨true, _, _, c5, ?_⟩⟩)
      (refine gw ?_)
      rw [hsr]
      (refine gw ?_)
      rw [hKM]
      (refine gw ?_)
      have hH : (M : Int) + ((K * (M / 2) : Nat) : Int) = ((M + K * (M / 2) : Nat) : Int) := by omega
      rw [hH]
      (refine gw ?_; first | refine IfB.dec (fun h6 => ?_) (fun h6 => ?_) | refine IfB.eq (fun h6 => ?_) (fun h6 => ?_) | refine IfB.ne (fun h6 => ?_) (fun h6 => ?_) | refine IfB.mk (fun h6 => ?_) (fun h6 => ?_))
      · rw [show ofF ⟨g, l, m, p, b, s⟩ = (cf0, 1) by unfold ofF; rw [if_neg (by rw [hcf]; simp only; omega)]]
        (refine gw ?_; exact RetN.mk ⟨[], rfl, rfl, rfl⟩)
      · rw [show ofF ⟨g, l, m, p, b, s⟩ = (cfOf ⟨g, l, m, p, b, s⟩, 0) by unfold ofF; rw [if_pos ⟨hok, by rw [hcf]; simp only; omega⟩], hcf]
        (refine gw ?_; refine RetN.mk ⟨[], rfl, ?_, rfl⟩)
        rw [show b = ((b.toNat : Nat) : Int) by omega, show s = ((s.toNat : Nat) : Int) by omega]
        rfl

    · rw [bad (by rw [hr]; simp; omega)]
      by_cases h2 : b < 0
      · (refine gw ?_; refine IfB.tt (by simp; omega) ?_)
        (refine gw ?_; exact RetN.mk ⟨[], rfl, rfl, rfl⟩)
      (refine gw ?_; refine IfB.ff (by simp; omega) ?_)
      by_cases h3 : b > 65536
      · (refine gw ?_; refine IfB.tt (by simp; omega) ?_)
        (refine gw ?_; exact RetN.mk ⟨[], rfl, rfl, rfl⟩)
      (refine gw ?_; refine IfB.ff (by simp; omega) ?_)
      by_cases h4 : s < 0
      · (refine gw ?_; refine IfB.tt (by simp; omega) ?_)
        (refine gw ?_; exact RetN.mk ⟨[], rfl, rfl, rfl⟩)
      (refine gw ?_; refine IfB.ff (by simp; omega) ?_)
      (refine gw ?_; refine IfB.tt (by simp; omega) ?_)
      (refine gw ?_; exact RetN.mk ⟨[], rfl, rfl, rfl⟩)
  · have hin : ([g, l, m, p] : List Int).all inR = false := by simpa using hin
    rw [bad (by rw [hr0, hin]; simp)]
    rw [hin]
    (refine gw ?_; exact RetN.mk ⟨[], rfl, rfl, rfl⟩)
end Go.Ev.W
namespace Go.Ev.W
open Go.Ev Go.Ev.N

/-- A heap, as it lies: what there is, the engine, blocks, figures, how many meet each page, which pages are there, bytes. -/
def hpV (c : Cf) (g cl : Nat) (b : Nat → Bool) (m : List M) (live peak mark : Int) (on : List Bool) : AV :=
  .agg [i64 c.G, i64 c.N, i64 c.M, i64 c.L, i64 c.Pg, i64 c.P, i64 c.H, i64 c.Sd, i64 c.G, .lst t_api_Tree (tL g cl b), .lst t_api_Mark (m.map encM), .mp 1, i64 live, i64 peak, i64 mark, .ref 2, .lst t_bool (on.map .bool), .ref 3]
def encS (ds : List Bk) : List (AV × AV) := ds.map fun x => (.agg [i64 x.a], eB x)
def hpL (c : Cf) (g cl : Nat) (b : Nat → Bool) (m : List M) (live peak mark : Int) (on : List Bool) (ds : List Bk) (met : List Int) (mem : List Nat) : List Blk :=
  [.var (hpV c g cl b m live peak mark on), .map t_heap_start (encS ds), .row t_int (met.map i64), .row t_uint8 (mem.map u8)]
def pagesF (met : List Int) : List Bool := met.map fun n => decide (n > 0)
/-- The same, as far as so many. -/
def pgP (met : List Int) (k : Nat) : List Bool := (List.range met.length).map fun i => decide (i < k) && decide (met.getD i 0 > 0)
theorem pgP_len (met : List Int) (k : Nat) : (pgP met k).length = met.length := by simp [pgP]
theorem pgP_zero (met : List Int) : pgP met 0 = List.replicate met.length false := by
  apply List.ext_getElem (by simp [pgP])
  intro i h1 h2
  simp [pgP]
theorem pgP_end (met : List Int) : pgP met met.length = pagesF met := by
  apply List.ext_getElem (by simp [pgP, pagesF])
  intro i h1 h2
  have hi : i < met.length := by rw [pgP_len] at h1; exact h1
  simp [pgP, pagesF, hi, List.getD_eq_getElem?_getD]
theorem pgP_set {met : List Int} {k : Nat} (h : k < met.length) : (pgP met k).set k (decide (met[k] > 0)) = pgP met (k + 1) := by
  apply List.ext_getElem (by simp [pgP])
  intro i h1 h2
  have hi : i < met.length := by rw [pgP_len] at h2; exact h2
  rw [List.getElem_set]
  simp only [pgP, List.getElem_map, List.getElem_range]
  split
  · rename_i e; subst e
    rw [decide_eq_true (show k < k + 1 by omega), Bool.true_and, List.getD_eq_getElem?_getD, List.getElem?_eq_getElem h]; rfl
  · rename_i e
    rw [show decide (i < k + 1) = decide (i < k) from decide_eq_decide.2 (by omega)]
set_option maxHeartbeats 1000000 in
theorem hpPages_told (c : Cf) (g cl : Nat) (b : Nat → Bool) (m : List M) (live peak mark : Int) (on : List Bool) (ds : List Bk) (met : List Int) (mem : List Nat) (hl : met.length ≤ 65536) :
    Told P T heap_Heap_pages (hpL c g cl b m live peak mark on ds met mem) [.ptr 0 0 0] (lT (pagesF met)) (hpL c g cl b m live peak mark on ds met mem) := by
  have hml : (met.map i64).length = met.length := by simp
  unfold hpL hpV
  refine told_of_ev (fn := heap_Heap_pages_fn) tabOk mixed (by kernel_rfl) (by kernel_rfl) (by kernel_rfl) (by kernel_rfl) ?_
  (refine gw ?_)
  rw [hml]
  refine Room.mk (by omega) ?_
  have hz : List.replicate ((met.length : Nat) : Int).toNat (zeroE T t_bool) = (pgP met 0).map AV.bool := by rw [Int.toNat_natCast, pgP_zero, List.map_replicate]; rfl
  (refine gw ?_; refine LoopN.mk ⟨[3,15,16,17], fun vs L => ∃ k : Nat, vs = [.ref 4, .ref 2, i64 (met.map i64).length, i64 k] ∧ L = [.var (hpV c g cl b m live peak mark on), .map t_heap_start (encS ds), .row t_int (met.map i64), .row t_uint8 (mem.map u8), .row t_bool ((pgP met k).map .bool)] ∧ k ≤ met.length, fun vs L => match vs with | [_, _, _, .int _ i] => met.length - i.toNat | _ => 0, [], [5], rfl, ⟨0, rfl, by rw [← hz]; rfl, by omega⟩, ?_⟩)
  rintro vs L ⟨k, rfl, rfl, hk⟩
  have hpl : ((pgP met k).map AV.bool).length = met.length := by rw [List.length_map, pgP_len]
  by_cases hkl : k < met.length
  · have hs := pgP_set hkl
    have hx : ∀ Q : AV → Prop, Q (i64 met[k]) → At (met.map i64) ((k : Nat) : Int).toNat Q := fun Q q => at_map hkl q
    (refine gw ?_; refine IfB.tt (by rw [hml]; simp; omega) ?_)
    (refine gw ?_)
    refine hx _ ?_
    (refine gw ?_; refine ⟨[], [4], rfl, ⟨k + 1, rfl, by rw [← hs, List.map_set]; rfl, hkl⟩, (by omega : met.length - ((k : Int) + 1).toNat < met.length - (k : Int).toNat)⟩)
  · obtain rfl : k = met.length := by omega
    rw [pgP_end]
    (refine gw ?_)
    exact RetN.fz ⟨[true], [], rfl, rfl, rfl⟩
end Go.Ev.W
namespace Go.Ev.W
open Go.Ev Go.Ev.N

/-- Pages that are met by one more, or less. -/
def metA (met : List Int) (f k : Nat) (v : Int) : List Int := (List.range met.length).map fun i => if f ≤ i ∧ i < k then met.getD i 0 + v else met.getD i 0
theorem metA_len (met : List Int) (f k : Nat) (v : Int) : (metA met f k v).length = met.length := by simp [metA]
theorem metA_none (met : List Int) (f : Nat) (v : Int) : metA met f f v = met := by
  apply List.ext_getElem (by simp [metA])
  intro i h1 h2
  simp only [metA, List.getElem_map, List.getElem_range]
  rw [if_neg (by omega), List.getD_eq_getElem?_getD, List.getElem?_eq_getElem h2]; rfl
theorem metA_get {met : List Int} {f k : Nat} {v : Int} (h : k < met.length) : (metA met f k v)[k]'(by rw [metA_len]; exact h) = met.getD k 0 := by
  simp only [metA, List.getElem_map, List.getElem_range]
  rw [if_neg (by omega)]
theorem metA_set {met : List Int} {f k : Nat} {v : Int} (hf : f ≤ k) (h : k < met.length) : (metA met f k v).set k (met.getD k 0 + v) = metA met f (k + 1) v := by
  apply List.ext_getElem (by simp [metA])
  intro i h1 h2
  rw [List.getElem_set]
  simp only [metA, List.getElem_map, List.getElem_range]
  split
  · rename_i e; subst e; rw [if_pos (by omega)]
  · rename_i e
    by_cases hq : f ≤ i ∧ i < k
    · rw [if_pos hq, if_pos (by omega)]
    · rw [if_neg hq, if_neg (by omega)]
set_option maxHeartbeats 2000000 in
theorem hpMeets_told (c : Cf) (g cl : Nat) (b : Nat → Bool) (m : List M) (live peak mark : Int) (on : List Bool) (ds : List Bk) (met : List Int) (mem : List Nat) (hl : met.length ≤ 65536) (hpg : 1 ≤ c.Pg) (y n : Nat) (q : Int) (hn : 1 ≤ n) (hyn : y + n ≤ 1000000) (v : Int) (hv : -1 ≤ v ∧ v ≤ 1) (hb : ∀ i, -1000000 ≤ met.getD i 0 ∧ met.getD i 0 ≤ 1000000) (hfit : (y + n - 1) / c.Pg + 1 ≤ met.length) :
    Told P T heap_Heap_meets (hpL c g cl b m live peak mark on ds met mem) [.ptr 0 0 0, .agg [i64 y, i64 n, i64 q], i64 v] (.tup []) (hpL c g cl b m live peak mark on ds (metA met (y / c.Pg) ((y + n - 1) / c.Pg + 1) v) mem) := by
  have c1 := pinPages_told (pg := c.Pg) hpg hn hyn
  have hfb : y / c.Pg ≤ (y + n - 1) / c.Pg + 1 := by
    have : y / c.Pg ≤ (y + n - 1) / c.Pg := Nat.div_le_div_right (by omega)
    omega
  have hnone := metA_none met (y / c.Pg) v
  unfold hpL hpV
  generalize y / c.Pg = f at *
  generalize (y + n - 1) / c.Pg + 1 = e at *
  refine told_of_ev (fn := heap_Heap_meets_fn) tabOk mixed (by kernel_rfl) (by kernel_rfl) (by kernel_rfl) (by kernel_rfl) ?_
  (refine gw ?_; refine Choice.mk ⟨false, Choice.mk ⟨false, _, _, c1, ?_⟩⟩)
  (refine gw ?_; refine LoopN.mk ⟨[0,2,7,8], fun vs L => ∃ k : Nat, vs = [.ptr 0 0 0, i64 v, i64 e, i64 k] ∧ L = [.var (hpV c g cl b m live peak mark on), .map t_heap_start (encS ds), .row t_int ((metA met f k v).map i64), .row t_uint8 (mem.map u8)] ∧ f ≤ k ∧ k ≤ e, fun vs L => match vs with | [_, _, _, .int _ i] => e - i.toNat | _ => 0, [], [], rfl, ⟨f, rfl, by rw [hnone]; rfl, by omega, hfb⟩, ?_⟩)
  rintro vs L ⟨k, rfl, rfl, hk1, hk2⟩
  have hml : ((metA met f k v).map i64).length = met.length := by rw [List.length_map, metA_len]
  have hif : (if ((met.length : Nat) : Int) < (e : Int) then ((met.length : Nat) : Int) else (e : Int)) = e := if_neg (by omega)
  (refine gw ?_)
  rw [hml, hif]
  by_cases hke : k < e
  · have hkl : k < (metA met f k v).length := by rw [metA_len]; omega
    have hx : ∀ Q : AV → Prop, Q (i64 (met.getD k 0)) → At ((metA met f k v).map i64) ((k : Nat) : Int).toNat Q := fun Q q => at_map (k := k) hkl (by rw [metA_get (by omega)]; exact q)
    have hset := metA_set (v := v) hk1 (show k < met.length by omega)
    have hbk := hb k
    (refine gw ?_; refine IfB.tt (by simp; omega) ?_)
    (refine gw ?_)
    refine hx _ ?_
    (refine gw ?_; refine ⟨[], [], rfl, ⟨k + 1, rfl, by rw [← hset, List.map_set]; rfl, by omega, hke⟩, (by omega : e - ((k : Int) + 1).toNat < e - (k : Int).toNat)⟩)
  · obtain rfl : k = e := by omega
    (refine gw ?_; exact RetN.mk ⟨[], rfl, rfl, rfl⟩)
end Go.Ev.W
namespace Go.Ev.W
open Go.Ev Go.Ev.N

def getS (y : Int) : List Bk → Option Bk
  | [] => none
  | x :: l => if y = x.a then some x else getS y l
def setS (x : Bk) : List Bk → List Bk
  | [] => [x]
  | z :: l => if x.a = z.a then x :: l else z :: setS x l
def delS (y : Int) : List Bk → List Bk
  | [] => []
  | x :: l => if y = x.a then l else x :: delS y l
theorem eqS (a b : Int) : eqKey (.agg [i64 a]) (.agg [i64 b]) = decide (a = b) := by
  show ((a == b) && true) = _
  rw [Bool.and_true]
  by_cases h : a = b
  · rw [decide_eq_true h, h]; exact beq_self_eq_true _
  · rw [decide_eq_false h]; exact beq_eq_false_iff_ne.2 h
theorem mget_encS (y : Int) : ∀ ds, mget (encS ds) (.agg [i64 y]) = (getS y ds).map eB
  | [] => rfl
  | x :: ds => by
    show (bif eqKey (.agg [i64 y]) (.agg [i64 x.a]) then some (eB x) else mget (encS ds) (.agg [i64 y])) = _
    rw [eqS, mget_encS y ds]
    show _ = (if y = x.a then some x else getS y ds).map eB
    by_cases h : y = x.a
    · rw [decide_eq_true h, if_pos h]; rfl
    · rw [decide_eq_false h, if_neg h]; rfl
theorem mset_encS (x : Bk) : ∀ ds, mset (encS ds) (.agg [i64 x.a]) (eB x) = encS (setS x ds)
  | [] => rfl
  | z :: ds => by
    show (bif eqKey (.agg [i64 x.a]) (.agg [i64 z.a]) then (.agg [i64 x.a], eB x) :: encS ds else (.agg [i64 z.a], eB z) :: mset (encS ds) (.agg [i64 x.a]) (eB x)) = _
    rw [eqS, mset_encS x ds]
    show _ = encS (if x.a = z.a then x :: ds else z :: setS x ds)
    by_cases h : x.a = z.a
    · rw [decide_eq_true h, if_pos h]; rfl
    · rw [decide_eq_false h, if_neg h]; rfl
theorem mdel_encS (y : Int) : ∀ ds, mdel (encS ds) (.agg [i64 y]) = encS (delS y ds)
  | [] => rfl
  | x :: ds => by
    show (bif eqKey (.agg [i64 y]) (.agg [i64 x.a]) then encS ds else (.agg [i64 x.a], eB x) :: mdel (encS ds) (.agg [i64 y])) = _
    rw [eqS, mdel_encS y ds]
    show _ = encS (if y = x.a then ds else x :: delS y ds)
    by_cases h : y = x.a
    · rw [decide_eq_true h, if_pos h]; rfl
    · rw [decide_eq_false h, if_neg h]; rfl
set_option maxHeartbeats 2000000 in
theorem hpBack_told (c : Cf) (g cl : Nat) (b b2 : Nat → Bool) (m m2 : List M) (live peak mark : Int) (on : List Bool) (ds : List Bk) (met : List Int) (mem : List Nat) (hl : met.length ≤ 65536) (hpg : 1 ≤ c.Pg) (y n : Nat) (q : Int) (hn : 1 ≤ n) (hyn : y + n ≤ 1000000) (hb : ∀ i, -1000000 ≤ met.getD i 0 ∧ met.getD i 0 ≤ 1000000) (hfit : (y + n - 1) / c.Pg + 1 ≤ met.length) (hlv : 0 ≤ live ∧ live ≤ 1000000) :
    Told P T heap_Heap_back (hpL c g cl b m live peak mark on ds met mem) [.ptr 0 0 0, .agg [i64 y, i64 n, i64 q], eE c.G g cl b2 m2] (.tup []) (hpL c g cl b2 m2 (live + n) peak mark on (setS ⟨y, n, q⟩ ds) (metA met (y / c.Pg) ((y + n - 1) / c.Pg + 1) 1) mem) := by
  have c1 := hpMeets_told c g cl b2 m2 live peak mark on (setS ⟨y, n, q⟩ ds) met mem hl hpg y n q hn hyn 1 (by omega) hb hfit
  have hms := mset_encS ⟨y, n, q⟩ ds
  unfold hpL hpV at *
  rw [← hms] at c1 ⊢
  refine told_of_ev (fn := heap_Heap_back_fn) tabOk mixed (by kernel_rfl) (by kernel_rfl) (by kernel_rfl) (by kernel_rfl) ?_
  (refine gw ?_; refine Choice.mk ⟨true, Choice.mk ⟨false, _, _, c1, ?_⟩⟩)
  (refine gw ?_)
  (refine gw ?_; exact RetN.mk ⟨[], rfl, rfl, rfl⟩)
set_option maxHeartbeats 2000000 in
theorem hpGone_told (c : Cf) (g cl : Nat) (b : Nat → Bool) (m : List M) (he : EgOk c.G g cl m) (live peak mark : Int) (on : List Bool) (ds : List Bk) (met : List Int) (mem : List Nat) (hl : met.length ≤ 65536) (hpg : 1 ≤ c.Pg) (y n : Nat) (q : Int) (hn : 1 ≤ n) (hyn : y + n ≤ 1000000) (hb : ∀ i, -1000000 ≤ met.getD i 0 ∧ met.getD i 0 ≤ 1000000) (hfit : (y + n - 1) / c.Pg + 1 ≤ met.length) (hlv : 0 ≤ live ∧ live ≤ 1000000) :
    Told P T heap_Heap_gone (hpL c g cl b m live peak mark on ds met mem) [.ptr 0 0 0, .agg [i64 y, i64 n, i64 q]] (.tup []) (hpL c g cl (relB c.G b m y) (relL m y) (live - n) peak mark on (delS y ds) (metA met (y / c.Pg) ((y + n - 1) / c.Pg + 1) (-1)) mem) := by
  have c0 := plRel_told he (b := b) y (by omega)
  have c1 := hpMeets_told c g cl (relB c.G b m y) (relL m y) live peak mark on (delS y ds) met mem hl hpg y n q hn hyn (-1) (by omega) hb hfit
  have hms := mdel_encS y ds
  unfold hpL hpV at *
  unfold eE at *
  rw [← hms] at c1 ⊢
  refine told_of_ev (fn := heap_Heap_gone_fn) tabOk mixed (by kernel_rfl) (by kernel_rfl) (by kernel_rfl) (by kernel_rfl) ?_
  (refine gw ?_; refine Choice.mk ⟨false, Choice.mk ⟨false, _, _, c0, ?_⟩⟩)
  (refine gw ?_; refine Choice.mk ⟨true, Choice.mk ⟨false, _, _, c1, ?_⟩⟩)
  (refine gw ?_; exact RetN.mk ⟨[], rfl, rfl, rfl⟩)
end Go.Ev.W
namespace Go.Ev.W
open Go.Ev Go.Ev.N

theorem confShift_told {c : Cf} (hg : 1 ≤ c.G) {k : Nat} (hk : k ≤ c.L) (hb : c.G * 2 ^ k ≤ 65536) : Told P T conf_Shift [] [eC c, i64 (c.G * 2 ^ k : Nat)] (.tup [i64 k, .bool true]) [] := by
  have hp : 0 < 2 ^ k := Nat.pow_pos (by omega)
  have hge : c.G ≤ c.G * 2 ^ k := Nat.le_mul_of_pos_right _ hp
  have hm : ((c.G * 2 ^ k : Nat) : Int).tmod (c.G : Int) = 0 := by
    rw [← Int.ofNat_tmod, Nat.mul_mod_right]; rfl
  have hd : ((c.G * 2 ^ k : Nat) : Int).tdiv (c.G : Int) = ((2 ^ k : Nat) : Int) := by
    rw [← Int.ofNat_tdiv, Nat.mul_div_cancel_left _ (by omega)]
  have hp2 : 2 ^ k ≤ 65536 := Nat.le_trans (Nat.le_mul_of_pos_left _ (by omega)) hb
  have c1 := calcLog_told ((2 ^ k : Nat) : Int) (by omega)
  rw [logF_pow] at c1
  generalize hx : c.G * 2 ^ k = x at *
  generalize 2 ^ k = p at *
  have hne : ((c.G : Nat) : Int) ≠ 0 := by omega
  unfold eC
  refine told_of_ev (fn := conf_Shift_fn) tabOk mixed (by kernel_rfl) (by kernel_rfl) (by kernel_rfl) (by kernel_rfl) ?_
  (refine gw ?_; refine IfB.ff (by simp; omega) ?_)
  (refine gw ?_; refine IfB.ff (by simp; omega) ?_)
  (refine gw ?_)
  rw [hm]
  (refine gw ?_)
  rw [hd]
  (refine gw ?_; refine Choice.mk ⟨false, Choice.mk ⟨false, _, _, c1, ?_⟩⟩)
  (refine gw ?_; refine IfB.ff (by simp; omega) ?_)
  (refine gw ?_; exact RetN.mk ⟨[], rfl, rfl, rfl⟩)
theorem classClass_told {c : Cf} (hg : 1 ≤ c.G) {k : Nat} (hk : k ≤ c.L) (hb : c.G * 2 ^ k ≤ 65536) : Told P T class_Class [] [eC c, i64 (c.G * 2 ^ k : Nat)] (.tup [i64 k, .bool true]) [] := by
  have c1 := confShift_told hg hk hb
  unfold eC at *
  refine told_of_ev (fn := class_Class_fn) tabOk mixed (by kernel_rfl) (by kernel_rfl) (by kernel_rfl) (by kernel_rfl) ?_
  (refine gw ?_; refine Choice.mk ⟨false, Choice.mk ⟨false, _, _, c1, ?_⟩⟩)
  (refine gw ?_; exact RetN.mk ⟨[], rfl, rfl, rfl⟩)
end Go.Ev.W
namespace Go.Ev.W
open Go.Ev Go.Ev.N

/-- A page that is filled as far as so many bytes. -/
def fillK (mem : List Nat) (seed page size k : Nat) : List Nat := (List.range mem.length).map fun i => if i / size = page ∧ i % size < k then byteF seed page (i % size) else mem.getD i 0
theorem fillK_len (mem : List Nat) (seed page size k : Nat) : (fillK mem seed page size k).length = mem.length := by simp [fillK]
theorem fillK_zero (mem : List Nat) (seed page size : Nat) : fillK mem seed page size 0 = mem := by
  apply List.ext_getElem (by simp [fillK])
  intro i h1 h2
  simp only [fillK, List.getElem_map, List.getElem_range]
  rw [if_neg (by omega), List.getD_eq_getElem?_getD, List.getElem?_eq_getElem h2]; rfl
theorem fillK_end {mem : List Nat} {seed page size : Nat} (h : 1 ≤ size) : fillK mem seed page size size = fillF mem seed page size := by
  unfold fillK fillF
  refine List.map_congr_left fun i _ => ?_
  have := Nat.mod_lt i (show 0 < size by omega)
  by_cases e : i / size = page
  · rw [if_pos ⟨e, this⟩, if_pos e]
  · rw [if_neg fun q => e q.1, if_neg e]
theorem fillK_set {mem : List Nat} {seed page size k : Nat} (hk : k < size) : (fillK mem seed page size k).set (page * size + k) (byteF seed page k) = fillK mem seed page size (k + 1) := by
  apply List.ext_getElem (by simp [fillK])
  intro i h1 h2
  rw [List.getElem_set]
  simp only [fillK, List.getElem_map, List.getElem_range]
  have e1 : (page * size + k) / size = page := by
    rw [Nat.mul_comm, Nat.mul_add_div (by omega), Nat.div_eq_of_lt hk]; rfl
  have e2 : (page * size + k) % size = k := by
    rw [Nat.mul_comm, Nat.mul_add_mod, Nat.mod_eq_of_lt hk]
  split
  · rename_i e; subst e
    rw [if_pos ⟨e1, by rw [e2]; omega⟩, e2]
  · rename_i e
    have hne : i / size = page → i % size = k → False := fun a1 a2 => e (by
      have := Nat.div_add_mod i size
      rw [a1, a2, Nat.mul_comm] at this
      exact this)
    by_cases hq : i / size = page ∧ i % size < k
    · rw [if_pos hq, if_pos ⟨hq.1, by omega⟩]
    · rw [if_neg hq, if_neg]
      rintro ⟨a1, a2⟩
      by_cases a3 : i % size = k
      · exact hne a1 a3
      · exact hq ⟨a1, by omega⟩
structure Hs where
  b : Nat → Bool
  m : List M
  live : Int
  peak : Int
  mark : Int
  on : List Bool
  ds : List Bk
  met : List Int
  mem : List Nat
def hsL (c : Cf) (g cl : Nat) (s : Hs) : List Blk := hpL c g cl s.b s.m s.live s.peak s.mark s.on s.ds s.met s.mem
/-- A block is placed. -/
def putsF (c : Cf) (g cl : Nat) (s : Hs) (k : Nat) (q : Int) : Hs × Int × Nat :=
  match lowS g cl s.b k with
  | none => (s, 0, 7)
  | some i =>
    let y := i * 2 ^ k * c.G
    let n := c.G * 2 ^ k
    let co := commitF s.on (pagesF s.met) (y / c.Pg) ((y + n - 1) / c.Pg + 1) c.P
    if co.2.2 = false then (s, 0, 6)
    else (⟨placeB g cl s.b k, placeL c.G g cl s.b s.m k, s.live + n, max s.peak (s.live + n), max s.mark (y + n : Nat), co.1, setS ⟨(y : Nat), (n : Nat), q⟩ s.ds, metA s.met (y / c.Pg) ((y + n - 1) / c.Pg + 1) 1, co.2.1.foldl (fun mem p => fillF mem c.Sd p c.Pg) s.mem⟩, (y : Nat), 0)
theorem commit_fr (on met : List Bool) (f b most : Nat) : ∀ p ∈ (commitF on met f b most).2.1, p < on.length := by
  intro p hp
  unfold commitF at hp
  simp only at hp
  split at hp
  · simp at hp
  · have := (List.mem_filter.1 hp).1
    simpa using this
theorem commit_frl (on met : List Bool) (f b most : Nat) : (commitF on met f b most).2.1.length ≤ on.length := by
  unfold commitF
  simp only
  split
  · simp
  · refine Nat.le_trans (List.length_filter_le _ _) ?_
    simp
theorem fold_len (seed size : Nat) : ∀ (l : List Nat) (mem : List Nat), (l.foldl (fun mem p => fillF mem seed p size) mem).length = mem.length
  | [], _ => rfl
  | p :: l, mem => by
    show (l.foldl (fun mem p => fillF mem seed p size) (fillF mem seed p size)).length = _
    rw [fold_len seed size l]
    simp [fillF]
theorem fold_suc (mem : List Nat) (seed size : Nat) {l : List Nat} {j : Nat} (h : j < l.length) : (l.take (j + 1)).foldl (fun mem p => fillF mem seed p size) mem = fillF ((l.take j).foldl (fun mem p => fillF mem seed p size) mem) seed l[j] size := by
  rw [List.take_succ_eq_append_getElem h, List.foldl_append]; rfl
/-- What is needed of a heap. -/
structure HsOk (c : Cf) (g cl : Nat) (s : Hs) : Prop where
  ok : c.Ok
  gE : g = c.H / c.G
  clE : cl = c.L + 1
  eg : EgOk c.G g cl s.m
  pg : ∀ x n : Nat, 1 ≤ n → x + n ≤ c.H → (x + n - 1) / c.Pg + 1 ≤ s.met.length
  pg1 : 1 ≤ c.Pg
  met : s.met.length = c.H / c.Pg
  mb : ∀ i, -100000 ≤ s.met.getD i 0 ∧ s.met.getD i 0 ≤ 100000
  on : s.on.length = s.met.length
  mem : s.mem.length = c.H
  pH : ∀ p i, p < s.met.length → i < c.Pg → p * c.Pg + i < c.H
  lv : 0 ≤ s.live ∧ s.live ≤ 100000
set_option maxRecDepth 20000 in
set_option maxHeartbeats 8000000 in
theorem hpPuts_told {c : Cf} {g cl : Nat} {s : Hs} (h : HsOk c g cl s) {k : Nat} (hk : k ≤ c.L) (hb : c.G * 2 ^ k ≤ 65536) (q : Int) :
    Told P T heap_Heap_puts (hsL c g cl s) [.ptr 0 0 0, i64 (c.G * 2 ^ k : Nat), i64 q] (.tup [i64 (putsF c g cl s k q).2.1, i64 ((putsF c g cl s k q).2.2 : Nat)]) (hsL c g cl (putsF c g cl s k q).1) := by
  obtain ⟨b, m, live, peak, mark, on, ds, met, mem⟩ := s
  have hg1 := h.eg.g1
  have c1 := classClass_told hg1 hk hb
  have c2 := plPlace_told h.eg (b := b) (k : Nat) (by have := h.ok.lL; omega)
  have hpage := hpPages_told c g cl b m live peak mark on ds met mem (by have := h.met; have := h.ok.h2; have : c.H / c.Pg ≤ c.H := Nat.div_le_self _ _; simp only at *; omega)
  unfold putsF
  cases hlo : lowS g cl b k with
  | none =>
    rw [hlo] at c2
    unfold hsL hpL hpV eC eE at *
    simp only
    refine told_of_ev (fn := heap_Heap_puts_fn) tabOk mixed (by kernel_rfl) (by kernel_rfl) (by kernel_rfl) (by kernel_rfl) ?_
    (refine gw ?_; refine Choice.mk ⟨false, Choice.mk ⟨false, _, _, c1, ?_⟩⟩)
    (refine gw ?_; refine Choice.mk ⟨false, Choice.mk ⟨false, _, _, c2, ?_⟩⟩)
    (refine gw ?_; exact RetN.mk ⟨[], rfl, rfl, rfl⟩)
  | some i =>
    rw [hlo] at c2
    simp only
    obtain ⟨k', ek, hkc, hik, _, _⟩ := lowS_lt h.eg.sl hlo
    have ek : k' = k := by omega
    subst ek
    have hbd := sz_bound h.eg.sl h.eg.gG hkc hik
    have hgH : g * c.G ≤ c.H := by rw [h.gE]; exact Nat.div_mul_le_self _ _
    have hyn : i * 2 ^ k' * c.G + c.G * 2 ^ k' ≤ c.H := by
      have : i * 2 ^ k' * c.G + 2 ^ k' * c.G ≤ g * c.G := by rw [← Nat.add_mul]; exact Nat.mul_le_mul_right _ hbd.1
      rw [Nat.mul_comm c.G]; omega
    have hn1 : 1 ≤ c.G * 2 ^ k' := Nat.mul_pos (by omega) (by omega)
    have hA : placeA c.G g cl b (k' : Nat) = ((i * 2 ^ k' * c.G : Nat) : Int) := by unfold placeA; rw [hlo]; simp only [Int.toNat_natCast]
    rw [hA] at c2
    have hpg := h.pg _ _ hn1 hyn
    have hH := h.ok.h2
    generalize i * 2 ^ k' * c.G = y at *
    generalize c.G * 2 ^ k' = n at *
    have c3 := pinPages_told (pg := c.Pg) (n := n) (y := y) h.pg1 hn1 (by omega)
    have hfb : y / c.Pg ≤ (y + n - 1) / c.Pg + 1 := by
      have : y / c.Pg ≤ (y + n - 1) / c.Pg := Nat.div_le_div_right (by omega)
      omega
    have hmet : met.length = c.H / c.Pg := h.met
    have hmet2 : met.length ≤ 65536 := by have : c.H / c.Pg ≤ c.H := Nat.div_le_self _ _; omega
    have hon : on.length = met.length := h.on
    have hpgl : (pagesF met).length = met.length := by simp [pagesF]
    have c4 := commit_told (on := on) (met := pagesF met) (by omega) (by omega) (f := y / c.Pg) (b := (y + n - 1) / c.Pg + 1) (most := c.P) hfb (by have hpg : (y + n - 1) / c.Pg + 1 ≤ met.length := hpg; omega) h.ok.b
    have hfr := commit_fr on (pagesF met) (y / c.Pg) ((y + n - 1) / c.Pg + 1) c.P
    have hfrl := commit_frl on (pagesF met) (y / c.Pg) ((y + n - 1) / c.Pg + 1) c.P
    have hlv := h.lv
    have hmeml : mem.length = c.H := h.mem
    have hpH := h.pH
    have hback := hpBack_told c g cl b (placeB g cl b (k' : Nat)) m (placeL c.G g cl b m (k' : Nat)) live peak mark
    generalize hco : commitF on (pagesF met) (y / c.Pg) ((y + n - 1) / c.Pg + 1) c.P = co at *
    obtain ⟨on2, fr, ok2⟩ := co
    unfold hsL hpL hpV eC eE lT at *
    simp only at *
    cases ok2 with
    | false =>
      rw [if_pos rfl]
      refine told_of_ev (fn := heap_Heap_puts_fn) tabOk mixed (by kernel_rfl) (by kernel_rfl) (by kernel_rfl) (by kernel_rfl) ?_
      (refine gw ?_; refine Choice.mk ⟨false, Choice.mk ⟨false, _, _, c1, ?_⟩⟩)
      (refine gw ?_; refine Choice.mk ⟨false, Choice.mk ⟨false, _, _, c2, ?_⟩⟩)
      (refine gw ?_; refine Choice.mk ⟨false, Choice.mk ⟨false, _, _, c3, ?_⟩⟩)
      (refine gw ?_; refine Choice.mk ⟨false, Choice.mk ⟨true, _, _, hpage, Need.mk rfl ?_⟩⟩)
      (refine gw ?_; refine Choice.mk ⟨false, Choice.mk ⟨false, _, _, c4, ?_⟩⟩)
      (refine gw ?_; exact RetN.mk ⟨[], rfl, rfl, rfl⟩)
    | true =>
      rw [if_neg (show ¬ (true = false) by decide)]
      simp only
      refine told_of_ev (fn := heap_Heap_puts_fn) tabOk mixed (by kernel_rfl) (by kernel_rfl) (by kernel_rfl) (by kernel_rfl) ?_
      (refine gw ?_; refine Choice.mk ⟨false, Choice.mk ⟨false, _, _, c1, ?_⟩⟩)
      (refine gw ?_; refine Choice.mk ⟨false, Choice.mk ⟨false, _, _, c2, ?_⟩⟩)
      (refine gw ?_; refine Choice.mk ⟨false, Choice.mk ⟨false, _, _, c3, ?_⟩⟩)
      (refine gw ?_; refine Choice.mk ⟨false, Choice.mk ⟨true, _, _, hpage, Need.mk rfl ?_⟩⟩)
      (refine gw ?_; refine Choice.mk ⟨false, Choice.mk ⟨false, _, _, c4, ?_⟩⟩)
      have hfl : ((fr.map fun n => i64 (n : Nat))).length = fr.length := by simp
      have hf0 : ∀ p, fillK mem c.Sd p c.Pg 0 = mem := fun p => fillK_zero _ _ _ _
      (refine gw ?_; refine LoopN.mk ⟨[0,1,2,10,11,15,72,73,74], fun vs L => ∃ j : Nat, vs = [.ptr 0 0 0, i64 n, i64 q, .ptr 4 0 0, i64 y, .lst t_bool (on2.map .bool), .lst t_int (fr.map fun n => i64 (n : Nat)), i64 (fr.map fun n => i64 (n : Nat)).length, i64 j] ∧ L = hpL c g cl b m live peak mark on ds met ((fr.take j).foldl (fun mem p => fillF mem c.Sd p c.Pg) mem) ++ [.var (eE c.G g cl (placeB g cl b (k' : Nat)) (placeL c.G g cl b m (k' : Nat)))] ∧ j ≤ fr.length, fun vs L => match vs with | [_, _, _, _, _, _, _, _, .int _ i] => fr.length - i.toNat | _ => 0, [], [4], rfl, ⟨0, rfl, rfl, by omega⟩, ?_⟩)
      rintro vs L ⟨j, rfl, rfl, hj⟩
      have hmj : ((fr.take j).foldl (fun mem p => fillF mem c.Sd p c.Pg) mem).length = c.H := by rw [fold_len]; exact hmeml
      have hfs := fun h : j < fr.length => fold_suc mem c.Sd c.Pg h
      generalize hMj : (fr.take j).foldl (fun mem p => fillF mem c.Sd p c.Pg) mem = mj at *
      by_cases hjf : j < fr.length
      · have hx : ∀ Q : AV → Prop, Q (i64 (fr[j] : Nat)) → Idx (fr.map fun n => i64 (n : Nat)) ((j : Nat) : Int) Q := fun Q q => idx_map (f := fun n : Nat => i64 (n : Nat)) hjf q
        have hpj : fr[j] < met.length := by have := hfr _ (List.getElem_mem hjf); omega
        have hfs := hfs hjf
        have hk0 := fillK_zero mj c.Sd fr[j] c.Pg
        have hke := fillK_end (mem := mj) (seed := c.Sd) (page := fr[j]) h.pg1
        have hkl := fun k => fillK_len mj c.Sd fr[j] c.Pg k
        have hks := fun k (h : k < c.Pg) => fillK_set (mem := mj) (seed := c.Sd) (page := fr[j]) h
        have hpp := fun i (hi : i < c.Pg) => hpH fr[j] i hpj hi
        generalize fr[j] = pp at *
        unfold hpL hpV
        (refine gw ?_; refine IfB.tt (by rw [hfl]; simp; omega) ?_)
        (refine gw ?_)
        refine hx _ ?_
        (refine gw ?_; refine LoopN.mk ⟨[0,1,2,10,11,15,18,72,73,74,82,83], fun vs L => ∃ i : Nat, vs = [.ptr 0 0 0, i64 n, i64 q, .ptr 4 0 0, i64 y, .lst t_bool (on2.map .bool), i64 pp, .lst t_int (fr.map fun n => i64 (n : Nat)), i64 (fr.map fun n => i64 (n : Nat)).length, i64 j, i64 c.Pg, i64 i] ∧ L = hpL c g cl b m live peak mark on ds met (fillK mj c.Sd pp c.Pg i) ++ [.var (eE c.G g cl (placeB g cl b (k' : Nat)) (placeL c.G g cl b m (k' : Nat)))] ∧ i ≤ c.Pg, fun vs L => match vs with | [_, _, _, _, _, _, _, _, _, _, _, .int _ i] => c.Pg - i.toNat | _ => 0, [], [4], rfl, ⟨0, rfl, by rw [hk0]; rfl, by omega⟩, ?_⟩)
        rintro vs L ⟨i, rfl, rfl, hi⟩
        have hl2 : ((fillK mj c.Sd pp c.Pg i).map u8).length = c.H := by rw [List.length_map, hkl, hmj]
        by_cases hic : i < c.Pg
        · have cj := junkByte_told c.Sd pp i
          have hpp := hpp i hic
          have hks := hks i hic
          have hpm : (pp : Int) * (c.Pg : Int) = ((pp * c.Pg : Nat) : Int) := (Int.natCast_mul _ _).symm
          generalize pp * c.Pg = pc at *
          unfold hpL hpV
          (refine gw ?_; refine IfB.tt (by simp; omega) ?_)
          (refine gw ?_; refine Choice.mk ⟨false, Choice.mk ⟨false, _, _, cj, ?_⟩⟩)
          (refine gw ?_)
          rw [hpm]
          (refine gw ?_; refine ⟨[], [4], rfl, ⟨i + 1, rfl, by rw [← hks, List.map_set]; rfl, by omega⟩, (by omega : c.Pg - ((i : Int) + 1).toNat < c.Pg - (i : Int).toNat)⟩)
        · have hii : i = c.Pg := by omega
          have hfe : fillK mj c.Sd pp c.Pg i = (fr.take (j + 1)).foldl (fun mem p => fillF mem c.Sd p c.Pg) mem := by rw [hii, hke, hfs]
          rw [hfe]
          unfold hpL hpV
          (refine gw ?_; refine IfB.ff (by simp; omega) ?_)
          (refine gw ?_)
          refine ⟨[], [4], rfl, ⟨j + 1, rfl, rfl, hjf⟩, (by omega : fr.length - ((j : Int) + 1).toNat < fr.length - (j : Int).toNat)⟩
      · have hjj : j = fr.length := by omega
        have hMe : fr.foldl (fun mem p => fillF mem c.Sd p c.Pg) mem = mj := by rw [← hMj, hjj, List.take_length]
        have cb := hback on2 ds met mj hmet2 h.pg1 y n q hn1 (by omega) (fun i => by have := h.mb i; simp only at this; omega) hpg (by have : 0 ≤ live ∧ live ≤ 100000 := hlv; omega)
        unfold hpL hpV eE at *
        (refine gw ?_; refine IfB.ff (by rw [hfl]; simp; omega) ?_)
        have hm1 : ∀ a b : Int, (if b > a then b else a) = max a b := fun a b => by split <;> omega
        have hm2 : ∀ a b : Int, (if a < b then b else a) = max a b := fun a b => by split <;> omega
        have hcast : ((y + n : Nat) : Int) = (y : Int) + (n : Int) := by omega
        have hcz : (if true = false then (0 : Int) else 1) = 1 := rfl
        (refine gw ?_; refine Choice.mk ⟨true, Choice.mk ⟨false, _, _, cb, ?_⟩⟩)
        rw [hMe, hcast, ← hm1 peak, ← hm1 mark]
        (refine gw ?_; exact RetN.mk ⟨[], rfl, rfl, rfl⟩)
end Go.Ev.W
namespace Go.Ev.W
open Go.Ev Go.Ev.N

theorem hpAsksE_told {c : Cf} {g cl : Nat} {s : Hs} (n : Int) (q : Int) {e : Nat} (he : 1 ≤ e) (he2 : e ≤ 100) :
    Told P T heap_Heap_asks (hsL c g cl s) [.ptr 0 0 0, i64 n, i64 q, i64 e] (eA (anE e)) (hsL c g cl s) := by
  unfold hsL hpL hpV
  refine told_of_ev (fn := heap_Heap_asks_fn) tabOk mixed (by kernel_rfl) (by kernel_rfl) (by kernel_rfl) (by kernel_rfl) ?_
  (refine gw ?_; refine IfB.tt (by simp; omega) ?_)
  (refine gw ?_; exact RetN.mk ⟨[], rfl, rfl, rfl⟩)
set_option maxRecDepth 20000 in
theorem hpAsks_told {c : Cf} {g cl : Nat} {s : Hs} (h : HsOk c g cl s) {k : Nat} (hk : k ≤ c.L) (hb : c.G * 2 ^ k ≤ 65536) (q : Int) :
    Told P T heap_Heap_asks (hsL c g cl s) [.ptr 0 0 0, i64 (c.G * 2 ^ k : Nat), i64 q, i64 0] (eA { an0 with e := (putsF c g cl s k q).2.2, at' := (putsF c g cl s k q).2.1 }) (hsL c g cl (putsF c g cl s k q).1) := by
  have c1 := hpPuts_told h hk hb q
  generalize putsF c g cl s k q = r at *
  unfold hsL hpL hpV at *
  refine told_of_ev (fn := heap_Heap_asks_fn) tabOk mixed (by kernel_rfl) (by kernel_rfl) (by kernel_rfl) (by kernel_rfl) ?_
  (refine gw ?_; refine Choice.mk ⟨true, Choice.mk ⟨false, _, _, c1, ?_⟩⟩)
  (refine gw ?_; exact RetN.mk ⟨[], rfl, rfl, rfl⟩)
def givH (c : Cf) (g cl : Nat) (s : Hs) (ce : Nat × Nat) (q : Int) : Hs × An :=
  if ce.2 ≠ 0 then (s, anE ce.2)
  else ((putsF c g cl s (Nat.log2 (ce.1 / c.G)) q).1, { an0 with e := (putsF c g cl s (Nat.log2 (ce.1 / c.G)) q).2.2, at' := (putsF c g cl s (Nat.log2 (ce.1 / c.G)) q).2.1 })
theorem hpAsksG_told {c : Cf} {g cl : Nat} {s : Hs} (h : HsOk c g cl s) (ce : Nat × Nat) (he : ce.2 ≤ 100) (hk : ce.2 = 0 → ∃ k, k ≤ c.L ∧ ce.1 = c.G * 2 ^ k) (q : Int) :
    Told P T heap_Heap_asks (hsL c g cl s) [.ptr 0 0 0, i64 (ce.1 : Nat), i64 q, i64 (ce.2 : Nat)] (eA (givH c g cl s ce q).2) (hsL c g cl (givH c g cl s ce q).1) := by
  unfold givH
  by_cases h0 : ce.2 = 0
  · rw [if_neg (by omega)]
    obtain ⟨k, hk1, hk2⟩ := hk h0
    have hg := h.eg.g1
    have hlog : Nat.log2 (ce.1 / c.G) = k := by rw [hk2, Nat.mul_div_cancel_left _ (by omega), Nat.log2_two_pow]
    rw [hlog, hk2, h0]
    refine hpAsks_told h hk1 ?_ q
    have hN := h.ok.n
    have h1 : c.G * 2 ^ k ≤ c.N := by rw [hN]; exact Nat.mul_le_mul_left _ (Nat.pow_le_pow_right (by omega) hk1)
    have h2 := h.ok.nM
    have h3 := h.ok.mH
    omega
  · rw [if_pos h0]
    exact hpAsksE_told _ q (by omega) he
end Go.Ev.W
namespace Go.Ev.W
open Go.Ev Go.Ev.N

theorem newF_e (c : Cf) (live s a : Int) : (newF c live s a).2 ≤ 5 := by
  unfold newF
  split
  · unfold chargeF
    split
    · simp
    · split <;> simp
  · split <;> simp
set_option maxRecDepth 20000 in
set_option maxHeartbeats 1000000 in
theorem hpAligned_told {c : Cf} {g cl : Nat} {s : Hs} (h : HsOk c g cl s) (z a : Int) (ha : a ≤ 9223372036854775807) :
    Told P T heap_Heap_aligned (hsL c g cl s) [.ptr 0 0 0, i64 z, i64 a] (eA (givH c g cl s (newF c s.live z a) z).2) (hsL c g cl (givH c g cl s (newF c s.live z a) z).1) := by
  have c1 := admitNew_told h.ok s.live z a (by have := h.lv; omega) ha
  have c2 := hpAsksG_told h (newF c s.live z a) (by have := newF_e c s.live z a; omega) (fun e => (newF_ok h.ok e).1) z
  generalize givH c g cl s (newF c s.live z a) z = r at *
  generalize newF c s.live z a = ce at *
  unfold hsL hpL hpV eC at *
  refine told_of_ev (fn := heap_Heap_aligned_fn) tabOk mixed (by kernel_rfl) (by kernel_rfl) (by kernel_rfl) (by kernel_rfl) ?_
  (refine gw ?_; refine Choice.mk ⟨false, Choice.mk ⟨false, _, _, c1, ?_⟩⟩)
  (refine gw ?_; refine Choice.mk ⟨true, Choice.mk ⟨false, _, _, c2, ?_⟩⟩)
  (refine gw ?_; exact RetN.mk ⟨[], rfl, rfl, rfl⟩)
end Go.Ev.W
namespace Go.Ev.W
open Go.Ev Go.Ev.N

theorem manyF_e (c : Cf) (live n s : Int) : (manyF c live n s).2 ≤ 5 := by
  unfold manyF
  split
  · unfold prodF
    split
    · simp
    · split <;> simp
  · exact newF_e _ _ _ _
theorem zero_row {mem : List Nat} {a n : Nat} (h : a + n ≤ mem.length) : (mem.map u8).take a ++ (List.replicate n (zeroE T t_uint8) ++ (mem.map u8).drop (a + n)) = (zeroF mem a n).map u8 := by
  have hz : zeroE T t_uint8 = u8 0 := rfl
  rw [hz]
  apply List.ext_getElem?
  intro j
  rw [List.getElem?_map]
  unfold zeroF
  rw [List.getElem?_map]
  by_cases hj : j < mem.length
  · rw [List.getElem?_range hj]
    by_cases h1 : j < a
    · rw [List.getElem?_append_left (by simp; omega), List.getElem?_take_of_lt h1]
      simp [hj, List.getD_eq_getElem?_getD, show ¬ (a ≤ j) by omega]
    · rw [List.getElem?_append_right (by simp; omega)]
      have e1 : ((mem.map u8).take a).length = a := by simp; omega
      rw [e1]
      by_cases h2 : j < a + n
      · rw [List.getElem?_append_left (by simp; omega)]
        simp [show a ≤ j by omega, h2, List.getElem?_replicate, show j - a < n by omega]
      · rw [List.getElem?_append_right (by simp; omega)]
        simp [hj, List.getD_eq_getElem?_getD, show ¬ (j < a + n) by omega, List.getElem?_drop, show a + n + (j - a - n) = j by omega]
  · rw [List.getElem?_eq_none (by simp; omega), List.getElem?_eq_none (by simp; omega)]
    rfl
def callH (c : Cf) (g cl : Nat) (s : Hs) (n z : Int) : Hs × An :=
  let r := givH c g cl s (manyF c s.live n z) (prodF c n z).1
  if r.2.e = 0 then ({ r.1 with mem := zeroF r.1.mem r.2.at'.toNat (manyF c s.live n z).1 }, r.2) else r
set_option maxRecDepth 20000 in
set_option maxHeartbeats 1000000 in
theorem hpCalloc_told {c : Cf} {g cl : Nat} {s : Hs} (h : HsOk c g cl s) (n z : Int) (hn : -9223372036854775808 ≤ n ∧ n ≤ 9223372036854775807) (hz : -9223372036854775808 ≤ z ∧ z ≤ 9223372036854775807)
    (hr : ∀ r, r = givH c g cl s (manyF c s.live n z) (prodF c n z).1 → r.2.e = 0 → 0 ≤ r.2.at' ∧ r.2.at'.toNat + (manyF c s.live n z).1 ≤ r.1.mem.length ∧ r.1.mem.length ≤ 65536) :
    Told P T heap_Heap_calloc (hsL c g cl s) [.ptr 0 0 0, i64 n, i64 z] (eA (callH c g cl s n z).2) (hsL c g cl (callH c g cl s n z).1) := by
  have c1 := admitMany_told h.ok s.live n z (by have := h.lv; omega) hn hz
  have c2 := hpAsksG_told h (manyF c s.live n z) (by have := manyF_e c s.live n z; omega) (fun e => (manyF_ok h.ok e).1) (prodF c n z).1
  have c3 := classProd_told (c := c) (by have := h.ok.nM; have := h.ok.mH; omega) n z hn hz
  have hr := hr _ rfl
  unfold callH
  generalize givH c g cl s (manyF c s.live n z) (prodF c n z).1 = r at *
  generalize manyF c s.live n z = ce at *
  generalize prodF c n z = pr at *
  unfold hsL hpL hpV eC at *
  by_cases he : r.2.e = 0
  · obtain ⟨r1, r2, r3⟩ := hr he
    simp only [if_pos he]
    refine told_of_ev (fn := heap_Heap_calloc_fn) tabOk mixed (by kernel_rfl) (by kernel_rfl) (by kernel_rfl) (by kernel_rfl) ?_
    (refine gw ?_; refine Choice.mk ⟨false, Choice.mk ⟨false, _, _, c1, ?_⟩⟩)
    (refine gw ?_; refine Choice.mk ⟨false, Choice.mk ⟨false, _, _, c3, ?_⟩⟩)
    (refine gw ?_; refine Choice.mk ⟨true, Choice.mk ⟨false, _, _, c2, ?_⟩⟩)
    (refine gw ?_; refine IfB.tt (by simp; omega) ?_)
    have hml : (r.1.mem.map u8).length = r.1.mem.length := by simp
    have hrow := zero_row (mem := r.1.mem) (a := r.2.at'.toNat) (n := ce.1) r2
    rw [show ce.1 = (r.2.at' + (ce.1 : Int)).toNat - r.2.at'.toNat by omega] at hrow
    rw [show zeroF r.1.mem r.2.at'.toNat ce.1 = zeroF r.1.mem r.2.at'.toNat ((r.2.at' + (ce.1 : Int)).toNat - r.2.at'.toNat) by rw [show (r.2.at' + (ce.1 : Int)).toNat - r.2.at'.toNat = ce.1 by omega]]
    rw [← hrow]
    (refine gw ?_)
    refine Cut.mk (by omega) (by omega) (by rw [hml]; omega) ?_
    (refine gw ?_; exact RetN.mk ⟨[], rfl, rfl, rfl⟩)
  · simp only [if_neg he]
    refine told_of_ev (fn := heap_Heap_calloc_fn) tabOk mixed (by kernel_rfl) (by kernel_rfl) (by kernel_rfl) (by kernel_rfl) ?_
    (refine gw ?_; refine Choice.mk ⟨false, Choice.mk ⟨false, _, _, c1, ?_⟩⟩)
    (refine gw ?_; refine Choice.mk ⟨false, Choice.mk ⟨false, _, _, c3, ?_⟩⟩)
    (refine gw ?_; refine Choice.mk ⟨true, Choice.mk ⟨false, _, _, c2, ?_⟩⟩)
    (refine gw ?_; refine IfB.ff (by simp; omega) ?_)
    (refine gw ?_; exact RetN.mk ⟨[], rfl, rfl, rfl⟩)
end Go.Ev.W
namespace Go.Ev.W
open Go.Ev Go.Ev.N

theorem hpConf_told {c : Cf} {g cl : Nat} {s : Hs} : Told P T heap_Heap_Conf (hsL c g cl s) [.ptr 0 0 0] (eC c) (hsL c g cl s) := by
  unfold hsL hpL hpV eC
  refine told_of_ev (fn := heap_Heap_Conf_fn) tabOk mixed (by kernel_rfl) (by kernel_rfl) (by kernel_rfl) (by kernel_rfl) ?_
  (refine gw ?_; exact RetN.mk ⟨[], rfl, rfl, rfl⟩)
theorem hpOn_told {c : Cf} {g cl : Nat} {s : Hs} (hl : s.on.length ≤ 65536) : Told P T heap_Heap_Pages (hsL c g cl s) [.ptr 0 0 0] (lT s.on) (hsL c g cl s) := by
  unfold hsL hpL hpV lT
  have c1 := clone_bool (s.on.map AV.bool) (by simp; omega)
  refine told_of_ev (fn := heap_Heap_Pages_fn) tabOk mixed (by kernel_rfl) (by kernel_rfl) (by kernel_rfl) (by kernel_rfl) ?_
  (refine gw ?_; refine Choice.mk ⟨false, Choice.mk ⟨false, _, _, c1, ?_⟩⟩)
  exact RetN.fz ⟨[true], [], rfl, rfl, rfl⟩
end Go.Ev.W
namespace Go.Ev.W
open Go.Ev Go.Ev.N

set_option maxRecDepth 20000 in
set_option maxHeartbeats 1000000 in
theorem hpBlocks_told {c : Cf} {g cl : Nat} {s : Hs} (bs : List Bk) (hl : bs.length = s.m.length) (hl2 : s.m.length ≤ 65536) (hb : ∀ k (h : k < s.m.length) (h2 : k < bs.length), getS (s.m[k]).at' s.ds = some bs[k]) :
    Told P T heap_Heap_Blocks (hsL c g cl s) [.ptr 0 0 0] (lK bs) (hsL c g cl s) := by
  have hml : (s.m.map encM).length = s.m.length := by simp
  unfold hsL hpL hpV lK
  refine told_of_ev (fn := heap_Heap_Blocks_fn) tabOk mixed (by kernel_rfl) (by kernel_rfl) (by kernel_rfl) (by kernel_rfl) ?_
  (refine gw ?_; refine LoopN.mk ⟨[0,2,11,12,13], fun vs L => ∃ k : Nat, vs = [.ptr 0 0 0, .ref 4, .lst t_api_Mark (s.m.map encM), i64 (s.m.map encM).length, i64 k] ∧ L = hpL c g cl s.b s.m s.live s.peak s.mark s.on s.ds s.met s.mem ++ [.row t_api_Block ((bs.take k).map eB)] ∧ k ≤ s.m.length, fun vs L => match vs with | [_, _, _, _, .int _ i] => s.m.length - i.toNat | _ => 0, [], [4], rfl, ⟨0, rfl, rfl, by omega⟩, ?_⟩)
  rintro vs L ⟨k, rfl, rfl, hk⟩
  have hbl : ((bs.take k).map eB).length = k := by rw [List.length_map, List.length_take]; omega
  by_cases hkl : k < s.m.length
  · have hx : ∀ Q : AV → Prop, Q (encM s.m[k]) → Idx (s.m.map encM) ((k : Nat) : Int) Q := fun Q q => idx_map hkl q
    have h2 : k < bs.length := by omega
    have hg := mget_encS (s.m[k]).at' s.ds
    rw [hb k hkl h2] at hg
    have hsu : (bs.take (k + 1)).map eB = (bs.take k).map eB ++ [eB bs[k]] := by rw [List.take_succ_eq_append_getElem h2, List.map_append]; rfl
    unfold hpL hpV
    (refine gw ?_; refine IfB.tt (by rw [hml]; simp; omega) ?_)
    (refine gw ?_)
    refine hx _ ?_
    (refine gw ?_)
    refine Get.of hg ?_
    (refine gw ?_)
    refine Room.mk (by rw [hbl]; simp; omega) ?_
    (refine gw ?_; refine ⟨[], [7], rfl, ⟨k + 1, rfl, by rw [hsu]; rfl, hkl⟩, (by omega : s.m.length - ((k : Int) + 1).toNat < s.m.length - (k : Int).toNat)⟩)
  · have hkk : k = bs.length := by omega
    rw [hkk, List.take_length]
    unfold hpL hpV
    (refine gw ?_; refine IfB.ff (by rw [hml]; simp; omega) ?_)
    (refine gw ?_)
    exact RetN.fz ⟨[true], [], rfl, rfl, rfl⟩
end Go.Ev.W
namespace Go.Ev.W
open Go.Ev Go.Ev.N

theorem hpDoNil_told (o : X.O) : Told P T heap_Heap_Do [] [.npt, X.encO o] (eA (anE 1)) [] := by
  unfold X.encO
  refine told_of_ev (fn := heap_Heap_Do_fn) tabOk mixed (by kernel_rfl) (by kernel_rfl) (by kernel_rfl) (by kernel_rfl) ?_
  (refine gw ?_; exact RetN.mk ⟨[], rfl, rfl, rfl⟩)
end Go.Ev.W
namespace Go.Ev.W
open Go.Ev Go.Ev.N

theorem hpRealE_told {c : Cf} {g cl : Nat} {s : Hs} (h : HsOk c g cl s) (y : Int) (old : Int) (q z : Int) (ho : 0 ≤ old ∧ old ≤ s.live) (he : (newF c (s.live - old) z 1).2 ≠ 0) :
    Told P T heap_Heap_realloc (hsL c g cl s) [.ptr 0 0 0, .agg [i64 y, i64 old, i64 q], i64 z] (eA (anE (newF c (s.live - old) z 1).2)) (hsL c g cl s) := by
  have c1 := admitAnew_told h.ok s.live old z (by have := h.lv; omega)
  generalize newF c (s.live - old) z 1 = ce at *
  unfold hsL hpL hpV eC at *
  refine told_of_ev (fn := heap_Heap_realloc_fn) tabOk mixed (by kernel_rfl) (by kernel_rfl) (by kernel_rfl) (by kernel_rfl) ?_
  (refine gw ?_; refine Choice.mk ⟨false, Choice.mk ⟨false, _, _, c1, ?_⟩⟩)
  (refine gw ?_; refine IfB.tt (by simp; omega) ?_)
  (refine gw ?_; exact RetN.mk ⟨[], rfl, rfl, rfl⟩)
end Go.Ev.W
