/- Words and lemmas, part 5, for laws of this seat (a part of their proofs). -/
import Derived.Test.YtnjhonpgmljigaaGreatP1
import Derived.Test.YtnjhonpgmljigaaGreatP2
import Derived.Test.YtnjhonpgmljigaaGreatP4
import Derived.Test.YtnjhonpgmljigaaGreatNm
import Derived.Test.YtnjhonpgmljigaaGreatEvOpen
import Derived.Test.YtnjhonpgmljigaaGreatEvLib
import Derived.Test.YtnjhonpgmljigaaGreatEvGrid
import Derived.Test.YtnjhonpgmljigaaGreatEvTrim
set_option linter.unusedVariables false
set_option linter.unusedSimpArgs false
namespace Go.Ev.W
open Go.Ev Go.Ev.N

theorem shlG {i k : Nat} (hk : k ≤ 16) : ((i : Nat) : Int) * 2 ^ min ((k : Nat) : Int).toNat IntKind.i64.bits = ((i * 2 ^ k : Nat) : Int) := by
  rw [Int.toNat_natCast, show min k IntKind.i64.bits = k from Nat.min_eq_left (by show k ≤ 64; omega)]
  simp
theorem plTwin_told {G g c : Nat} {b : Nat → Bool} {l : List M} (h : EgOk G g c l) : Told P T place_twin [] [eE G g c b l] (eE G g c b l) [] := by
  have hml : (l.map encM).length = l.length := by simp
  have hl := h.len
  have c1 := slUse_told h.sl b 0 0 (by omega) (by omega) true
  rw [setZ_none] at c1
  have c1 : Told P T slots_Use [] [eS g c b, i64 0, i64 0, .bool true] (eS g c b) [] := c1
  refine told_of_ev (fn := place_twin_fn) tabOk mixed (by kernel_rfl) (by kernel_rfl) (by kernel_rfl) (by kernel_rfl) ?_
  (refine gw ?_; refine Choice.mk ⟨false, Choice.mk ⟨false, _, _, c1, ?_⟩⟩)
  (refine gw ?_; refine Choice.mk ⟨false, Choice.mk ⟨false, _, _, clone_Mark (l.map encM) (by omega), ?_⟩⟩)
  (refine gw ?_)
  exact RetN.fz ⟨[true], [], rfl, rfl, rfl⟩
set_option maxHeartbeats 1000000 in
theorem plPlace_told {G g c : Nat} {b : Nat → Bool} {l : List M} (h : EgOk G g c l) (cl : Int) (hcl : -9223372036854775808 ≤ cl ∧ cl ≤ 9223372036854775807) :
    Told P T place_Place [] [eE G g c b l, i64 cl] (.tup [eE G g c (placeB g c b cl) (placeL G g c b l cl), i64 (placeA G g c b cl), .bool (lowS g c b cl).isSome]) [] := by
  have c1 := slLowest_told h.sl b cl hcl
  have c2 := plTwin_told h (b := b)
  have hml : (l.map encM).length = l.length := by simp
  have hl := h.len
  unfold placeB placeL placeA
  cases hi : lowS g c b cl with
  | none =>
    rw [hi] at c1
    refine told_of_ev (fn := place_Place_fn) tabOk mixed (by kernel_rfl) (by kernel_rfl) (by kernel_rfl) (by kernel_rfl) ?_
    (refine gw ?_; refine Choice.mk ⟨false, Choice.mk ⟨false, _, _, c1, ?_⟩⟩)
    (refine gw ?_; refine Choice.mk ⟨false, Choice.mk ⟨false, _, _, c2, ?_⟩⟩)
    (refine gw ?_; exact RetN.mk ⟨[], rfl, rfl, rfl⟩)
  | some i =>
    rw [hi] at c1
    obtain ⟨k, rfl, hk, hik, _, _⟩ := lowS_lt h.sl hi
    have hb := sz_bound h.sl h.gG hk hik
    have hg2 := h.sl.g2
    have h17 := h.sl.c17
    simp only [Int.toNat_natCast]
    have hs1 := shlG (i := i) (k := k) (by omega)
    have hs2 := shlI (k := k) (by omega)
    have c3 := slUse_told h.sl b (i * 2 ^ k : Nat) (2 ^ k : Nat) (by omega) (by omega) true
    have c4 := putZ l h.rise ⟨(i * 2 ^ k * G : Nat), k⟩ (by omega)
    have hG : ((i * 2 ^ k : Nat) : Int) * (G : Int) = ((i * 2 ^ k * G : Nat) : Int) := (Int.natCast_mul _ G).symm
    have hle : i * 2 ^ k ≤ 65536 := by omega
    generalize i * 2 ^ k * G = a at *
    generalize i * 2 ^ k = f at *
    generalize 2 ^ k = n at *
    refine told_of_ev (fn := place_Place_fn) tabOk mixed (by kernel_rfl) (by kernel_rfl) (by kernel_rfl) (by kernel_rfl) ?_
    (refine gw ?_; refine Choice.mk ⟨false, Choice.mk ⟨false, _, _, c1, ?_⟩⟩)
    (refine gw ?_)
    rw [hs1]
    (refine gw ?_)
    rw [hG]
    (refine gw ?_)
    rw [hs1]
    (refine gw ?_)
    rw [hs2]
    (refine gw ?_; refine Choice.mk ⟨false, Choice.mk ⟨false, _, _, c3, ?_⟩⟩)
    (refine gw ?_; refine Choice.mk ⟨false, Choice.mk ⟨false, _, _, c4, ?_⟩⟩)
    (refine gw ?_; exact RetN.mk ⟨[], rfl, rfl, rfl⟩)
set_option maxHeartbeats 1000000 in
theorem plRel_told {G g c : Nat} {b : Nat → Bool} {l : List M} (h : EgOk G g c l) (y : Int) (hy : -9223372036854775808 ≤ y ∧ y ≤ 9223372036854775807) :
    Told P T place_Release [] [eE G g c b l, i64 y] (.tup [eE G g c (relB G b l y) (relL l y), i64 (relK l y), .bool (isAt y l)]) [] := by
  have c1 := takeZ l h.rise y (by have := h.len; omega)
  have c2 := plTwin_told h (b := b)
  have htl := tL_len g c b
  unfold relB relL relK
  cases hi : isAt y l with
  | false =>
    rw [hi] at c1
    refine told_of_ev (fn := place_Release_fn) tabOk mixed (by kernel_rfl) (by kernel_rfl) (by kernel_rfl) (by kernel_rfl) ?_
    (refine gw ?_; refine Choice.mk ⟨false, Choice.mk ⟨false, _, _, c1, ?_⟩⟩)
    (refine gw ?_; refine Choice.mk ⟨false, Choice.mk ⟨false, _, _, c2, ?_⟩⟩)
    (refine gw ?_; exact RetN.mk ⟨[], rfl, rfl, rfl⟩)
  | true =>
    rw [hi] at c1
    obtain ⟨y1, y2, y3, y4⟩ := relL_at h hi
    obtain ⟨a, rfl⟩ : ∃ a : Nat, y = a := ⟨y.toNat, by omega⟩
    have hg1 := h.g1
    have hg2 := h.sl.g2
    have h17 := h.sl.c17
    simp only [if_true] at c1 ⊢
    generalize takeM l a = l2 at *
    obtain ⟨k, hk⟩ : ∃ k : Nat, clsM l a = k := ⟨(clsM l a).toNat, by omega⟩
    rw [hk] at c1 y4 ⊢
    simp only [Int.toNat_natCast]
    have hs2 := shlI (k := k) (by omega)
    have hdv : ((a : Nat) : Int).tdiv (G : Int) = ((a / G : Nat) : Int) := (Int.ofNat_tdiv a G).symm
    have hdl : a / G ≤ a := Nat.div_le_self a G
    have hp2 : 2 ^ k ≤ 2 ^ 16 := Nat.pow_le_pow_right (by omega) (by omega)
    generalize a / G = f at *
    generalize 2 ^ k = n at *
    have c3 := slUse_told h.sl b f n (by omega) (by omega) false
    have hGne : ((G : Nat) : Int) ≠ 0 := by omega
    refine told_of_ev (fn := place_Release_fn) tabOk mixed (by kernel_rfl) (by kernel_rfl) (by kernel_rfl) (by kernel_rfl) ?_
    (refine gw ?_; refine Choice.mk ⟨false, Choice.mk ⟨false, _, _, c1, ?_⟩⟩)
    (refine gw ?_; refine IfB.ff (by simp; omega) ?_)
    (refine gw ?_; refine IfB.ff (by rw [htl]; simp; omega) ?_)
    (refine gw ?_)
    rw [hdv]
    (refine gw ?_)
    rw [hs2]
    (refine gw ?_; refine Choice.mk ⟨false, Choice.mk ⟨false, _, _, c3, ?_⟩⟩)
    (refine gw ?_; exact RetN.mk ⟨[], rfl, rfl, rfl⟩)
end Go.Ev.W
namespace Go.Ev.W
open Go.Ev Go.Ev.N

theorem pow2_bit {n : Nat} (h : 1 ≤ n) : n &&& (n - 1) = 0 ↔ n = 2 ^ Nat.log2 n := by
  have h1 : 2 ^ Nat.log2 n ≤ n := Nat.log2_self_le (by omega)
  have h2 : n < 2 ^ (Nat.log2 n + 1) := Nat.lt_log2_self
  constructor
  · intro h0
    by_cases e : n = 2 ^ Nat.log2 n
    · exact e
    · exfalso
      have hb1 : n.testBit (Nat.log2 n) = true := by
        rw [Nat.testBit_eq_decide_div_mod_eq]
        refine decide_eq_true ?_
        have : n / 2 ^ Nat.log2 n = 1 := by
          rw [Nat.pow_succ] at h2
          exact Nat.div_eq_of_lt_le (by omega) (by omega)
        rw [this]
      have hb2 : (n - 1).testBit (Nat.log2 n) = true := by
        rw [Nat.testBit_eq_decide_div_mod_eq]
        refine decide_eq_true ?_
        have : (n - 1) / 2 ^ Nat.log2 n = 1 := by
          rw [Nat.pow_succ] at h2
          exact Nat.div_eq_of_lt_le (by omega) (by omega)
        rw [this]
      have : (n &&& (n - 1)).testBit (Nat.log2 n) = true := by rw [Nat.testBit_and, hb1, hb2]; rfl
      rw [h0, Nat.zero_testBit] at this
      cases this
  · intro e
    generalize Nat.log2 n = k at *
    subst e
    rw [Nat.and_two_pow_sub_one_eq_mod, Nat.mod_self]
end Go.Ev.W
namespace Go.Ev.W
open Go.Ev Go.Ev.N

def sNw (g c : Int) : List AV := if SlOkI g c then tL g.toNat c.toNat offB else []
theorem sNw_told {g c : Int} (hg : -9223372036854775808 ≤ g ∧ g ≤ 9223372036854775807) (hc : -9223372036854775808 ≤ c ∧ c ≤ 9223372036854775807) : Told P T slots_New [] [i64 g, i64 c] (.agg [.lst t_api_Tree (sNw g c)]) [] := by
  unfold sNw
  by_cases h : SlOkI g c
  · rw [if_pos h]
    obtain ⟨n, rfl⟩ : ∃ n : Nat, g = n := ⟨g.toNat, by have := h.2.2.1; omega⟩
    obtain ⟨k, rfl⟩ : ∃ k : Nat, c = k := ⟨c.toNat, by have := h.1; omega⟩
    exact slNew_told h.ok
  · rw [if_neg h]
    exact slNewNo_told h hg hc
theorem sNw_len (g c : Int) : (sNw g c).length = if SlOkI g c then c.toNat else 0 := by
  unfold sNw
  split
  · rw [tL_len]
  · rfl
/-- May there be such an engine? -/
def NwOk (G g c : Int) : Prop := (1 ≤ G ∧ G ≤ 65536 ∧ G.toNat = 2 ^ Nat.log2 G.toNat) ∧ SlOkI g c ∧ g ≤ ((65536 / G.toNat : Nat) : Int)
instance (G g c : Int) : Decidable (NwOk G g c) := by unfold NwOk; infer_instance
def nwE (G g c : Int) : AV := if NwOk G g c then eE G.toNat g.toNat c.toNat offB [] else eN
theorem and_pred {n : Nat} (h : 1 ≤ n) (h2 : n ≤ 65536) : bitsOp .and .i64 (n : Int) ((n : Int) - 1) = ((n &&& (n - 1) : Nat) : Int) := by
  rw [show ((n : Nat) : Int) - 1 = ((n - 1 : Nat) : Int) by omega]
  exact and64i (by omega) (by omega)
set_option maxHeartbeats 1000000 in
theorem plNew_told (G g c : Int) (hG : -9223372036854775808 ≤ G ∧ G ≤ 9223372036854775807) (hg : -9223372036854775808 ≤ g ∧ g ≤ 9223372036854775807) (hc : -9223372036854775808 ≤ c ∧ c ≤ 9223372036854775807) : Told P T place_New [] [i64 G, i64 g, i64 c] (.tup [nwE G g c, .bool (decide (NwOk G g c))]) [] := by
  have no : ¬ NwOk G g c → (nwE G g c = eN ∧ decide (NwOk G g c) = false) := fun h => ⟨by unfold nwE; rw [if_neg h], decide_eq_false h⟩
  by_cases h1 : G < 1
  · obtain ⟨e1, e2⟩ := no fun h => by have := h.1.1; omega
    rw [e1, e2]
    refine told_of_ev (fn := place_New_fn) tabOk mixed (by kernel_rfl) (by kernel_rfl) (by kernel_rfl) (by kernel_rfl) ?_
    (refine gw ?_; refine IfB.tt (by simp; omega) ?_)
    (refine gw ?_)
    exact RetN.fz ⟨[true], [], rfl, rfl, rfl⟩
  · by_cases h2 : G > 65536
    · obtain ⟨e1, e2⟩ := no fun h => by have := h.1.2.1; omega
      rw [e1, e2]
      refine told_of_ev (fn := place_New_fn) tabOk mixed (by kernel_rfl) (by kernel_rfl) (by kernel_rfl) (by kernel_rfl) ?_
      (refine gw ?_; refine IfB.ff (by simp; omega) ?_)
      (refine gw ?_; refine IfB.tt (by simp; omega) ?_)
      (refine gw ?_)
      exact RetN.fz ⟨[true], [], rfl, rfl, rfl⟩
    · obtain ⟨n, rfl⟩ : ∃ n : Nat, G = n := ⟨G.toNat, by omega⟩
      have hand := and_pred (n := n) (by omega) (by omega)
      have hbit := pow2_bit (n := n) (by omega)
      have c1 := sNw_told hg hc
      have hl := sNw_len g c
      have hdv : (65536 : Int).tdiv (n : Int) = ((65536 / n : Nat) : Int) := (Int.ofNat_tdiv 65536 n).symm
      have hne : ((n : Nat) : Int) ≠ 0 := by omega
      by_cases h3 : n = 2 ^ Nat.log2 n
      · rw [hbit.2 h3] at hand
        by_cases h4 : SlOkI g c
        · rw [if_pos h4] at hl
          have hd2 : 65536 / n ≤ 65536 := Nat.div_le_self _ _
          by_cases h5 : g ≤ ((65536 / n : Nat) : Int)
          · have hok : NwOk n g c := ⟨⟨by omega, by omega, h3⟩, h4, h5⟩
            have e1 : nwE n g c = .agg [i64 n, .lst t_api_Tree (sNw g c), .lst t_api_Mark []] := by unfold nwE sNw; rw [if_pos hok, if_pos h4]; rfl
            rw [e1, decide_eq_true hok]
            have h41 := h4.1
            generalize 65536 / n = q at *
            refine told_of_ev (fn := place_New_fn) tabOk mixed (by kernel_rfl) (by kernel_rfl) (by kernel_rfl) (by kernel_rfl) ?_
            (refine gw ?_; refine IfB.ff (by simp; omega) ?_)
            (refine gw ?_; refine IfB.ff (by simp; omega) ?_)
            (refine gw ?_)
            rw [hand]
            (refine gw ?_; refine Choice.mk ⟨false, Choice.mk ⟨false, _, _, c1, ?_⟩⟩)
            (refine gw ?_)
            rw [hl]
            (refine gw ?_; refine IfB.ff (by simp; omega) ?_)
            (refine gw ?_)
            rw [hdv]
            (refine gw ?_; refine IfB.ff (by simp; omega) ?_)
            (refine gw ?_)
            exact RetN.fz ⟨[true], [], rfl, rfl, rfl⟩
          · obtain ⟨e1, e2⟩ := no fun h => h5 h.2.2
            rw [e1, e2]
            have h41 := h4.1
            generalize 65536 / n = q at *
            refine told_of_ev (fn := place_New_fn) tabOk mixed (by kernel_rfl) (by kernel_rfl) (by kernel_rfl) (by kernel_rfl) ?_
            (refine gw ?_; refine IfB.ff (by simp; omega) ?_)
            (refine gw ?_; refine IfB.ff (by simp; omega) ?_)
            (refine gw ?_)
            rw [hand]
            (refine gw ?_; refine Choice.mk ⟨false, Choice.mk ⟨false, _, _, c1, ?_⟩⟩)
            (refine gw ?_)
            rw [hl]
            (refine gw ?_; refine IfB.ff (by simp; omega) ?_)
            (refine gw ?_)
            rw [hdv]
            (refine gw ?_; refine IfB.tt (by simp; omega) ?_)
            (refine gw ?_)
            exact RetN.fz ⟨[true], [], rfl, rfl, rfl⟩
        · rw [if_neg h4] at hl
          obtain ⟨e1, e2⟩ := no fun h => h4 h.2.1
          rw [e1, e2]
          refine told_of_ev (fn := place_New_fn) tabOk mixed (by kernel_rfl) (by kernel_rfl) (by kernel_rfl) (by kernel_rfl) ?_
          (refine gw ?_; refine IfB.ff (by simp; omega) ?_)
          (refine gw ?_; refine IfB.ff (by simp; omega) ?_)
          (refine gw ?_)
          rw [hand]
          (refine gw ?_; refine Choice.mk ⟨false, Choice.mk ⟨false, _, _, c1, ?_⟩⟩)
          (refine gw ?_)
          rw [hl]
          (refine gw ?_)
          exact RetN.fz ⟨[true], [], rfl, rfl, rfl⟩
      · have hr : n &&& (n - 1) ≠ 0 := fun e => h3 (hbit.1 e)
        obtain ⟨e1, e2⟩ := no fun h => h3 h.1.2.2
        rw [e1, e2]
        generalize n &&& (n - 1) = r at *
        refine told_of_ev (fn := place_New_fn) tabOk mixed (by kernel_rfl) (by kernel_rfl) (by kernel_rfl) (by kernel_rfl) ?_
        (refine gw ?_; refine IfB.ff (by simp; omega) ?_)
        (refine gw ?_; refine IfB.ff (by simp; omega) ?_)
        (refine gw ?_)
        rw [hand]
        (refine gw ?_; refine IfB.tt (by simp; omega) ?_)
        (refine gw ?_)
        exact RetN.fz ⟨[true], [], rfl, rfl, rfl⟩
end Go.Ev.W
namespace Go.Ev.W
open Go.Ev Go.Ev.N

theorem made_told (l : List Nat) : Told P T mk_Made [] [lB l] (.ptr 0 0 0) [pkB ⟨l, 0⟩] := by
  refine told_of_ev (fn := mk_Made_fn) tabOk mixed (by kernel_rfl) (by kernel_rfl) (by kernel_rfl) (by kernel_rfl) ?_
  exact RetN.mk ⟨[0], rfl, rfl, rfl⟩
theorem over_told' (p : Pk) : Told P T mk_Picks_Over [pkB p] [.ptr 0 0 0] (.bool p.over) [pkB p] := by
  have hml : (p.l.map u8).length = p.l.length := by simp
  refine told_of_ev (fn := mk_Picks_Over_fn) tabOk mixed (by kernel_rfl) (by kernel_rfl) (by kernel_rfl) (by kernel_rfl) ?_
  refine gw ?_
  (refine gw ?_; refine RetN.mk ⟨[], rfl, ?_, rfl⟩)
  show AV.bool (decide ((p.n : Int) ≥ ((p.l.map u8).length : Nat))) = AV.bool (decide (p.l.length ≤ p.n))
  congr 1
  exact decide_eq_decide.2 (by omega)
theorem num_told (p : Pk) (ok : p.Ok) (m : Nat) (hm : m ≤ 1000000) : Told P T mk_Picks_Num [pkB p] [.ptr 0 0 0, i64 m] (i64 (p.num m)) [pkB (p.next m)] := by
  have hml : (p.l.map u8).length = p.l.length := by simp
  have hl := ok.l
  simp only [maxLen] at hl
  refine told_of_ev (fn := mk_Picks_Num_fn) tabOk mixed (by kernel_rfl) (by kernel_rfl) (by kernel_rfl) (by kernel_rfl) ?_
  refine gw ?_
  (refine gw ?_; first | refine IfB.dec (fun h1 => ?_) (fun h1 => ?_) | refine IfB.eq (fun h1 => ?_) (fun h1 => ?_) | refine IfB.ne (fun h1 => ?_) (fun h1 => ?_) | refine IfB.mk (fun h1 => ?_) (fun h1 => ?_))
  · have e1 : p.num m = 0 := by unfold Pk.num; rw [if_neg (by omega)]
    have e2 : p.next m = p := by unfold Pk.next; rw [if_neg (by omega)]
    rw [e1, e2]
    refine gw ?_
    (refine gw ?_; exact RetN.mk ⟨[], rfl, rfl, rfl⟩)
  · refine gw ?_
    (refine gw ?_; first | refine IfB.dec (fun h2 => ?_) (fun h2 => ?_) | refine IfB.eq (fun h2 => ?_) (fun h2 => ?_) | refine IfB.ne (fun h2 => ?_) (fun h2 => ?_) | refine IfB.mk (fun h2 => ?_) (fun h2 => ?_))
    · have e1 : p.num m = 0 := by unfold Pk.num; rw [if_neg (by omega)]
      have e2 : p.next m = p := by unfold Pk.next; rw [if_neg (by omega)]
      rw [e1, e2]
      refine gw ?_
      (refine gw ?_; exact RetN.mk ⟨[], rfl, rfl, rfl⟩)
    · have hlt : p.n < p.l.length := by omega
      have e1 : p.num m = p.l[p.n] % m := by unfold Pk.num; rw [if_pos (by omega), List.getElem?_eq_getElem hlt]; rfl
      have e2 : p.next m = ⟨p.l, p.n + 1⟩ := by unfold Pk.next; rw [if_pos (by omega)]
      have hb := ok.b _ (List.getElem_mem hlt)
      rw [e1, e2]
      refine gw ?_
      refine idx_map' p.n (by omega) hlt ?_
      refine gw ?_
      (refine gw ?_; exact RetN.mk ⟨[], rfl, rfl, rfl⟩)
end Go.Ev.W
namespace Go.Ev.W
open Go.Ev Go.Ev.N

theorem refSize_told (c : Cf) (k : Nat) (hk : k ≤ 40) (hG : c.G ≤ 65536) : Told P T ref1_Size [] [eC c, i64 k] (i64 (c.G * 2 ^ k : Nat)) [] := by
  have hb : ∀ j, j ≤ k → c.G * 2 ^ j ≤ 65536 * 1099511627776 := fun j hj => Nat.mul_le_mul hG ((Nat.pow_le_pow_right (by omega) (show j ≤ 40 by omega) : 2 ^ j ≤ 2 ^ 40))
  refine told_of_ev (fn := ref1_Size_fn) tabOk mixed (by kernel_rfl) (by kernel_rfl) (by kernel_rfl) (by kernel_rfl) ?_
  (refine gw ?_; refine LoopN.mk ⟨[1,5,6], fun vs L => ∃ j : Nat, vs = [i64 k, i64 (c.G * 2 ^ j : Nat), i64 j] ∧ L = [] ∧ j ≤ k, fun vs L => match vs with | [_, _, .int _ i] => k - i.toNat | _ => 0, [], [], rfl, ⟨0, by rw [Nat.pow_zero, Nat.mul_one]; rfl, rfl, by omega⟩, ?_⟩)
  rintro vs L ⟨j, rfl, rfl, hj⟩
  (refine gw ?_; first | refine IfB.dec (fun h1 => ?_) (fun h1 => ?_) | refine IfB.eq (fun h1 => ?_) (fun h1 => ?_) | refine IfB.ne (fun h1 => ?_) (fun h1 => ?_) | refine IfB.mk (fun h1 => ?_) (fun h1 => ?_))
  · have e : c.G * 2 ^ (j + 1) = c.G * 2 ^ j * 2 := by rw [Nat.pow_succ, Nat.mul_assoc]
    have b1 := hb j hj
    have b2 := hb (j + 1) (by omega)
    rw [e] at b2
    have e2 : ((c.G * 2 ^ (j + 1) : Nat) : Int) = ((c.G * 2 ^ j : Nat) : Int) * 2 := by rw [e]; omega
    generalize c.G * 2 ^ j = q at *
    (refine gw ?_; refine ⟨[], [], rfl, ⟨j + 1, by rw [e2]; rfl, rfl, by omega⟩, (by omega : k - ((j : Int) + 1).toNat < k - (j : Int).toNat)⟩)
  · have e : j = k := by omega
    subst e
    (refine gw ?_; exact RetN.mk ⟨[], rfl, rfl, rfl⟩)
end Go.Ev.W
namespace Go.Ev.W
open Go.Ev Go.Ev.N

/-- Numbers and bools of a row, by place. -/
def tabF (n : Nat) (f : Nat → AV) : List AV := (List.range n).map f
theorem tabF_len (n : Nat) (f : Nat → AV) : (tabF n f).length = n := by simp [tabF]
theorem tabF_get {n : Nat} {f : Nat → AV} {k : Nat} (h : k < n) : (tabF n f)[k]? = some (f k) := by simp [tabF, h]
theorem tabF_congr {n : Nat} {f g : Nat → AV} (h : ∀ k, k < n → f k = g k) : tabF n f = tabF n g := List.map_congr_left fun k hk => h k (by simpa using hk)
theorem tabF_set {n : Nat} {f g : Nat → AV} {k : Nat} {v : AV} (h : k < n) (hg : ∀ j, j < n → g j = if j = k then v else f j) : (tabF n f).set k v = tabF n g := by
  apply List.ext_getElem?
  intro j
  rw [List.getElem?_set]
  by_cases hj : j < n
  · rw [tabF_get hj, tabF_get hj, hg j hj]
    by_cases e : k = j
    · subst e; simp [tabF_len, h]
    · simp [e, Ne.symm e]
  · rw [List.getElem?_eq_none (by rw [tabF_len]; omega), List.getElem?_eq_none (by rw [tabF_len]; omega)]
    rw [if_neg (by omega)]
theorem tabF_rep (n : Nat) (v : AV) : List.replicate n v = tabF n fun _ => v := by
  unfold tabF; rw [List.map_const']; simp
theorem tabF_map {α : Type} (l : List α) (enc : α → AV) (d : α) : l.map enc = tabF l.length fun k => enc (l.getD k d) := by
  apply List.ext_getElem?
  intro j
  by_cases hj : j < l.length
  · rw [tabF_get hj]; simp [hj, List.getD_eq_getElem?_getD]
  · rw [List.getElem?_eq_none (by simp; omega), List.getElem?_eq_none (by rw [tabF_len]; omega)]
theorem tabF_of {α : Type} (n : Nat) (f : Nat → α) (enc : α → AV) : (tabF n fun k => enc (f k)) = ((List.range n).map f).map enc := by simp [tabF]

/-- How much is charged for so much, at a multiple of so much; why not. -/
def chargeF (c : Cf) (s a : Int) : Nat × Nat :=
  if (logF a).2 = false ∨ a > c.N then (0, 3) else if s < 0 ∨ s > c.N then (0, 4) else (upN (max (max s.toNat a.toNat) c.G), 0)
def prodF (c : Cf) (n s : Int) : Nat × Nat :=
  if n < 0 ∨ s < 0 then (0, 2) else if n * s ≤ c.N then ((n * s).toNat, 0) else (0, 4)
def newF (c : Cf) (live s a : Int) : Nat × Nat :=
  if (chargeF c s a).2 ≠ 0 then (0, (chargeF c s a).2) else if live > (c.M : Int) - (chargeF c s a).1 then (0, 5) else ((chargeF c s a).1, 0)
def manyF (c : Cf) (live n s : Int) : Nat × Nat :=
  if (prodF c n s).2 ≠ 0 then (0, (prodF c n s).2) else newF c live (prodF c n s).1 1

/-- A block: where, how much is charged, how much was asked for. -/
structure Bk where
  a : Int
  c : Int
  q : Int
  deriving DecidableEq
def eB (b : Bk) : AV := .agg [i64 b.a, i64 b.c, i64 b.q]
/-- All that there is. -/
structure Mo where
  c : Cf
  bs : List Bk
  live : Int
  peak : Int
  mark : Int
  on : List Bool
  mem : List Nat
  deriving DecidableEq
def lK (l : List Bk) : AV := .lst t_api_Block (l.map eB)
def lT (l : List Bool) : AV := .lst t_bool (l.map .bool)
def lU (l : List Nat) : AV := .lst t_uint8 (l.map u8)
def eM (m : Mo) : AV := .agg [i64 m.c.G, i64 m.c.N, i64 m.c.M, i64 m.c.L, i64 m.c.Pg, i64 m.c.P, i64 m.c.H, i64 m.c.Sd, lK m.bs, i64 m.live, i64 m.peak, i64 m.mark, lT m.on, lU m.mem]
/-- What a call is told. -/
structure An where
  e : Nat
  at' : Int
  n : Int
  b : Nat
  live : Int
  peak : Int
  mark : Int
  pg : Int
  deriving DecidableEq
def eA (x : An) : AV := .agg [i64 x.e, i64 x.at', i64 x.n, .int .u8 (x.b : Int), i64 x.live, i64 x.peak, i64 x.mark, i64 x.pg]
def an0 : An := ⟨0, 0, 0, 0, 0, 0, 0, 0⟩
def anE (e : Nat) : An := ⟨e, 0, 0, 0, 0, 0, 0, 0⟩

def ovr (a n b m : Int) : Bool := decide (a < b + m ∧ b < a + n)
def freeAt (l : List Bk) (n y : Int) : Bool := l.all fun b => !ovr y n b.a b.c
/-- The lowest place of so much. -/
def lowGo (l : List Bk) (n : Nat) : Nat → Nat → Nat × Bool
  | 0, _ => (0, false)
  | f + 1, k => if freeAt l n (k * n : Nat) = true then (k * n, true) else lowGo l n f (k + 1)
def lowF (c : Cf) (l : List Bk) (n : Nat) : Nat × Bool := lowGo l n (c.H / n) 0
def lowB (y : Int) : List Bk → Nat
  | [] => 0
  | x :: l => if x.a ≤ y then lowB y l + 1 else 0
def putB (l : List Bk) (b : Bk) : List Bk := l.take (lowB b.a l) ++ b :: l.drop (lowB b.a l)
def metF (pg size : Nat) (l : List Bk) : List Bool := (List.range (size / pg)).map fun i => l.any fun b => ovr (i * pg : Nat) pg b.a b.c
def cntB (l : List Bool) : Nat := (l.filter id).length
/-- Which pages are there then, which are fresh; none: too many. -/
def commitF (on met : List Bool) (first behind : Nat) (most : Nat) : List Bool × List Nat × Bool :=
  let these := fun i => decide (first ≤ i ∧ i < behind)
  let need := (List.range on.length).map fun i => met.getD i false || these i
  let all := (List.range on.length).map fun i => on.getD i false || these i
  let fresh := (List.range on.length).filter fun i => these i && !on.getD i false
  if cntB need > most then ([], [], false)
  else (if cntB all > most then (List.range on.length).map fun i => all.getD i false && need.getD i false else all, fresh, true)
def trimF (on met : List Bool) : List Bool × Nat :=
  ((List.range on.length).map fun i => on.getD i false && met.getD i false, ((List.range on.length).filter fun i => on.getD i false && !met.getD i false).length)
def byteF (seed page i : Nat) : Nat := (seed % 256 + 31 * (page % 256) + 7 * (i % 256) + 1) % 256
def fillF (mem : List Nat) (seed page size : Nat) : List Nat := (List.range mem.length).map fun i => if i / size = page then byteF seed page (i % size) else mem.getD i 0
def totalB (l : List Bk) : Int := (l.map (·.c)).sum
def placeF (m : Mo) (l : List Bk) (n : Nat) (q : Int) : Mo × Int × Nat :=
  let lo := lowF m.c l n
  if lo.2 = false then (m, 0, 7)
  else
    let co := commitF m.on (metF m.c.Pg m.c.H l) (lo.1 / m.c.Pg) ((lo.1 + n - 1) / m.c.Pg + 1) m.c.P
    if co.2.2 = false then (m, 0, 6)
    else
      let bs := putB l ⟨lo.1, n, q⟩
      ({ m with bs := bs, live := totalB bs, peak := max m.peak (totalB bs), mark := max m.mark (lo.1 + n), on := co.1, mem := co.2.1.foldl (fun mem p => fillF mem m.c.Sd p m.c.Pg) m.mem }, lo.1, 0)
def newM (r : Rw) : Mo × Nat :=
  if (ofF r).2 ≠ 0 then (⟨cf0, [], 0, 0, 0, [], []⟩, (ofF r).2) else (⟨(ofF r).1, [], 0, 0, 0, List.replicate ((ofF r).1.H / (ofF r).1.Pg) false, List.replicate (ofF r).1.H 0⟩, 0)
end Go.Ev.W
namespace Go.Ev.W
open Go.Ev Go.Ev.N

/-- Blocks that lie apart, rising, within so much. -/
structure ApB (H : Nat) (l : List Bk) : Prop where
  p : l.Pairwise fun x y => x.a + x.c ≤ y.a
  b : ∀ x ∈ l, 0 ≤ x.a ∧ 1 ≤ x.c ∧ x.a + x.c ≤ H
theorem ApB.nil (H : Nat) : ApB H [] := ⟨List.Pairwise.nil, by simp⟩
theorem ApB.sub {H : Nat} {l m : List Bk} (h : ApB H l) (hs : m.Sublist l) : ApB H m := ⟨h.p.sublist hs, fun x hx => h.b x (hs.subset hx)⟩
theorem lowB_le (y : Int) : ∀ l, lowB y l ≤ l.length
  | [] => Nat.le_refl _
  | m :: l => by
    have := lowB_le y l
    unfold lowB; split <;> simp <;> omega
theorem lowB_lt {y : Int} : ∀ {l : List Bk} {k : Nat} (hk : k < l.length), k < lowB y l → l[k].a ≤ y
  | [], k, h, _ => by simp at h
  | m :: l, 0, h, h2 => by
    unfold lowB at h2; split at h2
    · assumption
    · omega
  | m :: l, k + 1, h, h2 => by
    unfold lowB at h2; split at h2
    · exact lowB_lt (l := l) (by simpa using h) (by omega)
    · omega
theorem lowB_ge {y : Int} : ∀ {l : List Bk} (hk : lowB y l < l.length), y < l[lowB y l].a
  | [], h => by simp at h
  | m :: l, h => by
    by_cases hm : m.a ≤ y
    · have e : lowB y (m :: l) = lowB y l + 1 := by simp [lowB, hm]
      simp only [e] at h ⊢
      exact lowB_ge (l := l) (by simpa using h)
    · have e : lowB y (m :: l) = 0 := by simp [lowB, hm]
      simp only [e]
      simp; omega
/-- Those ahead of a place, and those behind it. -/
theorem put_split {H : Nat} : ∀ {l : List Bk}, ApB H l → ∀ y : Int, ∃ l1 l2, l = l1 ++ l2 ∧ lowB y l = l1.length ∧ (∀ x ∈ l1, x.a ≤ y) ∧ ∀ x ∈ l2, y < x.a
  | [], _, _ => ⟨[], [], rfl, rfl, by simp, by simp⟩
  | x :: l, h, y => by
    have hl : ApB H l := h.sub (List.sublist_cons_self _ _)
    by_cases hx : x.a ≤ y
    · obtain ⟨l1, l2, rfl, e, h1, h2⟩ := put_split hl y
      exact ⟨x :: l1, l2, rfl, by simp [lowB, hx, e], by simpa [hx] using h1, h2⟩
    · refine ⟨[], x :: l, rfl, by simp [lowB, hx], by simp, fun z hz => ?_⟩
      have := h.b x (by simp)
      rcases List.mem_cons.1 hz with rfl | hz
      · omega
      · have := (List.pairwise_cons.1 h.p).1 z hz; omega
theorem freeAt_iff {l : List Bk} {n y : Int} : freeAt l n y = true ↔ ∀ x ∈ l, ¬ (y < x.a + x.c ∧ x.a < y + n) := by
  simp only [freeAt, List.all_eq_true, Bool.not_eq_true', ovr, decide_eq_false_iff_not]
theorem putB_ok {H : Nat} {l : List Bk} (h : ApB H l) {b : Bk} (hf : freeAt l b.c b.a = true) (hb : 0 ≤ b.a ∧ 1 ≤ b.c ∧ b.a + b.c ≤ H) :
    ApB H (putB l b) ∧ (∀ x, x ∈ putB l b ↔ x = b ∨ x ∈ l) ∧ totalB (putB l b) = totalB l + b.c ∧ (putB l b).length = l.length + 1 := by
  obtain ⟨l1, l2, e, e1, h1, h2⟩ := put_split h b.a
  have e3 : putB l b = l1 ++ b :: l2 := by unfold putB; rw [e1, e, List.take_left, List.drop_left]
  rw [freeAt_iff] at hf
  have hp := h.p
  have hbb := h.b
  rw [e] at hp hbb hf
  rw [List.pairwise_append] at hp
  have g1 : ∀ x ∈ l1, x.a + x.c ≤ b.a := fun x hx => by have := hf x (by simp [hx]); have := h1 x hx; omega
  have g2 : ∀ x ∈ l2, b.a + b.c ≤ x.a := fun x hx => by have := hf x (by simp [hx]); have := h2 x hx; have := hbb x (by simp [hx]); omega
  rw [e3, e]
  refine ⟨⟨?_, fun x hx => ?_⟩, fun x => ?_, ?_, by simp; omega⟩
  · rw [List.pairwise_append, List.pairwise_cons]
    refine ⟨hp.1, ⟨g2, hp.2.1⟩, fun x hx y hy => ?_⟩
    rcases List.mem_cons.1 hy with rfl | hy
    · exact g1 x hx
    · exact hp.2.2 x hx y hy
  · simp only [List.mem_append, List.mem_cons] at hx
    rcases hx with hx | rfl | hx
    · exact hbb x (by simp [hx])
    · exact hb
    · exact hbb x (by simp [hx])
  · simp only [List.mem_append, List.mem_cons]
    constructor
    · rintro (h | h | h)
      · exact .inr (.inl h)
      · exact .inl h
      · exact .inr (.inr h)
    · rintro (h | h | h)
      · exact .inr (.inl h)
      · exact .inl h
      · exact .inr (.inr h)
  · simp only [totalB, List.map_append, List.sum_append, List.map_cons, List.sum_cons]; omega
theorem totalB_nonneg {H : Nat} {l : List Bk} (h : ApB H l) : (l.length : Int) ≤ totalB l := by
  have hb := h.b
  clear h
  induction l with
  | nil => simp [totalB]
  | cons x l ih =>
    have := ih fun y hy => hb y (by simp [hy])
    have := hb x (by simp)
    have e : totalB (x :: l) = x.c + totalB l := by simp only [totalB, List.map_cons, List.sum_cons]
    rw [e, List.length_cons]; omega
theorem lowGo_spec {l : List Bk} {n : Nat} : ∀ (f k : Nat), (lowGo l n f k).2 = true → ∃ j, k ≤ j ∧ j < k + f ∧ (lowGo l n f k).1 = j * n ∧ freeAt l n ((j * n : Nat) : Int) = true ∧ ∀ i, k ≤ i → i < j → freeAt l n ((i * n : Nat) : Int) = false
  | 0, k, h => by simp [lowGo] at h
  | f + 1, k, h => by
    unfold lowGo at h ⊢
    split at h
    · rename_i hf
      rw [if_pos hf]
      exact ⟨k, Nat.le_refl _, by omega, rfl, hf, fun i _ _ => by omega⟩
    · rename_i hf
      rw [if_neg hf]
      obtain ⟨j, h1, h2, h3, h4, h5⟩ := lowGo_spec f (k + 1) h
      refine ⟨j, by omega, by omega, h3, h4, fun i hi hj => ?_⟩
      rcases Nat.lt_or_ge k i with h' | h'
      · exact h5 i h' hj
      · have : i = k := by omega
        subst this; simpa using hf
theorem lowF_spec {c : Cf} {l : List Bk} {n : Nat} (hn : 1 ≤ n) (h : (lowF c l n).2 = true) : ∃ j, (lowF c l n).1 = j * n ∧ j * n + n ≤ c.H ∧ freeAt l n ((lowF c l n).1 : Nat) = true ∧ ∀ i, i < j → freeAt l n ((i * n : Nat) : Int) = false := by
  obtain ⟨j, _, h2, h3, h4, h5⟩ := lowGo_spec (c.H / n) 0 h
  refine ⟨j, h3, ?_, by unfold lowF; rw [h3]; exact h4, fun i hi => h5 i (Nat.zero_le _) hi⟩
  have : (j + 1) * n ≤ c.H / n * n := Nat.mul_le_mul_right _ (by omega)
  have := Nat.div_mul_le_self c.H n
  rw [Nat.succ_mul] at *
  omega
/-- What holds of all that there is. -/
structure MoOk (m : Mo) : Prop where
  c : m.c.Ok
  a : ApB m.c.H m.bs
  z : ∀ x ∈ m.bs, ∃ k, k ≤ m.c.L ∧ x.c = ((m.c.G * 2 ^ k : Nat) : Int) ∧ x.a % x.c = 0 ∧ 0 ≤ x.q ∧ x.q ≤ x.c
  l : m.live = totalB m.bs
  lM : m.live ≤ m.c.M
  p : m.live ≤ m.peak ∧ m.peak ≤ m.c.M
  k : (∀ x ∈ m.bs, x.a + x.c ≤ m.mark) ∧ 0 ≤ m.mark ∧ m.mark ≤ m.c.H
  o : m.on.length = m.c.H / m.c.Pg
  on : cntB m.on ≤ m.c.P
  mm : m.mem.length = m.c.H
  b : IsB m.mem
end Go.Ev.W
namespace Go.Ev.W
open Go.Ev Go.Ev.N

theorem tdiv_rng {w s : Int} (h1 : -9223372036854775808 ≤ w) (h2 : w ≤ 9223372036854775807) (hs : 1 ≤ s) : -9223372036854775808 ≤ w.tdiv s ∧ w.tdiv s ≤ 9223372036854775807 := by
  rcases Int.lt_or_le w 0 with h | h
  · obtain ⟨y, rfl⟩ : ∃ y, w = -y := ⟨-w, by omega⟩
    rw [Int.neg_tdiv, Int.tdiv_eq_ediv_of_nonneg (show 0 ≤ y by omega)]
    have a := Int.ediv_nonneg (show 0 ≤ y by omega) (show 0 ≤ s by omega)
    have b := Int.ediv_le_self s (show 0 ≤ y by omega)
    omega
  · rw [Int.tdiv_eq_ediv_of_nonneg h]
    have a := Int.ediv_nonneg h (show 0 ≤ s by omega)
    have b := Int.ediv_le_self s h
    omega
theorem mul_over {n s : Int} (hn : 0 ≤ n) (hs : 1 ≤ s ∧ s ≤ 9223372036854775807) (h : 9223372036854775808 ≤ n * s) : (IntKind.i64.wrap (n * s)).tdiv s ≠ n := by
  intro e
  have h1 := Int.mul_tdiv_add_tmod (IntKind.i64.wrap (n * s)) s
  rw [e] at h1
  have h2 := Int.tmod_lt_of_pos (IntKind.i64.wrap (n * s)) (show (0 : Int) < s by omega)
  have h3 := Int.lt_tmod_of_pos (IntKind.i64.wrap (n * s)) (show (0 : Int) < s by omega)
  rw [Int.mul_comm s n] at h1
  generalize (IntKind.i64.wrap (n * s)).tmod s = d at *
  rw [IntKind.wrap_i64] at h1
  generalize n * s = p at *
  omega
theorem refMul_told (n s : Int) (hn : 0 ≤ n ∧ n ≤ 9223372036854775807) (hs : 0 ≤ s ∧ s ≤ 9223372036854775807) : Told P T ref1_Mul [] [i64 n, i64 s] (.tup [i64 (if n * s ≤ 9223372036854775807 then n * s else 0), .bool (decide (n * s ≤ 9223372036854775807))]) [] := by
  refine told_of_ev (fn := ref1_Mul_fn) tabOk mixed (by kernel_rfl) (by kernel_rfl) (by kernel_rfl) (by kernel_rfl) ?_
  (refine gw ?_; first | refine IfB.dec (fun h1 => ?_) (fun h1 => ?_) | refine IfB.eq (fun h1 => ?_) (fun h1 => ?_) | refine IfB.ne (fun h1 => ?_) (fun h1 => ?_) | refine IfB.mk (fun h1 => ?_) (fun h1 => ?_))
  · rw [h1, Int.zero_mul]
    (refine gw ?_; exact RetN.mk ⟨[], rfl, rfl, rfl⟩)
  · (refine gw ?_; first | refine IfB.dec (fun h2 => ?_) (fun h2 => ?_) | refine IfB.eq (fun h2 => ?_) (fun h2 => ?_) | refine IfB.ne (fun h2 => ?_) (fun h2 => ?_) | refine IfB.mk (fun h2 => ?_) (fun h2 => ?_))
    · rw [h2, Int.mul_zero]
      (refine gw ?_; exact RetN.mk ⟨[], rfl, rfl, rfl⟩)
    · have hp : 0 ≤ n * s := Int.mul_nonneg hn.1 hs.1
      (refine gw ?_)
      refine Fits.mk ?_
      by_cases h : n * s ≤ 9223372036854775807
      · rw [wrap64 (by omega) h, if_pos h, decide_eq_true h]
        have e : (n * s).tdiv s = n := Int.mul_tdiv_cancel n (by omega)
        (refine gw ?_; first | refine IfB.dec (fun h3 => ?_) (fun h3 => ?_) | refine IfB.eq (fun h3 => ?_) (fun h3 => ?_) | refine IfB.ne (fun h3 => ?_) (fun h3 => ?_) | refine IfB.mk (fun h3 => ?_) (fun h3 => ?_))
        · omega
        · (refine gw ?_; first | refine IfB.dec (fun h4 => ?_) (fun h4 => ?_) | refine IfB.eq (fun h4 => ?_) (fun h4 => ?_) | refine IfB.ne (fun h4 => ?_) (fun h4 => ?_) | refine IfB.mk (fun h4 => ?_) (fun h4 => ?_))
          · omega
          · (refine gw ?_)
            rw [e]
            (refine gw ?_; exact RetN.mk ⟨[], rfl, rfl, rfl⟩)
      · rw [if_neg h, decide_eq_false h]
        have hne := mul_over hn.1 (s := s) (by omega) (by omega)
        obtain ⟨w, hw⟩ : ∃ w, IntKind.i64.wrap (n * s) = w := ⟨_, rfl⟩
        have hwr : -9223372036854775808 ≤ w ∧ w ≤ 9223372036854775807 := by
          rw [← hw, IntKind.wrap_i64]; omega
        rw [hw] at hne ⊢
        have ht := tdiv_rng hwr.1 hwr.2 (s := s) (by omega)
        (refine gw ?_; first | refine IfB.dec (fun h3 => ?_) (fun h3 => ?_) | refine IfB.eq (fun h3 => ?_) (fun h3 => ?_) | refine IfB.ne (fun h3 => ?_) (fun h3 => ?_) | refine IfB.mk (fun h3 => ?_) (fun h3 => ?_))
        · omega
        · (refine gw ?_; first | refine IfB.dec (fun h4 => ?_) (fun h4 => ?_) | refine IfB.eq (fun h4 => ?_) (fun h4 => ?_) | refine IfB.ne (fun h4 => ?_) (fun h4 => ?_) | refine IfB.mk (fun h4 => ?_) (fun h4 => ?_))
          · omega
          · (refine gw ?_; refine IfB.tt (by simpa using hne) ?_)
            (refine gw ?_; exact RetN.mk ⟨[], rfl, rfl, rfl⟩)
theorem refProd_told {c : Cf} (hc : c.N ≤ 65536) (n s : Int) (hn : -9223372036854775808 ≤ n ∧ n ≤ 9223372036854775807) (hs : -9223372036854775808 ≤ s ∧ s ≤ 9223372036854775807) : Told P T ref1_Product [] [eC c, i64 n, i64 s] (.tup [i64 ((prodF c n s).1 : Nat), i64 ((prodF c n s).2 : Nat)]) [] := by
  refine told_of_ev (fn := ref1_Product_fn) tabOk mixed (by kernel_rfl) (by kernel_rfl) (by kernel_rfl) (by kernel_rfl) ?_
  (refine gw ?_; first | refine IfB.dec (fun h1 => ?_) (fun h1 => ?_) | refine IfB.eq (fun h1 => ?_) (fun h1 => ?_) | refine IfB.ne (fun h1 => ?_) (fun h1 => ?_) | refine IfB.mk (fun h1 => ?_) (fun h1 => ?_))
  · rw [show prodF c n s = (0, 2) by unfold prodF; rw [if_pos (.inl h1)]]
    (refine gw ?_; exact RetN.mk ⟨[], rfl, rfl, rfl⟩)
  · (refine gw ?_; first | refine IfB.dec (fun h2 => ?_) (fun h2 => ?_) | refine IfB.eq (fun h2 => ?_) (fun h2 => ?_) | refine IfB.ne (fun h2 => ?_) (fun h2 => ?_) | refine IfB.mk (fun h2 => ?_) (fun h2 => ?_))
    · rw [show prodF c n s = (0, 2) by unfold prodF; rw [if_pos (.inr h2)]]
      (refine gw ?_; exact RetN.mk ⟨[], rfl, rfl, rfl⟩)
    · have hm := refMul_told n s (by omega) (by omega)
      have hp : 0 ≤ n * s := Int.mul_nonneg (by omega) (by omega)
      by_cases h : n * s ≤ 9223372036854775807
      · rw [if_pos h, decide_eq_true h] at hm
        (refine gw ?_; refine Choice.mk ⟨false, Choice.mk ⟨true, _, _, hm, ?_⟩⟩)
        (refine gw ?_; first | refine IfB.dec (fun h3 => ?_) (fun h3 => ?_) | refine IfB.eq (fun h3 => ?_) (fun h3 => ?_) | refine IfB.ne (fun h3 => ?_) (fun h3 => ?_) | refine IfB.mk (fun h3 => ?_) (fun h3 => ?_))
        · rw [show prodF c n s = (0, 4) by unfold prodF; rw [if_neg (by omega), if_neg (by omega)]]
          (refine gw ?_; exact RetN.mk ⟨[], rfl, rfl, rfl⟩)
        · rw [show prodF c n s = ((n * s).toNat, 0) by unfold prodF; rw [if_neg (by omega), if_pos (by omega)]]
          have e : (((n * s).toNat : Nat) : Int) = n * s := by omega
          rw [e]
          (refine gw ?_; exact RetN.mk ⟨[], rfl, rfl, rfl⟩)
      · rw [if_neg h, decide_eq_false h] at hm
        rw [show prodF c n s = (0, 4) by unfold prodF; rw [if_neg (by omega), if_neg (by omega)]]
        (refine gw ?_; refine Choice.mk ⟨false, Choice.mk ⟨true, _, _, hm, ?_⟩⟩)
        (refine gw ?_; exact RetN.mk ⟨[], rfl, rfl, rfl⟩)
theorem refCharge_told {c : Cf} (hc : c.N ≤ 65536) (hg : c.G ≤ 65536) (hg1 : 1 ≤ c.G) (s a : Int) (ha : a ≤ 9223372036854775807) : Told P T ref1_Charge [] [eC c, i64 s, i64 a] (.tup [i64 ((chargeF c s a).1 : Nat), i64 ((chargeF c s a).2 : Nat)]) [] := by
  refine told_of_ev (fn := ref1_Charge_fn) tabOk mixed (by kernel_rfl) (by kernel_rfl) (by kernel_rfl) (by kernel_rfl) ?_
  (refine gw ?_; refine Choice.mk ⟨false, Choice.mk ⟨true, _, _, refLog_told a ha, ?_⟩⟩)
  cases h1 : (logF a).2 with
  | false =>
    rw [show chargeF c s a = (0, 3) by unfold chargeF; rw [if_pos (.inl h1)]]
    (refine gw ?_; exact RetN.mk ⟨[], rfl, rfl, rfl⟩)
  | true =>
    have ha1 : 1 ≤ a := by
      unfold logF at h1; split at h1
      · rename_i h; exact h.1
      · cases h1
    (refine gw ?_; first | refine IfB.dec (fun h2 => ?_) (fun h2 => ?_) | refine IfB.eq (fun h2 => ?_) (fun h2 => ?_) | refine IfB.ne (fun h2 => ?_) (fun h2 => ?_) | refine IfB.mk (fun h2 => ?_) (fun h2 => ?_))
    · rw [show chargeF c s a = (0, 3) by unfold chargeF; rw [if_pos (.inr h2)]]
      (refine gw ?_; exact RetN.mk ⟨[], rfl, rfl, rfl⟩)
    · (refine gw ?_; first | refine IfB.dec (fun h3 => ?_) (fun h3 => ?_) | refine IfB.eq (fun h3 => ?_) (fun h3 => ?_) | refine IfB.ne (fun h3 => ?_) (fun h3 => ?_) | refine IfB.mk (fun h3 => ?_) (fun h3 => ?_))
      · rw [show chargeF c s a = (0, 4) by unfold chargeF; rw [if_neg (by rw [h1]; simp; omega), if_pos (.inl h3)]]
        (refine gw ?_; exact RetN.mk ⟨[], rfl, rfl, rfl⟩)
      · (refine gw ?_; first | refine IfB.dec (fun h4 => ?_) (fun h4 => ?_) | refine IfB.eq (fun h4 => ?_) (fun h4 => ?_) | refine IfB.ne (fun h4 => ?_) (fun h4 => ?_) | refine IfB.mk (fun h4 => ?_) (fun h4 => ?_))
        · rw [show chargeF c s a = (0, 4) by unfold chargeF; rw [if_neg (by rw [h1]; simp; omega), if_pos (.inr h4)]]
          (refine gw ?_; exact RetN.mk ⟨[], rfl, rfl, rfl⟩)
        · have cu := refUp_told (max (max s.toNat a.toNat) c.G) (by omega) (by omega)
          have e1 : (if a > s then a else s) = ((max s.toNat a.toNat : Nat) : Int) := by split <;> omega
          have e2 : (if ((c.G : Nat) : Int) > ((max s.toNat a.toNat : Nat) : Int) then ((c.G : Nat) : Int) else ((max s.toNat a.toNat : Nat) : Int)) = ((max (max s.toNat a.toNat) c.G : Nat) : Int) := by split <;> omega
          rw [← e2, ← e1] at cu
          rw [show chargeF c s a = (upN (max (max s.toNat a.toNat) c.G), 0) by unfold chargeF; rw [if_neg (by rw [h1]; simp; omega), if_neg (by omega)]]
          (refine gw ?_; refine Choice.mk ⟨false, Choice.mk ⟨true, _, _, cu, ?_⟩⟩)
          (refine gw ?_; exact RetN.mk ⟨[], rfl, rfl, rfl⟩)
theorem chargeF_bd {c : Cf} (hc : c.Ok) (s a : Int) : (chargeF c s a).1 ≤ 65536 ∧ ((chargeF c s a).2 = 0 → ∃ k, k ≤ c.L ∧ (chargeF c s a).1 = c.G * 2 ^ k ∧ 0 ≤ s ∧ s ≤ (chargeF c s a).1) := by
  unfold chargeF
  split
  · simp
  · split
    · simp
    · rename_i h1 h2
      simp only [not_or] at h1 h2
      have ha : a ≤ c.N := by omega
      have hN := hc.n
      obtain ⟨g, hg⟩ := hc.g
      have hpN : c.N = 2 ^ (g + c.L) := by rw [hN, hg, Nat.pow_add]
      have hle : upN (max (max s.toNat a.toNat) c.G) ≤ 2 ^ (g + c.L) := by
        refine upN_le ?_
        rw [← hpN]
        have hgN : c.G ≤ c.N := by rw [hN]; exact Nat.le_mul_of_pos_right _ (Nat.two_pow_pos _)
        omega
      have hb := hc.nM
      have hb2 := hc.mH
      refine ⟨by rw [← hpN] at hle; omega, fun _ => ?_⟩
      obtain ⟨e, he⟩ := pow_up (v := max s.toNat a.toNat) hc.g
      refine ⟨e, ?_, he, by omega, ?_⟩
      · rw [he, hg, ← Nat.pow_add] at hle
        have := (Nat.pow_le_pow_iff_right (a := 2) (by omega)).1 hle
        omega
      · have := le_upN (max (max s.toNat a.toNat) c.G)
        show s ≤ ((upN _ : Nat) : Int)
        omega
theorem refNew_told {c : Cf} (hc : c.Ok) (live s a : Int) (hl : -9223372036854775808 ≤ live ∧ live ≤ 9223372036854775807) (ha : a ≤ 9223372036854775807) : Told P T ref1_New [] [eC c, i64 live, i64 s, i64 a] (.tup [i64 ((newF c live s a).1 : Nat), i64 ((newF c live s a).2 : Nat)]) [] := by
  have h1 := hc.nM
  have h2 := hc.mH
  have h3 := hc.gpos
  have h4 : c.G ≤ c.N := by rw [hc.n]; exact Nat.le_mul_of_pos_right _ (Nat.two_pow_pos _)
  have hb := (chargeF_bd hc s a).1
  refine told_of_ev (fn := ref1_New_fn) tabOk mixed (by kernel_rfl) (by kernel_rfl) (by kernel_rfl) (by kernel_rfl) ?_
  (refine gw ?_; refine Choice.mk ⟨false, Choice.mk ⟨true, _, _, refCharge_told (by omega) (by omega) h3 s a ha, ?_⟩⟩)
  (refine gw ?_; first | refine IfB.dec (fun g1 => ?_) (fun g1 => ?_) | refine IfB.eq (fun g1 => ?_) (fun g1 => ?_) | refine IfB.ne (fun g1 => ?_) (fun g1 => ?_) | refine IfB.mk (fun g1 => ?_) (fun g1 => ?_))
  · rw [show newF c live s a = (0, (chargeF c s a).2) by unfold newF; rw [if_pos (by omega)]]
    (refine gw ?_; exact RetN.mk ⟨[], rfl, rfl, rfl⟩)
  · (refine gw ?_; first | refine IfB.dec (fun g2 => ?_) (fun g2 => ?_) | refine IfB.eq (fun g2 => ?_) (fun g2 => ?_) | refine IfB.ne (fun g2 => ?_) (fun g2 => ?_) | refine IfB.mk (fun g2 => ?_) (fun g2 => ?_))
    · rw [show newF c live s a = (0, 5) by unfold newF; rw [if_neg (by omega), if_pos g2]]
      (refine gw ?_; exact RetN.mk ⟨[], rfl, rfl, rfl⟩)
    · rw [show newF c live s a = ((chargeF c s a).1, 0) by unfold newF; rw [if_neg (by omega), if_neg g2]]
      (refine gw ?_; exact RetN.mk ⟨[], rfl, rfl, rfl⟩)
theorem prodF_bd {c : Cf} (n s : Int) : (prodF c n s).1 ≤ c.N := by
  unfold prodF; split
  · simp
  · split
    · show (n * s).toNat ≤ _; omega
    · simp
theorem refMany_told {c : Cf} (hc : c.Ok) (live n s : Int) (hl : -9223372036854775808 ≤ live ∧ live ≤ 9223372036854775807) (hn : -9223372036854775808 ≤ n ∧ n ≤ 9223372036854775807) (hs : -9223372036854775808 ≤ s ∧ s ≤ 9223372036854775807) : Told P T ref1_Many [] [eC c, i64 live, i64 n, i64 s] (.tup [i64 ((manyF c live n s).1 : Nat), i64 ((manyF c live n s).2 : Nat)]) [] := by
  have h1 := hc.nM
  have h2 := hc.mH
  have h3 := prodF_bd (c := c) n s
  refine told_of_ev (fn := ref1_Many_fn) tabOk mixed (by kernel_rfl) (by kernel_rfl) (by kernel_rfl) (by kernel_rfl) ?_
  (refine gw ?_; refine Choice.mk ⟨false, Choice.mk ⟨true, _, _, refProd_told (c := c) (by omega) n s hn hs, ?_⟩⟩)
  (refine gw ?_; first | refine IfB.dec (fun g1 => ?_) (fun g1 => ?_) | refine IfB.eq (fun g1 => ?_) (fun g1 => ?_) | refine IfB.ne (fun g1 => ?_) (fun g1 => ?_) | refine IfB.mk (fun g1 => ?_) (fun g1 => ?_))
  · rw [show manyF c live n s = (0, (prodF c n s).2) by unfold manyF; rw [if_pos (by omega)]]
    (refine gw ?_; exact RetN.mk ⟨[], rfl, rfl, rfl⟩)
  · rw [show manyF c live n s = newF c live (prodF c n s).1 1 by unfold manyF; rw [if_neg (by omega)]]
    (refine gw ?_; refine Choice.mk ⟨false, Choice.mk ⟨true, _, _, refNew_told hc live ((prodF c n s).1 : Nat) 1 hl (by omega), ?_⟩⟩)
    (refine gw ?_; exact RetN.mk ⟨[], rfl, rfl, rfl⟩)
theorem refAnew_told {c : Cf} (hc : c.Ok) (live old s : Int) (hl : -1000000 ≤ live ∧ live ≤ 1000000) (ho : -1000000 ≤ old ∧ old ≤ 1000000) : Told P T ref1_Anew [] [eC c, i64 live, i64 old, i64 s] (.tup [i64 ((newF c (live - old) s 1).1 : Nat), i64 ((newF c (live - old) s 1).2 : Nat)]) [] := by
  refine told_of_ev (fn := ref1_Anew_fn) tabOk mixed (by kernel_rfl) (by kernel_rfl) (by kernel_rfl) (by kernel_rfl) ?_
  (refine gw ?_; refine Choice.mk ⟨false, Choice.mk ⟨true, _, _, refNew_told hc (live - old) s 1 (by omega) (by omega), ?_⟩⟩)
  (refine gw ?_; exact RetN.mk ⟨[], rfl, rfl, rfl⟩)
end Go.Ev.W
namespace Go.Ev.W
open Go.Ev Go.Ev.N

theorem ovr_told (a n b m : Int) (h : -4000000000000000000 ≤ a ∧ a ≤ 4000000000000000000 ∧ 0 ≤ n ∧ n ≤ 4000000000000000000 ∧ -4000000000000000000 ≤ b ∧ b ≤ 4000000000000000000 ∧ 0 ≤ m ∧ m ≤ 4000000000000000000) : Told P T ref8_Over [] [.agg [i64 a, i64 n], .agg [i64 b, i64 m]] (.bool (ovr a n b m)) [] := by
  refine told_of_ev (fn := ref8_Over_fn) tabOk mixed (by kernel_rfl) (by kernel_rfl) (by kernel_rfl) (by kernel_rfl) ?_
  repeat' ((conv => whnf); first | (refine Sure.mk (by kernel_rfl) ?_) | (refine IfB.tt rfl ?_) | (refine IfB.ff rfl ?_) | (refine IfB.tt ?_ ?_; (focus (simp <;> fail))) | (refine IfB.ff ?_ ?_; (focus (simp <;> fail))) | (refine fits (wrap64 ?_ ?_) ?_; (focus omega); (focus omega)) | (refine fits (wrapU64 ?_ ?_) ?_; (focus omega); (focus omega)) | (refine Need.mk ?_ ?_; (focus omega)) | (refine InB.mk ?_ ?_ ?_; (focus omega); (focus omega)) | (refine IfB.dec (fun h => ?_) (fun h => ?_)) | (refine IfB.eq (fun h => ?_) (fun h => ?_)) | (refine IfB.ne (fun h => ?_) (fun h => ?_)))
  all_goals (refine gw ?_; refine RetN.mk ⟨[], rfl, ?_, rfl⟩)
  all_goals ((try (conv => lhs; whnf)); (try simp [ovr, *]); (try omega))
def findB (l : List Bk) (y : Int) : Option Nat := l.findIdx? fun x => decide (x.a = y)
theorem findB_some {l : List Bk} {y : Int} {i : Nat} (hi : i < l.length) (h : ∀ j (h : j < l.length), j < i → l[j].a ≠ y) (h2 : l[i].a = y) : findB l y = some i := by
  unfold findB
  rw [List.findIdx?_eq_some_iff_getElem]
  exact ⟨hi, by simpa using h2, fun j hj => by simpa using h j (by omega) hj⟩
theorem findB_none {l : List Bk} {y : Int} (h : ∀ j (h : j < l.length), l[j].a ≠ y) : findB l y = none := by
  unfold findB
  rw [List.findIdx?_eq_none_iff]
  intro x hx
  obtain ⟨j, hj, rfl⟩ := List.getElem_of_mem hx
  simpa using h j hj
theorem find17_told (l : List Bk) (hl : l.length ≤ 1000000) (y : Int) : Told P T ref17_Find [] [lK l, i64 y] (i64 (match findB l y with | some i => ((i : Nat) : Int) | none => -1)) [] := by
  have hml : (l.map eB).length = l.length := by simp
  refine told_of_ev (fn := ref17_Find_fn) tabOk mixed (by kernel_rfl) (by kernel_rfl) (by kernel_rfl) (by kernel_rfl) ?_
  (refine gw ?_; refine LoopN.mk ⟨[0,1,5], fun vs L => ∃ i : Nat, vs = [lK l, i64 y, i64 i] ∧ L = [] ∧ i ≤ l.length ∧ ∀ j (h : j < l.length), j < i → l[j].a ≠ y, fun vs L => match vs with | [_, _, .int _ i] => l.length - i.toNat | _ => 0, [], [], rfl, ⟨0, rfl, rfl, by omega, fun j _ h => by omega⟩, ?_⟩)
  rintro vs L ⟨i, rfl, rfl, hi, hn⟩
  (refine gw ?_; first | refine IfB.dec (fun h1 => ?_) (fun h1 => ?_) | refine IfB.eq (fun h1 => ?_) (fun h1 => ?_) | refine IfB.ne (fun h1 => ?_) (fun h1 => ?_) | refine IfB.mk (fun h1 => ?_) (fun h1 => ?_))
  · have hlt : i < l.length := by omega
    (refine gw ?_; refine idx_map (hlt) ?_)
    (refine gw ?_; first | refine IfB.dec (fun h2 => ?_) (fun h2 => ?_) | refine IfB.eq (fun h2 => ?_) (fun h2 => ?_) | refine IfB.ne (fun h2 => ?_) (fun h2 => ?_) | refine IfB.mk (fun h2 => ?_) (fun h2 => ?_))
    · rw [findB_some hlt hn h2]
      (refine gw ?_; exact RetN.mk ⟨[], rfl, rfl, rfl⟩)
    · (refine gw ?_; refine ⟨[], [], rfl, ⟨i + 1, rfl, rfl, hlt, fun j h hj => ?_⟩, (by omega : l.length - ((i : Int) + 1).toNat < l.length - (i : Int).toNat)⟩)
      rcases Nat.lt_or_ge j i with h' | h'
      · exact hn j h h'
      · have : j = i := by omega
        subst this; exact h2
  · rw [findB_none fun j hj => hn j hj (by omega)]
    (refine gw ?_; exact RetN.mk ⟨[], rfl, rfl, rfl⟩)
theorem allB_succ {p : Bk → Bool} {l : List Bk} {i : Nat} (h : i < l.length) : (l.take (i + 1)).all p = ((l.take i).all p && p l[i]) := by
  rw [List.take_succ_eq_append_getElem h, List.all_append]; simp
set_option maxHeartbeats 1000000 in
theorem lowest17_told {c : Cf} (hc : c.Ok) {l : List Bk} (ha : ApB c.H l) {n : Nat} (hn : 1 ≤ n) (hn2 : n ≤ 65536) : Told P T ref17_Lowest [] [eC c, lK l, i64 n] (.tup [i64 ((lowF c l n).1 : Nat), .bool (lowF c l n).2]) [] := by
  have hml : (l.map eB).length = l.length := by simp
  have hH := hc.h2
  have hd := Nat.div_mul_le_self c.H n
  have hdl := Nat.div_add_mod c.H n
  have hdm := Nat.mod_lt c.H hn
  have hlen : l.length ≤ 65536 := by
    have h1 := totalB_nonneg ha
    rcases Nat.lt_or_ge 65536 l.length with h | h
    · exfalso
      -- the last one begins no lower than its number
      have key : ∀ i (h : i < l.length), (i : Int) ≤ l[i].a := by
        intro i
        induction i with
        | zero => intro h; have := ha.b _ (List.getElem_mem h); omega
        | succ i ih =>
          intro h
          have h1 := ih (by omega)
          have h2 := List.pairwise_iff_getElem.1 ha.p i (i + 1) (by omega) h (by omega)
          have h3 := ha.b _ (List.getElem_mem (show i < l.length by omega))
          omega
      have h2 := key 65536 h
      have h3 := ha.b _ (List.getElem_mem h)
      omega
    · exact h
  obtain ⟨R, hR⟩ : ∃ R, lowF c l n = R := ⟨_, rfl⟩
  obtain ⟨D, hD⟩ : ∃ D, c.H / n = D := ⟨_, rfl⟩
  rw [hD] at hd hdl
  rw [hR]
  refine told_of_ev (fn := ref17_Lowest_fn) tabOk mixed (by kernel_rfl) (by kernel_rfl) (by kernel_rfl) (by kernel_rfl) ?_
  (refine gw ?_; refine LoopN.mk ⟨[1,2,3,8], fun vs L => ∃ k : Nat, vs = [lK l, i64 n, .ptr 0 0 0, i64 (k * n : Nat)] ∧ L = [.var (eC c)] ∧ k ≤ D ∧ R = lowGo l n (D - k) k, fun vs L => match vs with | [_, _, _, .int _ i] => c.H + n - i.toNat | _ => 0, [], [0], rfl, ⟨0, by rw [Nat.zero_mul]; rfl, rfl, by omega, by rw [← hR, ← hD]; rfl⟩, ?_⟩)
  rintro vs L ⟨k, rfl, rfl, hk, he⟩
  have hkn : k * n ≤ D * n := Nat.mul_le_mul_right _ hk
  have hsn : (k + 1) * n = k * n + n := by rw [Nat.succ_mul]
  have hlt : k * n + n ≤ c.H → k < D := fun h => by
    rcases Nat.lt_or_ge k D with h' | h'
    · exact h'
    · have : D * n ≤ k * n := Nat.mul_le_mul_right _ h'
      rw [Nat.mul_comm n D] at hdl
      omega
  have hge : k < D → k * n + n ≤ c.H := fun h => by
    have : (k + 1) * n ≤ D * n := Nat.mul_le_mul_right _ h
    omega
  obtain ⟨y, hy⟩ : ∃ y, k * n = y := ⟨_, rfl⟩
  rw [hy] at hkn hsn hlt hge ⊢
  (refine gw ?_; first | refine IfB.dec (fun h1 => ?_) (fun h1 => ?_) | refine IfB.eq (fun h1 => ?_) (fun h1 => ?_) | refine IfB.ne (fun h1 => ?_) (fun h1 => ?_) | refine IfB.mk (fun h1 => ?_) (fun h1 => ?_))
  · have hkD := hlt (by omega)
    have e1 : D - k = (D - (k + 1)) + 1 := by omega
    rw [e1, lowGo, hy] at he
    (refine gw ?_; refine LoopN.mk ⟨[1,2,3,8,9,10], fun vs L => ∃ j : Nat, vs = [lK l, i64 n, .ptr 0 0 0, i64 y, .bool ((l.take j).all fun b => !ovr y n b.a b.c), i64 j] ∧ L = [.var (eC c)] ∧ j ≤ l.length, fun vs L => match vs with | [_, _, _, _, _, .int _ i] => l.length - i.toNat | _ => 0, [], [0], rfl, ⟨0, rfl, rfl, by omega⟩, ?_⟩)
    rintro vs L ⟨j, rfl, rfl, hj⟩
    have fin : ∀ v, freeAt l n (y : Nat) = v → True := fun _ _ => trivial
    (refine gw ?_; first | refine IfB.dec (fun g1 => ?_) (fun g1 => ?_) | refine IfB.eq (fun g1 => ?_) (fun g1 => ?_) | refine IfB.ne (fun g1 => ?_) (fun g1 => ?_) | refine IfB.mk (fun g1 => ?_) (fun g1 => ?_))
    · have hjl : j < l.length := by omega
      have hs := allB_succ (p := fun b => !ovr y n b.a b.c) hjl
      cases g2 : (l.take j).all (fun b => !ovr y n b.a b.c) with
      | true =>
        rw [g2, Bool.true_and] at hs
        have hb := ha.b _ (List.getElem_mem hjl)
        (refine gw ?_; refine idx_map (hjl) ?_)
        (refine gw ?_; refine idx_map (hjl) ?_)
        (refine gw ?_; refine Choice.mk ⟨false, Choice.mk ⟨true, _, _, ovr_told y n l[j].a l[j].c (by omega), ?_⟩⟩)
        (refine gw ?_; refine ⟨[], [0], rfl, ⟨j + 1, by rw [hs]; rfl, rfl, hjl⟩, (by omega : l.length - ((j : Int) + 1).toNat < l.length - (j : Int).toNat)⟩)
      | false =>
        have hf : freeAt l n (y : Nat) = false := by
          unfold freeAt
          have : l.all (fun b => !ovr y n b.a b.c) = ((l.take j).all (fun b => !ovr y n b.a b.c) && (l.drop j).all (fun b => !ovr y n b.a b.c)) := by
            rw [← List.all_append, List.take_append_drop]
          rw [this, g2]; rfl
        rw [hf, if_neg (by simp)] at he
        (refine gw ?_; refine ⟨[], [0], rfl, ⟨k + 1, by rw [hsn]; rfl, rfl, hkD, he⟩, (by omega : c.H + n - ((y : Int) + (n : Int)).toNat < c.H + n - (y : Int).toNat)⟩)
    · have e : j = l.length := by omega
      subst e
      rw [List.take_length]
      cases g2 : freeAt l n (y : Nat) with
      | true =>
        rw [g2, if_pos rfl] at he
        rw [show (l.all fun b => !ovr y n b.a b.c) = true from g2, he]
        (refine gw ?_; exact RetN.mk ⟨[], rfl, rfl, rfl⟩)
      | false =>
        rw [g2, if_neg (by simp)] at he
        rw [show (l.all fun b => !ovr y n b.a b.c) = false from g2]
        (refine gw ?_; refine ⟨[], [0], rfl, ⟨k + 1, by rw [hsn]; rfl, rfl, hkD, he⟩, (by omega : c.H + n - ((y : Int) + (n : Int)).toNat < c.H + n - (y : Int).toNat)⟩)
  · have hkD : k = D := by
      rcases Nat.lt_or_ge k D with h' | h'
      · have := hge h'; omega
      · omega
    rw [hkD, Nat.sub_self, lowGo] at he
    rw [he]
    (refine gw ?_; exact RetN.mk ⟨[], rfl, rfl, rfl⟩)
end Go.Ev.W
