/- Words and lemmas, part 5, for laws of this seat (a part of their proofs). -/
import Derived.Test.YtbhjocgepgpnmaaP1
import Derived.Test.YtbhjocgepgpnmaaP4
import Derived.Test.YtbhjocgepgpnmaaNm
import Derived.Test.YtbhjocgepgpnmaaEvOpen
import Derived.Test.YtbhjocgepgpnmaaEvLib
import Derived.Test.YtbhjocgepgpnmaaEvGrid
import Derived.Test.YtbhjocgepgpnmaaEvTrim
set_option linter.unusedVariables false
set_option linter.unusedSimpArgs false
namespace Go.Ev.W
open Go.Ev Go.Ev.N

def sNw (g c : Int) : List AV := if SlOkI g c then tL g.toNat c.toNat offB else []
theorem sNw_told {g c : Int} (hg : -9223372036854775808 ≤ g ∧ g ≤ 9223372036854775807) (hc : -9223372036854775808 ≤ c ∧ c ≤ 9223372036854775807) : Told P T slots_New [] [i64 g, i64 c] (.agg [.lst t_api_Tree (sNw g c)]) [] := by
  unfold sNw
  by_cases h : SlOkI g c
  · rw [if_pos h]
    obtain ⟨n, rfl⟩ : ∃ n : Nat, g = n := ⟨g.toNat, by have := h.2.2.1; omega⟩
    obtain ⟨k, rfl⟩ : ∃ k : Nat, c = k := ⟨c.toNat, by have := h.1; omega⟩
    exact slNew_told h.ok
  · rw [if_neg h]
    exact slNewNo_told h hg hc
theorem sNw_len (g c : Int) : (sNw g c).length = if SlOkI g c then c.toNat else 0 := by
  unfold sNw
  split
  · rw [tL_len]
  · rfl
/-- May there be such an engine? -/
def NwOk (G g c : Int) : Prop := (1 ≤ G ∧ G ≤ 65536 ∧ G.toNat = 2 ^ Nat.log2 G.toNat) ∧ SlOkI g c ∧ g ≤ ((65536 / G.toNat : Nat) : Int)
instance (G g c : Int) : Decidable (NwOk G g c) := by unfold NwOk; infer_instance
def nwE (G g c : Int) : AV := if NwOk G g c then eE G.toNat g.toNat c.toNat offB [] else eN
theorem and_pred {n : Nat} (h : 1 ≤ n) (h2 : n ≤ 65536) : bitsOp .and .i64 (n : Int) ((n : Int) - 1) = ((n &&& (n - 1) : Nat) : Int) := by
  rw [show ((n : Nat) : Int) - 1 = ((n - 1 : Nat) : Int) by omega]
  exact and64i (by omega) (by omega)
set_option maxHeartbeats 1000000 in
theorem plNew_told (G g c : Int) (hG : -9223372036854775808 ≤ G ∧ G ≤ 9223372036854775807) (hg : -9223372036854775808 ≤ g ∧ g ≤ 9223372036854775807) (hc : -9223372036854775808 ≤ c ∧ c ≤ 9223372036854775807) : Told P T place_New [] [i64 G, i64 g, i64 c] (.tup [nwE G g c, .bool (decide (NwOk G g c))]) [] := by
  have no : ¬ NwOk G g c → (nwE G g c = eN ∧ decide (NwOk G g c) = false) := fun h => ⟨by unfold nwE; rw [if_neg h], decide_eq_false h⟩
  by_cases h1 : G < 1
  · obtain ⟨e1, e2⟩ := no fun h => by have := h.1.1; omega
    rw [e1, e2]
    refine told_of_ev (fn := place_New_fn) tabOk mixed (by kernel_rfl) (by kernel_rfl) (by kernel_rfl) (by kernel_rfl) ?_
    (refine gw ?_; refine IfB.tt (by simp; omega) ?_)
    (refine gw ?_)
    exact RetN.fz ⟨[true], [], rfl, rfl, rfl⟩
  · by_cases h2 : G > 65536
    · obtain ⟨e1, e2⟩ := no fun h => by have := h.1.2.1; omega
      rw [e1, e2]
      refine told_of_ev (fn := place_New_fn) tabOk mixed (by kernel_rfl) (by kernel_rfl) (by kernel_rfl) (by kernel_rfl) ?_
      (refine gw ?_; refine IfB.ff (by simp; omega) ?_)
      (refine gw ?_; refine IfB.tt (by simp; omega) ?_)
      (refine gw ?_)
      exact RetN.fz ⟨[true], [], rfl, rfl, rfl⟩
    · obtain ⟨n, rfl⟩ : ∃ n : Nat, G = n := ⟨G.toNat, by omega⟩
      have hand := and_pred (n := n) (by omega) (by omega)
      have hbit := pow2_bit (n := n) (by omega)
      have c1 := sNw_told hg hc
      have hl := sNw_len g c
      have hdv : (65536 : Int).tdiv (n : Int) = ((65536 / n : Nat) : Int) := (Int.ofNat_tdiv 65536 n).symm
      have hne : ((n : Nat) : Int) ≠ 0 := by omega
      by_cases h3 : n = 2 ^ Nat.log2 n
      · rw [hbit.2 h3] at hand
        by_cases h4 : SlOkI g c
        · rw [if_pos h4] at hl
          have hd2 : 65536 / n ≤ 65536 := Nat.div_le_self _ _
          by_cases h5 : g ≤ ((65536 / n : Nat) : Int)
          · have hok : NwOk n g c := ⟨⟨by omega, by omega, h3⟩, h4, h5⟩
            have e1 : nwE n g c = .agg [i64 n, .lst t_api_Tree (sNw g c), .lst t_api_Mark []] := by unfold nwE sNw; rw [if_pos hok, if_pos h4]; rfl
            rw [e1, decide_eq_true hok]
            have h41 := h4.1
            generalize 65536 / n = q at *
            refine told_of_ev (fn := place_New_fn) tabOk mixed (by kernel_rfl) (by kernel_rfl) (by kernel_rfl) (by kernel_rfl) ?_
            (refine gw ?_; refine IfB.ff (by simp; omega) ?_)
            (refine gw ?_; refine IfB.ff (by simp; omega) ?_)
            (refine gw ?_)
            rw [hand]
            (refine gw ?_; refine Choice.mk ⟨false, Choice.mk ⟨false, _, _, c1, ?_⟩⟩)
            (refine gw ?_)
            rw [hl]
            (refine gw ?_; refine IfB.ff (by simp; omega) ?_)
            (refine gw ?_)
            rw [hdv]
            (refine gw ?_; refine IfB.ff (by simp; omega) ?_)
            (refine gw ?_)
            exact RetN.fz ⟨[true], [], rfl, rfl, rfl⟩
          · obtain ⟨e1, e2⟩ := no fun h => h5 h.2.2
            rw [e1, e2]
            have h41 := h4.1
            generalize 65536 / n = q at *
            refine told_of_ev (fn := place_New_fn) tabOk mixed (by kernel_rfl) (by kernel_rfl) (by kernel_rfl) (by kernel_rfl) ?_
            (refine gw ?_; refine IfB.ff (by simp; omega) ?_)
            (refine gw ?_; refine IfB.ff (by simp; omega) ?_)
            (refine gw ?_)
            rw [hand]
            (refine gw ?_; refine Choice.mk ⟨false, Choice.mk ⟨false, _, _, c1, ?_⟩⟩)
            (refine gw ?_)
            rw [hl]
            (refine gw ?_; refine IfB.ff (by simp; omega) ?_)
            (refine gw ?_)
            rw [hdv]
            (refine gw ?_; refine IfB.tt (by simp; omega) ?_)
            (refine gw ?_)
            exact RetN.fz ⟨[true], [], rfl, rfl, rfl⟩
        · rw [if_neg h4] at hl
          obtain ⟨e1, e2⟩ := no fun h => h4 h.2.1
          rw [e1, e2]
          refine told_of_ev (fn := place_New_fn) tabOk mixed (by kernel_rfl) (by kernel_rfl) (by kernel_rfl) (by kernel_rfl) ?_
          (refine gw ?_; refine IfB.ff (by simp; omega) ?_)
          (refine gw ?_; refine IfB.ff (by simp; omega) ?_)
          (refine gw ?_)
          rw [hand]
          (refine gw ?_; refine Choice.mk ⟨false, Choice.mk ⟨false, _, _, c1, ?_⟩⟩)
          (refine gw ?_)
          rw [hl]
          (refine gw ?_)
          exact RetN.fz ⟨[true], [], rfl, rfl, rfl⟩
      · have hr : n &&& (n - 1) ≠ 0 := fun e => h3 (hbit.1 e)
        obtain ⟨e1, e2⟩ := no fun h => h3 h.1.2.2
        rw [e1, e2]
        generalize n &&& (n - 1) = r at *
        refine told_of_ev (fn := place_New_fn) tabOk mixed (by kernel_rfl) (by kernel_rfl) (by kernel_rfl) (by kernel_rfl) ?_
        (refine gw ?_; refine IfB.ff (by simp; omega) ?_)
        (refine gw ?_; refine IfB.ff (by simp; omega) ?_)
        (refine gw ?_)
        rw [hand]
        (refine gw ?_; refine IfB.tt (by simp; omega) ?_)
        (refine gw ?_)
        exact RetN.fz ⟨[true], [], rfl, rfl, rfl⟩
end Go.Ev.W
namespace Go.Ev.W
open Go.Ev Go.Ev.N

/-- Numbers and bools of a row, by place. -/
def tabF (n : Nat) (f : Nat → AV) : List AV := (List.range n).map f
theorem tabF_len (n : Nat) (f : Nat → AV) : (tabF n f).length = n := by simp [tabF]
theorem tabF_get {n : Nat} {f : Nat → AV} {k : Nat} (h : k < n) : (tabF n f)[k]? = some (f k) := by simp [tabF, h]
theorem tabF_congr {n : Nat} {f g : Nat → AV} (h : ∀ k, k < n → f k = g k) : tabF n f = tabF n g := List.map_congr_left fun k hk => h k (by simpa using hk)
theorem tabF_set {n : Nat} {f g : Nat → AV} {k : Nat} {v : AV} (h : k < n) (hg : ∀ j, j < n → g j = if j = k then v else f j) : (tabF n f).set k v = tabF n g := by
  apply List.ext_getElem?
  intro j
  rw [List.getElem?_set]
  by_cases hj : j < n
  · rw [tabF_get hj, tabF_get hj, hg j hj]
    by_cases e : k = j
    · subst e; simp [tabF_len, h]
    · simp [e, Ne.symm e]
  · rw [List.getElem?_eq_none (by rw [tabF_len]; omega), List.getElem?_eq_none (by rw [tabF_len]; omega)]
    rw [if_neg (by omega)]
theorem tabF_map {α : Type} (l : List α) (enc : α → AV) (d : α) : l.map enc = tabF l.length fun k => enc (l.getD k d) := by
  apply List.ext_getElem?
  intro j
  by_cases hj : j < l.length
  · rw [tabF_get hj]; simp [hj, List.getD_eq_getElem?_getD]
  · rw [List.getElem?_eq_none (by simp; omega), List.getElem?_eq_none (by rw [tabF_len]; omega)]
theorem tabF_of {α : Type} (n : Nat) (f : Nat → α) (enc : α → AV) : (tabF n fun k => enc (f k)) = ((List.range n).map f).map enc := by simp [tabF]

/-- How much is charged for so much, at a multiple of so much; why not. -/
def chargeF (c : Cf) (s a : Int) : Nat × Nat :=
  if (logF a).2 = false ∨ a > c.N then (0, 3) else if s < 0 ∨ s > c.N then (0, 4) else (upN (max (max s.toNat a.toNat) c.G), 0)
def prodF (c : Cf) (n s : Int) : Nat × Nat :=
  if n < 0 ∨ s < 0 then (0, 2) else if n * s ≤ c.N then ((n * s).toNat, 0) else (0, 4)
def newF (c : Cf) (live s a : Int) : Nat × Nat :=
  if (chargeF c s a).2 ≠ 0 then (0, (chargeF c s a).2) else if live > (c.M : Int) - (chargeF c s a).1 then (0, 5) else ((chargeF c s a).1, 0)
def manyF (c : Cf) (live n s : Int) : Nat × Nat :=
  if (prodF c n s).2 ≠ 0 then (0, (prodF c n s).2) else newF c live (prodF c n s).1 1

/-- A block: where, how much is charged, how much was asked for. -/
structure Bk where
  a : Int
  c : Int
  q : Int
  deriving DecidableEq
def eB (b : Bk) : AV := .agg [i64 b.a, i64 b.c, i64 b.q]
/-- All that there is. -/
structure Mo where
  c : Cf
  bs : List Bk
  live : Int
  peak : Int
  mark : Int
  on : List Bool
  mem : List Nat
  deriving DecidableEq
def lT (l : List Bool) : AV := .lst t_bool (l.map .bool)
/-- What a call is told. -/
structure An where
  e : Nat
  at' : Int
  n : Int
  b : Nat
  live : Int
  peak : Int
  mark : Int
  pg : Int
  deriving DecidableEq
def eA (x : An) : AV := .agg [i64 x.e, i64 x.at', i64 x.n, .int .u8 (x.b : Int), i64 x.live, i64 x.peak, i64 x.mark, i64 x.pg]
def an0 : An := ⟨0, 0, 0, 0, 0, 0, 0, 0⟩
def anE (e : Nat) : An := ⟨e, 0, 0, 0, 0, 0, 0, 0⟩

def ovr (a n b m : Int) : Bool := decide (a < b + m ∧ b < a + n)
def freeAt (l : List Bk) (n y : Int) : Bool := l.all fun b => !ovr y n b.a b.c
/-- The lowest place of so much. -/
def lowGo (l : List Bk) (n : Nat) : Nat → Nat → Nat × Bool
  | 0, _ => (0, false)
  | f + 1, k => if freeAt l n (k * n : Nat) = true then (k * n, true) else lowGo l n f (k + 1)
def lowF (c : Cf) (l : List Bk) (n : Nat) : Nat × Bool := lowGo l n (c.H / n) 0
def lowB (y : Int) : List Bk → Nat
  | [] => 0
  | x :: l => if x.a ≤ y then lowB y l + 1 else 0
def putB (l : List Bk) (b : Bk) : List Bk := l.take (lowB b.a l) ++ b :: l.drop (lowB b.a l)
def metF (pg size : Nat) (l : List Bk) : List Bool := (List.range (size / pg)).map fun i => l.any fun b => ovr (i * pg : Nat) pg b.a b.c
def cntB (l : List Bool) : Nat := (l.filter id).length
/-- Which pages are there then, which are fresh; none: too many. -/
def commitF (on met : List Bool) (first behind : Nat) (most : Nat) : List Bool × List Nat × Bool :=
  let these := fun i => decide (first ≤ i ∧ i < behind)
  let need := (List.range on.length).map fun i => met.getD i false || these i
  let all := (List.range on.length).map fun i => on.getD i false || these i
  let fresh := (List.range on.length).filter fun i => these i && !on.getD i false
  if cntB need > most then ([], [], false)
  else (if cntB all > most then (List.range on.length).map fun i => all.getD i false && need.getD i false else all, fresh, true)
def trimF (on met : List Bool) : List Bool × Nat :=
  ((List.range on.length).map fun i => on.getD i false && met.getD i false, ((List.range on.length).filter fun i => on.getD i false && !met.getD i false).length)
def byteF (seed page i : Nat) : Nat := (seed % 256 + 31 * (page % 256) + 7 * (i % 256) + 1) % 256
def fillF (mem : List Nat) (seed page size : Nat) : List Nat := (List.range mem.length).map fun i => if i / size = page then byteF seed page (i % size) else mem.getD i 0
def totalB (l : List Bk) : Int := (l.map (·.c)).sum
def placeF (m : Mo) (l : List Bk) (n : Nat) (q : Int) : Mo × Int × Nat :=
  let lo := lowF m.c l n
  if lo.2 = false then (m, 0, 7)
  else
    let co := commitF m.on (metF m.c.Pg m.c.H l) (lo.1 / m.c.Pg) ((lo.1 + n - 1) / m.c.Pg + 1) m.c.P
    if co.2.2 = false then (m, 0, 6)
    else
      let bs := putB l ⟨lo.1, n, q⟩
      ({ m with bs := bs, live := totalB bs, peak := max m.peak (totalB bs), mark := max m.mark (lo.1 + n), on := co.1, mem := co.2.1.foldl (fun mem p => fillF mem m.c.Sd p m.c.Pg) m.mem }, lo.1, 0)
def newM (r : Rw) : Mo × Nat :=
  if (ofF r).2 ≠ 0 then (⟨cf0, [], 0, 0, 0, [], []⟩, (ofF r).2) else (⟨(ofF r).1, [], 0, 0, 0, List.replicate ((ofF r).1.H / (ofF r).1.Pg) false, List.replicate (ofF r).1.H 0⟩, 0)
end Go.Ev.W
namespace Go.Ev.W
open Go.Ev Go.Ev.N

/-- Blocks that lie apart, rising, within so much. -/
structure ApB (H : Nat) (l : List Bk) : Prop where
  p : l.Pairwise fun x y => x.a + x.c ≤ y.a
  b : ∀ x ∈ l, 0 ≤ x.a ∧ 1 ≤ x.c ∧ x.a + x.c ≤ H
theorem ApB.nil (H : Nat) : ApB H [] := ⟨List.Pairwise.nil, by simp⟩
theorem ApB.sub {H : Nat} {l m : List Bk} (h : ApB H l) (hs : m.Sublist l) : ApB H m := ⟨h.p.sublist hs, fun x hx => h.b x (hs.subset hx)⟩
/-- Those ahead of a place, and those behind it. -/
theorem put_split {H : Nat} : ∀ {l : List Bk}, ApB H l → ∀ y : Int, ∃ l1 l2, l = l1 ++ l2 ∧ lowB y l = l1.length ∧ (∀ x ∈ l1, x.a ≤ y) ∧ ∀ x ∈ l2, y < x.a
  | [], _, _ => ⟨[], [], rfl, rfl, by simp, by simp⟩
  | x :: l, h, y => by
    have hl : ApB H l := h.sub (List.sublist_cons_self _ _)
    by_cases hx : x.a ≤ y
    · obtain ⟨l1, l2, rfl, e, h1, h2⟩ := put_split hl y
      exact ⟨x :: l1, l2, rfl, by simp [lowB, hx, e], by simpa [hx] using h1, h2⟩
    · refine ⟨[], x :: l, rfl, by simp [lowB, hx], by simp, fun z hz => ?_⟩
      have := h.b x (by simp)
      rcases List.mem_cons.1 hz with rfl | hz
      · omega
      · have := (List.pairwise_cons.1 h.p).1 z hz; omega
theorem freeAt_iff {l : List Bk} {n y : Int} : freeAt l n y = true ↔ ∀ x ∈ l, ¬ (y < x.a + x.c ∧ x.a < y + n) := by
  simp only [freeAt, List.all_eq_true, Bool.not_eq_true', ovr, decide_eq_false_iff_not]
theorem putB_ok {H : Nat} {l : List Bk} (h : ApB H l) {b : Bk} (hf : freeAt l b.c b.a = true) (hb : 0 ≤ b.a ∧ 1 ≤ b.c ∧ b.a + b.c ≤ H) :
    ApB H (putB l b) ∧ (∀ x, x ∈ putB l b ↔ x = b ∨ x ∈ l) ∧ totalB (putB l b) = totalB l + b.c ∧ (putB l b).length = l.length + 1 := by
  obtain ⟨l1, l2, e, e1, h1, h2⟩ := put_split h b.a
  have e3 : putB l b = l1 ++ b :: l2 := by unfold putB; rw [e1, e, List.take_left, List.drop_left]
  rw [freeAt_iff] at hf
  have hp := h.p
  have hbb := h.b
  rw [e] at hp hbb hf
  rw [List.pairwise_append] at hp
  have g1 : ∀ x ∈ l1, x.a + x.c ≤ b.a := fun x hx => by have := hf x (by simp [hx]); have := h1 x hx; omega
  have g2 : ∀ x ∈ l2, b.a + b.c ≤ x.a := fun x hx => by have := hf x (by simp [hx]); have := h2 x hx; have := hbb x (by simp [hx]); omega
  rw [e3, e]
  refine ⟨⟨?_, fun x hx => ?_⟩, fun x => ?_, ?_, by simp; omega⟩
  · rw [List.pairwise_append, List.pairwise_cons]
    refine ⟨hp.1, ⟨g2, hp.2.1⟩, fun x hx y hy => ?_⟩
    rcases List.mem_cons.1 hy with rfl | hy
    · exact g1 x hx
    · exact hp.2.2 x hx y hy
  · simp only [List.mem_append, List.mem_cons] at hx
    rcases hx with hx | rfl | hx
    · exact hbb x (by simp [hx])
    · exact hb
    · exact hbb x (by simp [hx])
  · simp only [List.mem_append, List.mem_cons]
    constructor
    · rintro (h | h | h)
      · exact .inr (.inl h)
      · exact .inl h
      · exact .inr (.inr h)
    · rintro (h | h | h)
      · exact .inr (.inl h)
      · exact .inl h
      · exact .inr (.inr h)
  · simp only [totalB, List.map_append, List.sum_append, List.map_cons, List.sum_cons]; omega
theorem totalB_nonneg {H : Nat} {l : List Bk} (h : ApB H l) : (l.length : Int) ≤ totalB l := by
  have hb := h.b
  clear h
  induction l with
  | nil => simp [totalB]
  | cons x l ih =>
    have := ih fun y hy => hb y (by simp [hy])
    have := hb x (by simp)
    have e : totalB (x :: l) = x.c + totalB l := by simp only [totalB, List.map_cons, List.sum_cons]
    rw [e, List.length_cons]; omega
theorem lowGo_spec {l : List Bk} {n : Nat} : ∀ (f k : Nat), (lowGo l n f k).2 = true → ∃ j, k ≤ j ∧ j < k + f ∧ (lowGo l n f k).1 = j * n ∧ freeAt l n ((j * n : Nat) : Int) = true ∧ ∀ i, k ≤ i → i < j → freeAt l n ((i * n : Nat) : Int) = false
  | 0, k, h => by simp [lowGo] at h
  | f + 1, k, h => by
    unfold lowGo at h ⊢
    split at h
    · rename_i hf
      rw [if_pos hf]
      exact ⟨k, Nat.le_refl _, by omega, rfl, hf, fun i _ _ => by omega⟩
    · rename_i hf
      rw [if_neg hf]
      obtain ⟨j, h1, h2, h3, h4, h5⟩ := lowGo_spec f (k + 1) h
      refine ⟨j, by omega, by omega, h3, h4, fun i hi hj => ?_⟩
      rcases Nat.lt_or_ge k i with h' | h'
      · exact h5 i h' hj
      · have : i = k := by omega
        subst this; simpa using hf
theorem lowF_spec {c : Cf} {l : List Bk} {n : Nat} (hn : 1 ≤ n) (h : (lowF c l n).2 = true) : ∃ j, (lowF c l n).1 = j * n ∧ j * n + n ≤ c.H ∧ freeAt l n ((lowF c l n).1 : Nat) = true ∧ ∀ i, i < j → freeAt l n ((i * n : Nat) : Int) = false := by
  obtain ⟨j, _, h2, h3, h4, h5⟩ := lowGo_spec (c.H / n) 0 h
  refine ⟨j, h3, ?_, by unfold lowF; rw [h3]; exact h4, fun i hi => h5 i (Nat.zero_le _) hi⟩
  have : (j + 1) * n ≤ c.H / n * n := Nat.mul_le_mul_right _ (by omega)
  have := Nat.div_mul_le_self c.H n
  rw [Nat.succ_mul] at *
  omega
/-- What holds of all that there is. -/
structure MoOk (m : Mo) : Prop where
  c : m.c.Ok
  a : ApB m.c.H m.bs
  z : ∀ x ∈ m.bs, ∃ k, k ≤ m.c.L ∧ x.c = ((m.c.G * 2 ^ k : Nat) : Int) ∧ x.a % x.c = 0 ∧ 0 ≤ x.q ∧ x.q ≤ x.c
  l : m.live = totalB m.bs
  lM : m.live ≤ m.c.M
  p : m.live ≤ m.peak ∧ m.peak ≤ m.c.M
  k : (∀ x ∈ m.bs, x.a + x.c ≤ m.mark) ∧ 0 ≤ m.mark ∧ m.mark ≤ m.c.H
  o : m.on.length = m.c.H / m.c.Pg
  on : cntB m.on ≤ m.c.P
  mm : m.mem.length = m.c.H
  b : IsB m.mem
end Go.Ev.W
namespace Go.Ev.W
open Go.Ev Go.Ev.N

theorem tdiv_rng {w s : Int} (h1 : -9223372036854775808 ≤ w) (h2 : w ≤ 9223372036854775807) (hs : 1 ≤ s) : -9223372036854775808 ≤ w.tdiv s ∧ w.tdiv s ≤ 9223372036854775807 := by
  rcases Int.lt_or_le w 0 with h | h
  · obtain ⟨y, rfl⟩ : ∃ y, w = -y := ⟨-w, by omega⟩
    rw [Int.neg_tdiv, Int.tdiv_eq_ediv_of_nonneg (show 0 ≤ y by omega)]
    have a := Int.ediv_nonneg (show 0 ≤ y by omega) (show 0 ≤ s by omega)
    have b := Int.ediv_le_self s (show 0 ≤ y by omega)
    omega
  · rw [Int.tdiv_eq_ediv_of_nonneg h]
    have a := Int.ediv_nonneg h (show 0 ≤ s by omega)
    have b := Int.ediv_le_self s h
    omega
theorem mul_over {n s : Int} (hn : 0 ≤ n) (hs : 1 ≤ s ∧ s ≤ 9223372036854775807) (h : 9223372036854775808 ≤ n * s) : (IntKind.i64.wrap (n * s)).tdiv s ≠ n := by
  intro e
  have h1 := Int.mul_tdiv_add_tmod (IntKind.i64.wrap (n * s)) s
  rw [e] at h1
  have h2 := Int.tmod_lt_of_pos (IntKind.i64.wrap (n * s)) (show (0 : Int) < s by omega)
  have h3 := Int.lt_tmod_of_pos (IntKind.i64.wrap (n * s)) (show (0 : Int) < s by omega)
  rw [Int.mul_comm s n] at h1
  generalize (IntKind.i64.wrap (n * s)).tmod s = d at *
  rw [IntKind.wrap_i64] at h1
  generalize n * s = p at *
  omega
theorem chargeF_bd {c : Cf} (hc : c.Ok) (s a : Int) : (chargeF c s a).1 ≤ 65536 ∧ ((chargeF c s a).2 = 0 → ∃ k, k ≤ c.L ∧ (chargeF c s a).1 = c.G * 2 ^ k ∧ 0 ≤ s ∧ s ≤ (chargeF c s a).1) := by
  unfold chargeF
  split
  · simp
  · split
    · simp
    · rename_i h1 h2
      simp only [not_or] at h1 h2
      have ha : a ≤ c.N := by omega
      have hN := hc.n
      obtain ⟨g, hg⟩ := hc.g
      have hpN : c.N = 2 ^ (g + c.L) := by rw [hN, hg, Nat.pow_add]
      have hle : upN (max (max s.toNat a.toNat) c.G) ≤ 2 ^ (g + c.L) := by
        refine upN_le ?_
        rw [← hpN]
        have hgN : c.G ≤ c.N := by rw [hN]; exact Nat.le_mul_of_pos_right _ (Nat.two_pow_pos _)
        omega
      have hb := hc.nM
      have hb2 := hc.mH
      refine ⟨by rw [← hpN] at hle; omega, fun _ => ?_⟩
      obtain ⟨e, he⟩ := pow_up (v := max s.toNat a.toNat) hc.g
      refine ⟨e, ?_, he, by omega, ?_⟩
      · rw [he, hg, ← Nat.pow_add] at hle
        have := (Nat.pow_le_pow_iff_right (a := 2) (by omega)).1 hle
        omega
      · have := le_upN (max (max s.toNat a.toNat) c.G)
        show s ≤ ((upN _ : Nat) : Int)
        omega
theorem prodF_bd {c : Cf} (n s : Int) : (prodF c n s).1 ≤ c.N := by
  unfold prodF; split
  · simp
  · split
    · show (n * s).toNat ≤ _; omega
    · simp
end Go.Ev.W
namespace Go.Ev.W
open Go.Ev Go.Ev.N

def findB (l : List Bk) (y : Int) : Option Nat := l.findIdx? fun x => decide (x.a = y)
end Go.Ev.W
namespace Go.Ev.W
open Go.Ev Go.Ev.N

theorem cntB_succ {l : List Bool} {i : Nat} (h : i < l.length) : cntB (l.take (i + 1)) = cntB (l.take i) + if l[i] = true then 1 else 0 := by
  unfold cntB; rw [List.take_succ_eq_append_getElem h, List.filter_append]
  cases l[i] <;> simp
theorem cntB_le (l : List Bool) : cntB l ≤ l.length := List.length_filter_le _ _
end Go.Ev.W
namespace Go.Ev.W
open Go.Ev Go.Ev.N

theorem lT_get {l : List Bool} {i : Nat} (h : i < l.length) : l.getD i false = l[i] := by simp [List.getD_eq_getElem?_getD, h]
def isIn (f b i : Nat) : Bool := decide (f ≤ i ∧ i < b)
def needF (met : List Bool) (f b i : Nat) : Bool := met.getD i false || isIn f b i
def freshL (on : List Bool) (f b i : Nat) : List Nat := (List.range i).filter fun j => isIn f b j && !on.getD j false
theorem freshL_succ (on : List Bool) (f b i : Nat) : freshL on f b (i + 1) = freshL on f b i ++ if (isIn f b i && !on.getD i false) = true then [i] else [] := by
  unfold freshL; rw [List.range_succ, List.filter_append]; simp [List.filter_cons]
theorem freshL_len (on : List Bool) (f b i : Nat) : (freshL on f b i).length ≤ i := by
  unfold freshL
  have := List.length_filter_le (fun j => isIn f b j && !on.getD j false) (List.range i)
  simpa using this
theorem commitF_eq (on met : List Bool) (f b most : Nat) : commitF on met f b most =
    if cntB ((List.range on.length).map (needF met f b)) > most then ([], [], false)
    else (if cntB ((List.range on.length).map (needF on f b)) > most then (List.range on.length).map fun i => needF on f b i && needF met f b i else (List.range on.length).map (needF on f b), freshL on f b on.length, true) := by
  unfold commitF
  simp only
  have e1 : ((List.range on.length).map fun i => met.getD i false || decide (f ≤ i ∧ i < b)) = (List.range on.length).map (needF met f b) := rfl
  have e2 : ((List.range on.length).map fun i => on.getD i false || decide (f ≤ i ∧ i < b)) = (List.range on.length).map (needF on f b) := rfl
  rw [e1, e2]
  have e3 : ((List.range on.length).map fun i => ((List.range on.length).map (needF on f b)).getD i false && ((List.range on.length).map (needF met f b)).getD i false) = (List.range on.length).map fun i => needF on f b i && needF met f b i := by
    refine List.map_congr_left fun i hi => ?_
    have hi : i < on.length := by simpa using hi
    simp [List.getD_eq_getElem?_getD, hi]
  rw [e3]
  rfl
end Go.Ev.W
namespace Go.Ev.W
open Go.Ev Go.Ev.N

theorem totalB_le {H : Nat} : ∀ {l : List Bk} {lo : Int}, (l.Pairwise fun x y => x.a + x.c ≤ y.a) → (∀ x ∈ l, lo ≤ x.a ∧ 1 ≤ x.c ∧ x.a + x.c ≤ H) → lo ≤ H → totalB l ≤ H - lo
  | [], lo, _, _, h => by simp [totalB]; omega
  | x :: l, lo, hp, hb, h => by
    have hx := hb x (by simp)
    rw [List.pairwise_cons] at hp
    have := totalB_le (l := l) (lo := x.a + x.c) hp.2 (fun y hy => ⟨hp.1 y hy, (hb y (by simp [hy])).2⟩) hx.2.2
    have e : totalB (x :: l) = x.c + totalB l := by simp only [totalB, List.map_cons, List.sum_cons]
    rw [e]; omega
theorem ApB.tot {H : Nat} {l : List Bk} (h : ApB H l) : totalB l ≤ H := by
  have := totalB_le (lo := 0) h.p (fun x hx => ⟨(h.b x hx).1, (h.b x hx).2.1, (h.b x hx).2.2⟩) (by omega)
  omega
theorem ApB.len {H : Nat} {l : List Bk} (h : ApB H l) : l.length ≤ H := by have := h.tot; have := totalB_nonneg h; omega
theorem fillF_len (mem : List Nat) (a b c : Nat) : (fillF mem a b c).length = mem.length := by simp [fillF]
theorem fills_len (sd pg : Nat) : ∀ (fs : List Nat) (mem : List Nat), (fs.foldl (fun mem p => fillF mem sd p pg) mem).length = mem.length
  | [], _ => rfl
  | f :: fs, mem => by rw [List.foldl_cons, fills_len sd pg fs, fillF_len]

theorem Cf.Ok.pgH {c : Cf} (h : c.Ok) : ∃ k, c.H = c.Pg * k := by
  obtain ⟨e, he⟩ := h.p
  obtain ⟨q, hq⟩ := h.m
  have hd : ∃ r, max c.N c.Pg = c.Pg * r := by
    rcases Nat.le_total c.N c.Pg with h1 | h1
    · exact ⟨1, by rw [Nat.max_eq_right h1]; omega⟩
    · rw [Nat.max_eq_left h1]
      have hg := h.gpos
      have hn := h.n
      rw [hn, he] at h1 ⊢
      have h2 := Nat.le_of_mul_le_mul_left h1 (by omega)
      have h3 := (Nat.pow_le_pow_iff_right (by omega : 1 < 2)).1 h2
      exact ⟨2 ^ (c.L - e), by rw [Nat.mul_assoc, ← Nat.pow_add]; congr 2; omega⟩
  obtain ⟨r, hr⟩ := hd
  have h1 : c.M / 2 = c.Pg * r * q := by rw [hq, hr, show 2 * (c.Pg * r) * q = 2 * (c.Pg * r * q) by rw [Nat.mul_assoc 2]]; omega
  refine ⟨r * q * 2 + c.L * (r * q), ?_⟩
  rw [h.h, h1, hq, hr, Nat.mul_add]
  have e1 : 2 * (c.Pg * r) * q = c.Pg * (r * q * 2) := by simp only [Nat.mul_assoc, Nat.mul_comm, Nat.mul_left_comm]
  have e2 : c.L * (c.Pg * r * q) = c.Pg * (c.L * (r * q)) := by simp only [Nat.mul_assoc, Nat.mul_comm, Nat.mul_left_comm]
  rw [e1, e2]
theorem Cf.Ok.pgpos {c : Cf} (h : c.Ok) : 1 ≤ c.Pg := by
  obtain ⟨e, he⟩ := h.p
  have := h.gpos
  have := Nat.one_le_two_pow (n := e)
  rw [he]; exact Nat.mul_pos (by omega) (by omega)
theorem Cf.Ok.pages {c : Cf} (h : c.Ok) {y n : Nat} (hn : 1 ≤ n) (hy : y + n ≤ c.H) : y / c.Pg ≤ (y + n - 1) / c.Pg + 1 ∧ (y + n - 1) / c.Pg + 1 ≤ c.H / c.Pg := by
  have hp := h.pgpos
  obtain ⟨k, hk⟩ := h.pgH
  refine ⟨?_, ?_⟩
  · have := Nat.div_le_div_right (c := c.Pg) (show y ≤ y + n - 1 by omega); omega
  · rw [hk, Nat.mul_div_cancel_left _ (by omega)]
    refine Nat.div_lt_of_lt_mul ?_
    rw [← hk]; omega
end Go.Ev.W
namespace Go.Ev.W
open Go.Ev Go.Ev.N

def SzB (c : Cf) (x : Bk) : Prop := ∃ k, k ≤ c.L ∧ x.c = ((c.G * 2 ^ k : Nat) : Int) ∧ x.a % x.c = 0 ∧ 0 ≤ x.q ∧ x.q ≤ x.c
theorem cnt_mono {n : Nat} {f g : Nat → Bool} (h : ∀ i, f i = true → g i = true) : cntB ((List.range n).map f) ≤ cntB ((List.range n).map g) := by
  unfold cntB
  rw [List.filter_map, List.filter_map, List.length_map, List.length_map, ← List.countP_eq_length_filter, ← List.countP_eq_length_filter]
  exact List.countP_mono_left fun i _ hi => h i hi
theorem commitF_ok {on met : List Bool} {f b most : Nat} (h : (commitF on met f b most).2.2 = true) : (commitF on met f b most).1.length = on.length ∧ cntB (commitF on met f b most).1 ≤ most := by
  rw [commitF_eq] at h ⊢
  split at h
  · simp at h
  · rename_i h1
    rw [if_neg h1]
    refine ⟨?_, ?_⟩
    · simp only; split <;> simp
    · simp only
      split
      · have := cnt_mono (n := on.length) (f := fun i => needF on f b i && needF met f b i) (g := needF met f b) fun i hi => by rw [Bool.and_eq_true] at hi; exact hi.2
        omega
      · omega
theorem fillF_b {mem : List Nat} (h : IsB mem) (a b c : Nat) : IsB (fillF mem a b c) := fun x hx => by
  obtain ⟨i, hi, rfl⟩ := List.mem_map.1 hx
  split
  · exact Nat.mod_lt _ (by omega)
  · have hi : i < mem.length := by simpa using hi
    rw [List.getD_eq_getElem?_getD, List.getElem?_eq_getElem hi]
    exact h _ (List.getElem_mem hi)
theorem fills_b (sd pg : Nat) : ∀ (fs : List Nat) (mem : List Nat), IsB mem → IsB (fs.foldl (fun mem p => fillF mem sd p pg) mem)
  | [], _, h => h
  | f :: fs, mem, h => fills_b sd pg fs _ (fillF_b h _ _ _)
/-- A block has been put. -/
structure Put (m : Mo) (l : List Bk) (n : Nat) (q : Int) (m' : Mo) (y : Int) : Prop where
  ok : MoOk m'
  c : m'.c = m.c
  y0 : 0 ≤ y
  yH : y + n ≤ m.c.H
  f : freeAt l n y = true
  bs : m'.bs = putB l ⟨y, n, q⟩
  li : m'.live = totalB l + n
  ml : m'.mem.length = m.mem.length
  low : ∃ j : Nat, y = ((j * n : Nat) : Int) ∧ ∀ i, i < j → freeAt l n ((i * n : Nat) : Int) = false
theorem placeF_ok {m : Mo} (hm : MoOk m) {l : List Bk} (ha : ApB m.c.H l) (hz : ∀ x ∈ l, SzB m.c x) {n : Nat} {q : Int} (hn : ∃ k, k ≤ m.c.L ∧ n = m.c.G * 2 ^ k) (hq : 0 ≤ q ∧ q ≤ n) (ht : totalB l + n ≤ m.c.M) (hk : ∀ x ∈ l, x.a + x.c ≤ m.mark) (h : (placeF m l n q).2.2 = 0) : Put m l n q (placeF m l n q).1 (placeF m l n q).2.1 := by
  obtain ⟨k, hkL, hkn⟩ := hn
  have hn1 : 1 ≤ n := by rw [hkn]; exact Nat.mul_pos hm.c.gpos (Nat.two_pow_pos _)
  have hsp := lowF_spec (c := m.c) (l := l) hn1
  have hco := commitF_ok (on := m.on) (met := metF m.c.Pg m.c.H l) (f := (lowF m.c l n).1 / m.c.Pg) (b := ((lowF m.c l n).1 + n - 1) / m.c.Pg + 1) (most := m.c.P)
  unfold placeF at h ⊢
  simp only at h ⊢
  split at h
  · simp at h
  · rename_i h1
    rw [if_neg h1]
    split at h
    · simp at h
    · rename_i h2
      rw [if_neg h2]
      have h1' : (lowF m.c l n).2 = true := by simpa using h1
      have h2' := hco (by simpa using h2)
      obtain ⟨j, e1, e2, e3, e4⟩ := hsp h1'
      rw [← e1] at e2
      generalize (lowF m.c l n).1 = y at *
      have hput := putB_ok ha (b := ⟨y, n, q⟩) e3 (by simp; omega)
      obtain ⟨p1, p2, p3, p4⟩ := hput
      have p3 : totalB (putB l ⟨y, n, q⟩) = totalB l + n := p3
      have htb := totalB_nonneg ha
      have hMH : m.c.M ≤ m.c.H := by have := hm.c.h; omega
      refine ⟨?_, rfl, by simp, by simp; omega, e3, rfl, p3, fills_len _ _ _ _, ⟨j, by rw [← e1], e4⟩⟩
      refine ⟨hm.c, p1, fun x hx => ?_, rfl, by rw [p3]; exact ht, ⟨by simp only; omega, ?_⟩, ⟨fun x hx => ?_, ?_, ?_⟩, by rw [h2'.1]; exact hm.o, h2'.2, by rw [fills_len]; exact hm.mm, fills_b _ _ _ _ hm.b⟩
      · rcases (p2 x).1 hx with rfl | hx
        · refine ⟨k, hkL, by rw [← hkn], ?_, hq⟩
          show ((y : Nat) : Int) % ((n : Nat) : Int) = 0
          rw [e1, Int.natCast_mul]
          exact Int.mul_emod_left _ _
        · exact hz x hx
      · have := hm.p
        simp only
        rw [p3]; omega
      · rcases (p2 x).1 hx with rfl | hx
        · simp only; omega
        · have := hk x hx
          simp only; omega
      · have := hm.k; simp only; omega
      · have := hm.k; simp only; omega

theorem newF_ok {c : Cf} (hc : c.Ok) {live s a : Int} (h : (newF c live s a).2 = 0) : (∃ k, k ≤ c.L ∧ (newF c live s a).1 = c.G * 2 ^ k) ∧ 0 ≤ s ∧ s ≤ (newF c live s a).1 ∧ live + (newF c live s a).1 ≤ c.M := by
  have hb := (chargeF_bd hc s a).2
  unfold newF at h ⊢
  split at h
  · rename_i h1; exact absurd h h1
  · rename_i h1
    rw [if_neg h1]
    split at h
    · simp at h
    · rename_i h2
      rw [if_neg h2]
      obtain ⟨k, h3, h4, h5, h6⟩ := hb (by simpa using h1)
      exact ⟨⟨k, h3, h4⟩, h5, h6, by simp only; omega⟩
theorem prodF_ok {c : Cf} {n s : Int} (h : (prodF c n s).2 = 0) : 0 ≤ n ∧ 0 ≤ s ∧ n * s ≤ c.N ∧ ((prodF c n s).1 : Int) = n * s := by
  unfold prodF at h ⊢
  split at h
  · simp at h
  · rename_i h1
    rw [if_neg h1]
    split at h
    · rename_i h2
      rw [if_pos h2]
      have := Int.mul_nonneg (show 0 ≤ n by omega) (show 0 ≤ s by omega)
      exact ⟨by omega, by omega, h2, by simp only; omega⟩
    · simp at h
theorem manyF_ok {c : Cf} (hc : c.Ok) {live n s : Int} (h : (manyF c live n s).2 = 0) : (∃ k, k ≤ c.L ∧ (manyF c live n s).1 = c.G * 2 ^ k) ∧ 0 ≤ n * s ∧ n * s ≤ (manyF c live n s).1 ∧ live + (manyF c live n s).1 ≤ c.M ∧ n * s ≤ c.N := by
  unfold manyF at h ⊢
  split at h
  · rename_i h1; exact absurd h h1
  · rename_i h1
    rw [if_neg h1]
    obtain ⟨a1, a2, a3, a4⟩ := prodF_ok (by simpa using h1)
    have b := newF_ok hc h
    rw [a4] at b ⊢
    exact ⟨b.1, b.2.1, b.2.2.1, b.2.2.2, a3⟩

def zeroF (mem : List Nat) (a n : Nat) : List Nat := (List.range mem.length).map fun j => if a ≤ j ∧ j < a + n then 0 else mem.getD j 0
theorem zeroF_len (mem : List Nat) (a n : Nat) : (zeroF mem a n).length = mem.length := by simp [zeroF]
theorem zeroF_b {mem : List Nat} (h : IsB mem) (a n : Nat) : IsB (zeroF mem a n) := fun x hx => by
  obtain ⟨i, hi, rfl⟩ := List.mem_map.1 hx
  split
  · omega
  · have hi : i < mem.length := by simpa using hi
    rw [List.getD_eq_getElem?_getD, List.getElem?_eq_getElem hi]
    exact h _ (List.getElem_mem hi)
/-- An operation's words. -/
structure OpOk (o : X.O) : Prop where
  k : -9223372036854775808 ≤ o.k ∧ o.k ≤ 9223372036854775807
  p : -9223372036854775808 ≤ o.p ∧ o.p ≤ 9223372036854775807
  s : -9223372036854775808 ≤ o.s ∧ o.s ≤ 9223372036854775807
  a : -9223372036854775808 ≤ o.a ∧ o.a ≤ 9223372036854775807
  n : -9223372036854775808 ≤ o.n ∧ o.n ≤ 9223372036854775807
  b : 0 ≤ o.b ∧ o.b < 256
def giveF (m : Mo) (o : X.O) : Mo × An :=
  let ce := if o.k = 2 then manyF m.c m.live o.n o.s else newF m.c m.live o.s (if o.k = 3 then o.a else 1)
  if ce.2 ≠ 0 then (m, anE ce.2)
  else
    let p := placeF m m.bs ce.1 (if o.k = 2 then o.n * o.s else o.s)
    if p.2.2 ≠ 0 then (m, anE p.2.2)
    else (if o.k = 2 then { p.1 with mem := zeroF p.1.mem p.2.1.toNat ce.1 } else p.1, { an0 with at' := p.2.1 })
def dropB (l : List Bk) (i : Nat) : List Bk := l.take i ++ l.drop (i + 1)
def bk0 : Bk := ⟨0, 0, 0⟩
def ofB (m : Mo) (o : X.O) (i : Nat) : Mo × An :=
  let b := m.bs.getD i bk0
  if o.k = 4 then
    let ce := newF m.c (m.live - b.c) o.s 1
    if ce.2 ≠ 0 then (m, anE ce.2)
    else
      let p := placeF m (dropB m.bs i) ce.1 o.s
      if p.2.2 ≠ 0 then (m, anE p.2.2)
      else
        let n := min (ce.1 : Int) b.c
        ({ p.1 with mem := p.1.mem.take p.2.1.toNat ++ (m.mem.take (b.a + n).toNat).drop b.a.toNat ++ p.1.mem.drop (p.2.1 + n).toNat }, { an0 with at' := p.2.1 })
  else if o.k = 5 then ({ m with bs := dropB m.bs i, live := m.live - b.c }, an0)
  else if o.k = 6 then (m, { an0 with n := b.c })
  else if o.n < 0 ∨ o.n ≥ b.c then (m, anE 9)
  else if o.k = 7 then (m, { an0 with b := m.mem.getD (b.a + o.n).toNat 0 })
  else ({ m with mem := m.mem.set (b.a + o.n).toNat o.b.toNat }, an0)
def doF (m : Mo) (o : X.O) : Mo × An :=
  if o.k = 1 ∨ o.k = 3 ∨ o.k = 2 then giveF m o
  else if o.k = 9 then ({ m with on := (trimF m.on (metF m.c.Pg m.c.H m.bs)).1 }, { an0 with n := (trimF m.on (metF m.c.Pg m.c.H m.bs)).2 })
  else if o.k = 10 then (m, { an0 with live := m.live, peak := m.peak, mark := m.mark, pg := cntB m.on })
  else if o.k = 4 ∨ o.k = 5 ∨ o.k = 6 ∨ o.k = 7 ∨ o.k = 8 then
    match findB m.bs o.p with
    | none => (m, anE 8)
    | some i => ofB m o i
  else (m, anE 2)
def allF : Mo → List X.O → Mo × List An
  | m, [] => (m, [])
  | m, o :: os => ((allF (doF m o).1 os).1, (doF m o).2 :: (allF (doF m o).1 os).2)
end Go.Ev.W
namespace Go.Ev.W
open Go.Ev Go.Ev.N

theorem dropB_sub (l : List Bk) (i : Nat) : (dropB l i).Sublist l := by
  unfold dropB
  have h := List.take_append_drop i l
  conv => rhs; rw [← h]
  refine List.Sublist.append (List.Sublist.refl _) ?_
  rw [show i + 1 = i + 1 by rfl, ← List.drop_drop]
  exact List.drop_sublist _ _
theorem dropB_tot {l : List Bk} {i : Nat} (h : i < l.length) : totalB (dropB l i) = totalB l - l[i].c := by
  have e : l = l.take i ++ (l[i] :: l.drop (i + 1)) := by rw [← List.drop_eq_getElem_cons h, List.take_append_drop]
  have e2 : totalB l = totalB (l.take i ++ (l[i] :: l.drop (i + 1))) := by rw [← e]
  rw [e2]
  unfold dropB totalB
  simp only [List.map_append, List.sum_append, List.map_cons, List.sum_cons]
  omega
end Go.Ev.W
namespace Go.Ev.W
open Go.Ev Go.Ev.N

theorem findB_lt {l : List Bk} {y : Int} {i : Nat} (h : findB l y = some i) : ∃ hi : i < l.length, l[i].a = y := by
  unfold findB at h
  rw [List.findIdx?_eq_some_iff_getElem] at h
  obtain ⟨h1, h2, _⟩ := h
  exact ⟨h1, of_decide_eq_true h2⟩

theorem giveG_ok {m : Mo} (hm : MoOk m) (ce : Nat × Nat) (q : Int) (f : Mo × Int × Nat → Mo) (hf : ∀ p : Mo × Int × Nat, MoOk p.1 → p.1.c = m.c → MoOk (f p) ∧ (f p).c = m.c) (h : ce.2 = 0 → (∃ k, k ≤ m.c.L ∧ ce.1 = m.c.G * 2 ^ k) ∧ 0 ≤ q ∧ q ≤ ce.1 ∧ m.live + ce.1 ≤ m.c.M) :
    MoOk (if ce.2 ≠ 0 then (m, anE ce.2) else if (placeF m m.bs ce.1 q).2.2 ≠ 0 then (m, anE (placeF m m.bs ce.1 q).2.2) else (f (placeF m m.bs ce.1 q), { an0 with at' := (placeF m m.bs ce.1 q).2.1 })).1 ∧
    (if ce.2 ≠ 0 then (m, anE ce.2) else if (placeF m m.bs ce.1 q).2.2 ≠ 0 then (m, anE (placeF m m.bs ce.1 q).2.2) else (f (placeF m m.bs ce.1 q), { an0 with at' := (placeF m m.bs ce.1 q).2.1 })).1.c = m.c := by
  by_cases h1 : ce.2 = 0
  · rw [if_neg (by simpa using h1)]
    obtain ⟨a1, a2, a3, a4⟩ := h h1
    by_cases h2 : (placeF m m.bs ce.1 q).2.2 = 0
    · rw [if_neg (by simpa using h2)]
      have hput := placeF_ok hm hm.a hm.z a1 ⟨a2, a3⟩ (by rw [← hm.l]; exact a4) hm.k.1 h2
      exact hf _ hput.ok hput.c
    · rw [if_pos h2]; exact ⟨hm, rfl⟩
  · rw [if_pos h1]; exact ⟨hm, rfl⟩
theorem doF_ok {m : Mo} (hm : MoOk m) {o : X.O} (ho : OpOk o) : MoOk (doF m o).1 ∧ (doF m o).1.c = m.c := by
  have hkeep : MoOk m ∧ m.c = m.c := ⟨hm, rfl⟩
  have hmm := hm.mm
  have htb := totalB_nonneg hm.a
  unfold doF
  split
  · unfold giveF
    simp only
    by_cases h2 : o.k = 2
    · simp only [if_pos h2]
      refine giveG_ok hm (manyF m.c m.live o.n o.s) (o.n * o.s) (fun p => { p.1 with mem := zeroF p.1.mem p.2.1.toNat (manyF m.c m.live o.n o.s).1 }) (fun p hok hc => ⟨⟨hok.c, hok.a, hok.z, hok.l, hok.lM, hok.p, hok.k, hok.o, hok.on, ?_, zeroF_b hok.b _ _⟩, hc⟩) fun h => ?_
      · rw [zeroF_len]; exact hok.mm
      · have := manyF_ok hm.c h
        exact ⟨this.1, this.2.1, this.2.2.1, this.2.2.2.1⟩
    · simp only [if_neg h2]
      refine giveG_ok hm (newF m.c m.live o.s (if o.k = 3 then o.a else 1)) o.s (fun p => p.1) (fun p hok hc => ⟨hok, hc⟩) fun h => ?_
      have := newF_ok hm.c h
      exact ⟨this.1, this.2.1, this.2.2.1, this.2.2.2⟩
  · split
    · refine ⟨⟨hm.c, hm.a, hm.z, hm.l, hm.lM, hm.p, hm.k, ?_, ?_, hm.mm, hm.b⟩, rfl⟩
      · simp only [trimF, List.length_map, List.length_range]; exact hm.o
      · have h := hm.on
        refine Nat.le_trans ?_ h
        have e : m.on = (List.range m.on.length).map fun i => m.on.getD i false := by
          refine List.ext_getElem (by simp) fun i h1 h2 => ?_
          simp [List.getD_eq_getElem?_getD, h1]
        conv => rhs; rw [e]
        exact cnt_mono fun i hi => by rw [Bool.and_eq_true] at hi; exact hi.1
    · split
      · exact hkeep
      · split
        · split
          · exact hkeep
          · rename_i hk i hf
            obtain ⟨hi, _⟩ := findB_lt hf
            have hg : m.bs.getD i bk0 = m.bs[i] := by simp [List.getD_eq_getElem?_getD, hi]
            have hdt := dropB_tot hi
            have hds := dropB_sub m.bs i
            have hb := hm.a.b _ (List.getElem_mem hi)
            unfold ofB
            rw [hg]
            simp only
            split
            · split
              · exact hkeep
              · rename_i h1
                have h1 := Decidable.of_not_not h1
                have hn := newF_ok hm.c h1
                split
                · exact hkeep
                · rename_i h2
                  have h2 := Decidable.of_not_not h2
                  have had := hm.a.sub hds
                  have hput : Put m (dropB m.bs i) _ _ _ _ := placeF_ok hm had (fun x hx => hm.z x (hds.subset hx)) hn.1 ⟨hn.2.1, hn.2.2.1⟩ (by rw [hdt, ← hm.l]; exact hn.2.2.2) (fun x hx => hm.k.1 x (hds.subset hx)) h2
                  have hok := hput.ok
                  have hy := hput.y0
                  have hyH := hput.yH
                  have hml := hput.ml
                  generalize placeF m (dropB m.bs i) (newF m.c (m.live - m.bs[i].c) o.s 1).1 o.s = p at *
                  generalize (newF m.c (m.live - m.bs[i].c) o.s 1).1 = ch at *
                  refine ⟨⟨hok.c, hok.a, hok.z, hok.l, hok.lM, hok.p, hok.k, hok.o, hok.on, ?_, ?_⟩, hput.c⟩
                  · simp only [List.length_append, List.length_take, List.length_drop]
                    rw [hput.c]
                    omega
                  · intro x hx
                    simp only [List.mem_append] at hx
                    rcases hx with (hx | hx) | hx
                    · exact hok.b x (List.mem_of_mem_take hx)
                    · exact hm.b x (List.mem_of_mem_take (List.mem_of_mem_drop hx))
                    · exact hok.b x (List.mem_of_mem_drop hx)
            · split
              · have had := hm.a.sub hds
                have hdn := totalB_nonneg had
                have hl := hm.l
                have hlM := hm.lM
                have hp := hm.p
                refine ⟨⟨hm.c, had, fun x hx => hm.z x (hds.subset hx), by rw [hdt, ← hl], by simp only; omega, by simp only; omega, ⟨fun x hx => hm.k.1 x (hds.subset hx), hm.k.2⟩, hm.o, hm.on, hm.mm, hm.b⟩, rfl⟩
              · split
                · exact hkeep
                · split
                  · exact hkeep
                  · split
                    · exact hkeep
                    · refine ⟨⟨hm.c, hm.a, hm.z, hm.l, hm.lM, hm.p, hm.k, hm.o, hm.on, by rw [List.length_set]; exact hm.mm, fun x hx => ?_⟩, rfl⟩
                      have hob := ho.b
                      rcases List.mem_or_eq_of_mem_set hx with hx | rfl
                      · exact hm.b x hx
                      · omega
        · exact hkeep
end Go.Ev.W
namespace Go.Ev.W
open Go.Ev Go.Ev.N

theorem up_told (v : Nat) (h1 : 1 ≤ v) (h2 : v ≤ 1000000) : Told P T calc_Up [] [i64 v] (.tup [i64 (upN v : Nat), .bool true]) [] := by
  have hu := upN_lt h1
  have hsh : ∀ x : Int, x * 2 ^ min (Int.toNat 1) IntKind.i64.bits = x * 2 := fun x => by
    have : (2 : Int) ^ min (Int.toNat 1) IntKind.i64.bits = 2 := by decide
    rw [this]
  refine told_of_ev (fn := calc_Up_fn) tabOk mixed (by kernel_rfl) (by kernel_rfl) (by kernel_rfl) (by kernel_rfl) ?_
  (refine gw ?_; first | refine IfB.dec (fun h3 => ?_) (fun h3 => ?_) | refine IfB.eq (fun h3 => ?_) (fun h3 => ?_) | refine IfB.ne (fun h3 => ?_) (fun h3 => ?_) | refine IfB.mk (fun h3 => ?_) (fun h3 => ?_))
  · omega
  · (refine gw ?_; first | refine IfB.dec (fun h4 => ?_) (fun h4 => ?_) | refine IfB.eq (fun h4 => ?_) (fun h4 => ?_) | refine IfB.ne (fun h4 => ?_) (fun h4 => ?_) | refine IfB.mk (fun h4 => ?_) (fun h4 => ?_))
    · omega
    · (refine gw ?_; refine LoopN.mk ⟨[0,4], fun vs L => ∃ j : Nat, vs = [i64 v, i64 (2 ^ j : Nat)] ∧ L = [] ∧ 2 ^ j ≤ upN v, fun vs L => match vs with | [_, .int _ i] => 4000000 - i.toNat | _ => 0, [], [], rfl, ⟨0, rfl, rfl, upN_pos v⟩, ?_⟩)
      rintro vs L ⟨j, rfl, rfl, hj⟩
      obtain ⟨p, hp⟩ : ∃ p, 2 ^ j = p := ⟨_, rfl⟩
      obtain ⟨k, hk⟩ := upN_pow v
      have hle := le_upN v
      (refine gw ?_; first | refine IfB.dec (fun h5 => ?_) (fun h5 => ?_) | refine IfB.eq (fun h5 => ?_) (fun h5 => ?_) | refine IfB.ne (fun h5 => ?_) (fun h5 => ?_) | refine IfB.mk (fun h5 => ?_) (fun h5 => ?_))
      · have hd : 2 ^ j * 2 ≤ upN v := by rw [hk]; exact pow_lt_dbl (by omega)
        have e : ((2 ^ (j + 1) : Nat) : Int) = ((2 ^ j : Nat) : Int) * 2 := by rw [Nat.pow_succ]; omega
        rw [hp] at hd e ⊢
        have hpos : 1 ≤ p := by rw [← hp]; exact Nat.one_le_two_pow
        (refine gw ?_)
        rw [hsh]
        (refine gw ?_; refine ⟨[], [], rfl, ⟨j + 1, by rw [e]; rfl, rfl, by rw [Nat.pow_succ, hp]; exact hd⟩, (by omega : 4000000 - ((p : Int) * 2).toNat < 4000000 - (p : Int).toNat)⟩)
      · have e : upN v = 2 ^ j := by
          have := upN_le (v := v) (k := j) (by omega)
          omega
        rw [e]
        (refine gw ?_; exact RetN.mk ⟨[], rfl, rfl, rfl⟩)
theorem pinCount_told (l : List Bool) (hl : l.length ≤ 1000000) : Told P T pin_Count [] [lT l] (i64 (cntB l : Nat)) [] := by
  have hml : (l.map AV.bool).length = l.length := by simp
  refine told_of_ev (fn := pin_Count_fn) tabOk mixed (by kernel_rfl) (by kernel_rfl) (by kernel_rfl) (by kernel_rfl) ?_
  (refine gw ?_; refine LoopN.mk ⟨[2,5,6,7], fun vs L => ∃ i : Nat, vs = [i64 (cntB (l.take i) : Nat), lT l, i64 (l.map AV.bool).length, i64 i] ∧ L = [] ∧ i ≤ l.length, fun vs L => match vs with | [_, _, _, .int _ i] => l.length - i.toNat | _ => 0, [], [], rfl, ⟨0, rfl, rfl, by omega⟩, ?_⟩)
  rintro vs L ⟨i, rfl, rfl, hi⟩
  (refine gw ?_; first | refine IfB.dec (fun h1 => ?_) (fun h1 => ?_) | refine IfB.eq (fun h1 => ?_) (fun h1 => ?_) | refine IfB.ne (fun h1 => ?_) (fun h1 => ?_) | refine IfB.mk (fun h1 => ?_) (fun h1 => ?_))
  · have hlt : i < l.length := by omega
    have hs := cntB_succ hlt
    have hb := cntB_le (l.take i)
    rw [List.length_take] at hb
    (refine gw ?_; refine idx_map (hlt) ?_)
    cases hb : l[i] with
    | false =>
      rw [hb, if_neg (by simp)] at hs
      (refine gw ?_; refine ⟨[], [], rfl, ⟨i + 1, by rw [hs]; rfl, rfl, hlt⟩, (by omega : l.length - ((i : Int) + 1).toNat < l.length - (i : Int).toNat)⟩)
    | true =>
      rw [hb, if_pos rfl] at hs
      (refine gw ?_; refine ⟨[], [], rfl, ⟨i + 1, by rw [hs]; rfl, rfl, hlt⟩, (by omega : l.length - ((i : Int) + 1).toNat < l.length - (i : Int).toNat)⟩)
  · have : i = l.length := by omega
    subst this
    rw [List.take_length]
    (refine gw ?_; exact RetN.mk ⟨[], rfl, rfl, rfl⟩)
end Go.Ev.W
namespace Go.Ev.W
open Go.Ev Go.Ev.N

theorem junkByte_told (seed page k : Nat) : Told P T junk_Byte [] [i64 seed, i64 page, i64 k] (u8 (byteF seed page k)) [] := by
  refine told_of_ev (fn := junk_Byte_fn) tabOk mixed (by kernel_rfl) (by kernel_rfl) (by kernel_rfl) (by kernel_rfl) ?_
  (refine gw ?_)
  refine ⟨?_⟩
  (refine gw ?_)
  refine ⟨?_⟩
  (refine gw ?_)
  refine ⟨?_⟩
  (refine gw ?_)
  refine ⟨?_⟩
  (refine gw ?_)
  refine ⟨?_⟩
  (refine gw ?_)
  refine ⟨?_⟩
  (refine gw ?_)
  refine ⟨?_⟩
  (refine gw ?_)
  refine ⟨?_⟩
  (refine gw ?_; refine RetN.mk ⟨[], rfl, ?_, rfl⟩)
  unfold byteF
  simp only [IntKind.wrap_u8]
  refine congrArg (AV.int .u8) ?_
  omega
theorem pinPages_told {pg y n : Nat} (hp : 1 ≤ pg) (hn : 1 ≤ n) (hy : y + n ≤ 1000000) : Told P T pin_Pages [] [i64 pg, i64 y, i64 n] (.tup [i64 (y / pg : Nat), i64 ((y + n - 1) / pg + 1 : Nat)]) [] := by
  have e1 : ((y : Nat) : Int).tdiv (pg : Nat) = ((y / pg : Nat) : Int) := by rw [Int.tdiv_eq_ediv_of_nonneg (by omega)]; omega
  have e0 : ((y : Nat) : Int) + ((n : Nat) : Int) - 1 = ((y + n - 1 : Nat) : Int) := by omega
  have e2 : (((y + n - 1 : Nat)) : Int).tdiv (pg : Nat) = (((y + n - 1) / pg : Nat) : Int) := by rw [Int.tdiv_eq_ediv_of_nonneg (by omega)]; omega
  have d1 := Nat.div_le_self y pg
  have d2 := Nat.div_le_self (y + n - 1) pg
  generalize y / pg = q at *
  generalize (y + n - 1) / pg = r at *
  refine told_of_ev (fn := pin_Pages_fn) tabOk mixed (by kernel_rfl) (by kernel_rfl) (by kernel_rfl) (by kernel_rfl) ?_
  (refine gw ?_; refine IfB.ff (by simp; omega) ?_)
  (refine gw ?_)
  rw [e1]
  (refine gw ?_; refine IfB.ff (by simp; omega) ?_)
  (refine gw ?_; refine IfB.tt (by simp; omega) ?_)
  (refine gw ?_)
  rw [e0]
  (refine gw ?_)
  rw [e2]
  (refine gw ?_; exact RetN.mk ⟨[], rfl, rfl, rfl⟩)
end Go.Ev.W
namespace Go.Ev.W
open Go.Ev Go.Ev.N

theorem clone_bool (es : List AV) (hl : es.length ≤ 1000000) : Told P T slices_Clone_bool_bool [] [.lst t_bool es] (.ref 0) [.row t_bool es] := by
  refine told_of_ev (fn := slices_Clone_bool_bool_fn) tabOk mixed (by kernel_rfl) (by kernel_rfl) (by kernel_rfl) (by kernel_rfl) ?_
  refine AnyB.mk (fun b hb => ?_)
  refine IfB.mk (fun h1 => ?_) (fun h1 => ?_)
  · obtain rfl := hb h1
    exact RetN.mk ⟨[1], rfl, rfl, rfl⟩
  · refine Room.mk (by first | omega | (simp; omega) | (simp; done)) ?_
    exact RetN.mk ⟨[2], rfl, rfl, rfl⟩
theorem clone_byte (es : List AV) (hl : es.length ≤ 1000000) : Told P T slices_Clone_byte_byte [] [.lst t_uint8 es] (.ref 0) [.row t_uint8 es] := by
  refine told_of_ev (fn := slices_Clone_byte_byte_fn) tabOk mixed (by kernel_rfl) (by kernel_rfl) (by kernel_rfl) (by kernel_rfl) ?_
  refine AnyB.mk (fun b hb => ?_)
  refine IfB.mk (fun h1 => ?_) (fun h1 => ?_)
  · obtain rfl := hb h1
    exact RetN.mk ⟨[1], rfl, rfl, rfl⟩
  · refine Room.mk (by first | omega | (simp; omega) | (simp; done)) ?_
    exact RetN.mk ⟨[2], rfl, rfl, rfl⟩
end Go.Ev.W
namespace Go.Ev.W
open Go.Ev Go.Ev.N

set_option maxHeartbeats 4000000 in
theorem trim_told {on met : List Bool} (hN : met.length = on.length) (hl : on.length ≤ 65536) : Told P T commit_Trim [] [lT on, lT met] (.tup [lT (trimF on met).1, i64 ((trimF on met).2 : Nat)]) [] := by
  have hmo : (on.map AV.bool).length = on.length := by simp
  have hmm : (met.map AV.bool).length = met.length := by simp
  obtain ⟨D, hD⟩ : ∃ D, on.length = D := ⟨_, rfl⟩
  have c1 := clone_bool (on.map AV.bool) (by omega)
  refine told_of_ev (fn := commit_Trim_fn) tabOk mixed (by kernel_rfl) (by kernel_rfl) (by kernel_rfl) (by kernel_rfl) ?_
  (refine gw ?_; refine Choice.mk ⟨false, Choice.mk ⟨false, _, _, c1, ?_⟩⟩)
  (refine gw ?_; refine LoopN.mk ⟨[1,4,5,10,11,12], fun vs L => ∃ i : Nat, vs = [lT met, .ref 0, i64 (((List.range i).filter fun i => on.getD i false && !met.getD i false).length : Nat), lT on, i64 (on.map AV.bool).length, i64 i] ∧ L = [.row t_bool (tabF D fun j => .bool (on.getD j false && or (decide (i ≤ j)) (met.getD j false)))] ∧ i ≤ D, fun vs L => match vs with | [_, _, _, _, _, .int _ i] => D - i.toNat | _ => 0, [], [1], rfl, ⟨0, rfl, ?_, by omega⟩, ?_⟩)
  · show [Blk.row t_bool (on.map AV.bool)] = _
    rw [tabF_map on AV.bool false, hD]
    refine congrArg (fun z => [Blk.row t_bool z]) (tabF_congr fun k _ => ?_)
    rw [decide_eq_true (Nat.zero_le k)]; simp
  rintro vs L ⟨i, rfl, rfl, hi⟩
  have hset : ∀ (v : Bool), i < D → v = (on.getD i false && met.getD i false) → (tabF D fun j => AV.bool (on.getD j false && or (decide (i ≤ j)) (met.getD j false))).set ((i : Nat) : Int).toNat (.bool v) = tabF D fun j => AV.bool (on.getD j false && or (decide (i + 1 ≤ j)) (met.getD j false)) := fun v hiD hv => by
    rw [Int.toNat_natCast]
    refine tabF_set hiD fun j hj => ?_
    by_cases e : j = i
    · subst e; rw [if_pos rfl, decide_eq_false (show ¬ j + 1 ≤ j by omega), hv]; rfl
    · rw [if_neg e]
      have : decide (i + 1 ≤ j) = decide (i ≤ j) := decide_eq_decide.2 (by omega)
      rw [this]
  have hkeep : i < D → (on.getD i false = true → met.getD i false = true) → (tabF D fun j => AV.bool (on.getD j false && or (decide (i ≤ j)) (met.getD j false))) = tabF D fun j => AV.bool (on.getD j false && or (decide (i + 1 ≤ j)) (met.getD j false)) := fun hiD hv => by
    refine tabF_congr fun j hj => ?_
    by_cases e : j = i
    · subst e
      rw [decide_eq_false (show ¬ j + 1 ≤ j by omega), decide_eq_true (Nat.le_refl j)]
      cases ho : on.getD j false with
      | true => rw [hv ho]; rfl
      | false => rfl
    · have : decide (i + 1 ≤ j) = decide (i ≤ j) := decide_eq_decide.2 (by omega)
      rw [this]
  (refine gw ?_; first | refine IfB.dec (fun g1 => ?_) (fun g1 => ?_) | refine IfB.eq (fun g1 => ?_) (fun g1 => ?_) | refine IfB.ne (fun g1 => ?_) (fun g1 => ?_) | refine IfB.mk (fun g1 => ?_) (fun g1 => ?_))
  · have hiD : i < D := by omega
    have hio : i < on.length := by omega
    have him : i < met.length := by omega
    have ho := lT_get hio
    have hm := lT_get him
    have hs : (List.filter (fun i => on.getD i false && !met.getD i false) (List.range (i + 1))).length = (List.filter (fun i => on.getD i false && !met.getD i false) (List.range i)).length + if (on[i] && !met[i]) = true then 1 else 0 := by
      rw [List.range_succ, List.filter_append, List.length_append, ← ho, ← hm]; simp only [List.filter_cons, List.filter_nil]; split <;> rfl
    have hs2 : (List.filter (fun i => on.getD i false && !met.getD i false) (List.range i)).length ≤ i := by
      simpa using List.length_filter_le (fun i => on.getD i false && !met.getD i false) (List.range i)
    rw [ho, hm] at hset hkeep
    (refine gw ?_; refine idx_map (hio) ?_)
    rcases hov : on[i] with _ | _
    · rw [hov] at hs hkeep
      rw [Bool.false_and] at hs
      have hs : (List.filter (fun i => on.getD i false && !met.getD i false) (List.range (i + 1))).length = (List.filter (fun i => on.getD i false && !met.getD i false) (List.range i)).length := hs
      (refine gw ?_; refine ⟨[], [0], rfl, ⟨i + 1, by rw [hs]; rfl, by rw [← hkeep hiD (by simp)]; rfl, hiD⟩, (by omega : D - ((i : Int) + 1).toNat < D - (i : Int).toNat)⟩)
    · rw [hov] at hs hset hkeep
      rw [Bool.true_and] at hs hset
      (refine gw ?_; refine IfB.ff (by rw [hmm]; simp; omega) ?_)
      (refine gw ?_; refine idx_map (him) ?_)
      rcases hmv : met[i] with _ | _
      · rw [hmv] at hs hset
        have hs : (List.filter (fun i => on.getD i false && !met.getD i false) (List.range (i + 1))).length = (List.filter (fun i => on.getD i false && !met.getD i false) (List.range i)).length + 1 := hs
        (refine gw ?_; refine InB.mk (by omega) (by rw [tabF_len]; omega) ?_)
        (refine gw ?_; refine ⟨[], [0], rfl, ⟨i + 1, by rw [hs]; rfl, by rw [← hset false hiD rfl]; rfl, hiD⟩, (by omega : D - ((i : Int) + 1).toNat < D - (i : Int).toNat)⟩)
      · rw [hmv] at hs hkeep
        have hs : (List.filter (fun i => on.getD i false && !met.getD i false) (List.range (i + 1))).length = (List.filter (fun i => on.getD i false && !met.getD i false) (List.range i)).length := hs
        (refine gw ?_; refine ⟨[], [0], rfl, ⟨i + 1, by rw [hs]; rfl, by rw [← hkeep hiD (by simp)]; rfl, hiD⟩, (by omega : D - ((i : Int) + 1).toNat < D - (i : Int).toNat)⟩)
  · have e : i = D := by omega
    subst e
    have f1 : (tabF i fun j => AV.bool (on.getD j false && or (decide (i ≤ j)) (met.getD j false))) = ((List.range i).map fun j => on.getD j false && met.getD j false).map AV.bool := by
      rw [← tabF_of]; exact tabF_congr fun j hj => by rw [decide_eq_false (show ¬ i ≤ j by omega)]; simp
    rw [f1]
    unfold trimF
    rw [hD]
    (refine gw ?_; exact RetN.fz ⟨[true, true], [], rfl, rfl, rfl⟩)
end Go.Ev.W
