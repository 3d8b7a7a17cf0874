/- Words and lemmas, part 3, for laws of this seat (a part of their proofs). -/
import Derived.Test.YtdnelcadmoeeiaaC2
set_option linter.unusedVariables false
set_option linter.unusedSimpArgs false
namespace Go.Ev.W
open Go.Ev Go.Ev.N

/-- Is one of so many set, from one on? -/
def orC (b : Nat → Bool) (lo : Nat) : Nat → Bool
  | 0 => false
  | c + 1 => orC b lo c || b (lo + c)
theorem orC_true {b : Nat → Bool} {lo : Nat} : ∀ {c : Nat}, orC b lo c = true ↔ ∃ x, lo ≤ x ∧ x < lo + c ∧ b x = true
  | 0 => ⟨fun h => (by unfold orC at h; exact absurd h (by decide)), fun ⟨x, h1, h2, _⟩ => by omega⟩
  | c + 1 => by
    show (orC b lo c || b (lo + c)) = true ↔ _
    rw [Bool.or_eq_true, orC_true]
    constructor
    · rintro (⟨x, h1, h2, h3⟩ | h)
      · exact ⟨x, h1, by omega, h3⟩
      · exact ⟨lo + c, by omega, by omega, h⟩
    · rintro ⟨x, h1, h2, h3⟩
      by_cases e : x = lo + c
      · exact .inr (e ▸ h3)
      · exact .inl ⟨x, h1, by omega, h3⟩
theorem orC_up {b : Nat → Bool} {k p : Nat} : orC b (p * 2 ^ k) (2 ^ k) = upB b k p := by
  apply Bool.eq_iff_iff.2
  rw [orC_true, upB_true]
  have hp : 0 < 2 ^ k := Nat.pow_pos (by omega)
  constructor
  · rintro ⟨x, h1, h2, h3⟩
    refine ⟨x, ?_, h3⟩
    rw [Nat.div_eq_iff hp]; omega
  · rintro ⟨x, h1, h2⟩
    rw [Nat.div_eq_iff hp] at h1
    exact ⟨x, by omega, by omega, h2⟩
def ow (o : Nat → Int) : List AV := (List.range 64).map fun x => i64 (o x)
theorem ow_len (o : Nat → Int) : (ow o).length = 64 := by simp [ow]
theorem ow_at {o : Nat → Int} {x : Nat} (h : x < 64) {Q : AV → Prop} (q : Q (i64 (o x))) : At (ow o) ((x : Nat) : Int).toNat Q := by
  unfold ow
  refine at_map (k := x) (by simpa using h) ?_
  rw [List.getElem_range]; exact q
/-- Who owns what, once some are another's. -/
def opt (o : Nat → Int) (f c : Nat) (v : Int) : Nat → Int := fun x => if f ≤ x ∧ x < f + c then v else o x
theorem opt_zero (o : Nat → Int) (f : Nat) (v : Int) : opt o f 0 v = o := by
  funext x
  unfold opt
  rw [if_neg (by omega)]
theorem opt_set {o : Nat → Int} {f c : Nat} {v : Int} : (ow (opt o f c v)).set (f + c) (i64 v) = ow (opt o f (c + 1) v) := by
  apply List.ext_getElem (by simp [ow])
  intro x h1 h2
  rw [List.getElem_set]
  simp only [ow, List.getElem_map, List.getElem_range, opt]
  split
  · rename_i e; rw [if_pos (by omega)]
  · rename_i e
    by_cases hq : f ≤ x ∧ x < f + c
    · rw [if_pos hq, if_pos (by omega)]
    · rw [if_neg hq, if_neg (by omega)]
def Own (b : Nat → Bool) (o : Nat → Int) : Prop := ∀ x, x < 64 → (0 ≤ o x ∧ o x ≤ 1000 ∧ (o x = 0 ↔ b x = false))
theorem Own.opt {b : Nat → Bool} {o : Nat → Int} (h : Own b o) (f n : Nat) (v : Int) (on : Bool) (hv : 0 ≤ v ∧ v ≤ 1000 ∧ (v = 0 ↔ on = false)) : Own (setZ b f n on) (opt o f n v) := by
  intro x hx
  unfold setZ W.opt
  by_cases hq : f ≤ x ∧ x < f + n
  · rw [if_pos hq, if_pos (by omega)]; exact hv
  · rw [if_neg hq, if_neg (by omega)]; exact h x hx
-- marks with sizes
def wM (m : M) : M := ⟨m.at', (2 ^ m.cl.toNat : Nat)⟩
theorem low_w (y : Int) : ∀ l : List M, low y (l.map wM) = low y l := by
  intro l
  induction l with
  | nil => rfl
  | cons a l ih =>
    unfold low
    rw [List.map_cons]
    show (if a.at' < y then low y (l.map wM) + 1 else 0) = _
    rw [ih]
theorem isAt_w (y : Int) (l : List M) : isAt y (l.map wM) = isAt y l := by
  unfold isAt
  rw [low_w, List.getElem?_map]
  cases l[low y l]? with
  | none => rfl
  | some m => rfl
theorem putM_w (l : List M) (m : M) : putM (l.map wM) (wM m) = (putM l m).map wM := by
  unfold putM
  show (if isAt m.at' (l.map wM) = true then (l.map wM).set (low m.at' (l.map wM)) (wM m) else (l.map wM).take (low m.at' (l.map wM)) ++ (wM m :: (l.map wM).drop (low m.at' (l.map wM)))) = _
  rw [isAt_w, low_w]
  split
  · rw [List.map_set]
  · rw [List.map_append, List.map_take, List.map_cons, List.map_drop]
theorem takeM_w (l : List M) (y : Int) : takeM (l.map wM) y = (takeM l y).map wM := by
  unfold takeM
  rw [low_w, List.map_append, List.map_take, List.map_drop]
theorem clsM_w {l : List M} {y : Int} (h : isAt y l = true) : clsM (l.map wM) y = ((2 ^ (clsM l y).toNat : Nat) : Int) := by
  have hlt := isAt_lt h
  unfold clsM
  rw [low_w, List.getElem?_map, List.getElem?_eq_getElem hlt]
  rfl
theorem rise_w {l : List M} (h : Rise l) : Rise (l.map wM) := List.pairwise_map.2 h
theorem low_facts {g c : Nat} (h : SlOk g c) {b : Nat → Bool} {k : Nat} (hk : k < c) : (∃ i, lowS g c b k = some i ∧ i < g / 2 ^ k ∧ upB b k i = false ∧ ∀ j, j < i → upB b k j = true) ∨ (lowS g c b k = none ∧ ∀ j, j < g / 2 ^ k → upB b k j = true) := by
  have hz := h.sz hk
  have e : lowS g c b k = firI (g / 2 ^ k) (upB b k) 0 := by
    unfold lowS
    rw [if_pos (by omega), Int.toNat_natCast]
  rw [e]
  rcases firI_spec (n := g / 2 ^ k) (b := upB b k) (f := 0) (by omega) with ⟨h1, h2⟩ | ⟨i, h1, h2, h3, h4, h5⟩
  · exact .inr ⟨h1, fun j hj => h2 j (by omega) hj⟩
  · exact .inl ⟨i, h1, h3, h4, fun j hj => h5 j (by omega) hj⟩
/-- What a search for a place has found. -/
def Srch (u : Nat → Bool) (n q j : Nat) (w : Int) : Prop := (w = -1 ∧ ∀ j', j' < j → u j' = true) ∨ ∃ j' : Nat, w = ((j' * n : Nat) : Int) ∧ j' < q ∧ u j' = false ∧ ∀ t, t < j' → u t = true
theorem place_some {g c : Nat} {b : Nat → Bool} {m : List M} {k i : Nat} (h : lowS g c b k = some i) : placeA 1 g c b k = ((i * 2 ^ k : Nat) : Int) ∧ placeB g c b k = setZ b (i * 2 ^ k : Nat) (2 ^ k : Nat) true ∧ placeL 1 g c b m k = putM m ⟨(i * 2 ^ k : Nat), (k : Nat)⟩ := by
  unfold placeA placeB placeL
  rw [h]
  simp only [Int.toNat_natCast, Nat.mul_one]
  exact ⟨trivial, trivial, trivial⟩
theorem place_none {g c : Nat} {b : Nat → Bool} {m : List M} {k : Nat} (h : lowS g c b k = none) : placeB g c b k = b ∧ placeL 1 g c b m k = m := by
  unfold placeB placeL
  rw [h]
  exact ⟨rfl, rfl⟩
theorem Srch.found {u : Nat → Bool} {n q j : Nat} (hj : j < q) (h : Srch u n q j (-1)) : (u j = false → Srch u n q (j + 1) ((j * n : Nat) : Int)) ∧ (u j = true → Srch u n q (j + 1) (-1)) := by
  have hall : ∀ j', j' < j → u j' = true := by
    rcases h with ⟨_, h⟩ | ⟨j', e, _⟩
    · exact h
    · omega
  refine ⟨fun hu => .inr ⟨j, rfl, hj, hu, hall⟩, fun hu => .inl ⟨rfl, fun j' h2 => ?_⟩⟩
  by_cases e : j' = j
  · rw [e]; exact hu
  · exact hall j' (by omega)
/-- What was found is what there is. -/
theorem Srch.done {u : Nat → Bool} {n q j : Nat} {w : Int} {lo : Option Nat} (h : Srch u n q j w) (he : j = q ∨ 0 ≤ w) (hj : j ≤ q) (hlf : (∃ i, lo = some i ∧ i < q ∧ u i = false ∧ ∀ j, j < i → u j = true) ∨ (lo = none ∧ ∀ j, j < q → u j = true)) :
    (∃ i, lo = some i ∧ i < q ∧ w = ((i * n : Nat) : Int)) ∨ (lo = none ∧ w = -1) := by
  rcases h with ⟨e, h1⟩ | ⟨j', e, h1, h2, h3⟩
  · have hjq : j = q := by omega
    subst hjq
    rcases hlf with ⟨i, l1, l2, l3, l4⟩ | ⟨l1, l2⟩
    · rw [h1 i l2] at l3; cases l3
    · exact .inr ⟨l1, e⟩
  · rcases hlf with ⟨i, l1, l2, l3, l4⟩ | ⟨l1, l2⟩
    · refine .inl ⟨i, l1, l2, ?_⟩
      have : i = j' := by
        rcases Nat.lt_trichotomy i j' with h | h | h
        · rw [h3 i h] at l3; cases l3
        · exact h
        · rw [l4 j' h] at h2; cases h2
      rw [this]; exact e
    · rw [l2 j' h1] at h2; cases h2
end Go.Ev.W
namespace Go.Ev.W
open Go.Ev Go.Ev.N

theorem ok1645 : NwOk 1 64 5 := by decide
theorem inv1645 : Inv 1 64 5 offB [] := ⟨ok1645.eg, fun m hm => absurd hm (by simp), fun m hm => absurd hm (by simp)⟩
theorem ow_zero : ow (fun _ => 0) = List.replicate 64 (i64 0) := rfl
set_option maxRecDepth 20000 in
set_option maxHeartbeats 8000000 in
theorem placeLowest_told (l : List (Nat × Nat)) (hb : ∀ p ∈ l, p.1 < 256 ∧ p.2 < 256) : Told P T law11_PlaceLowest [] [.lst tx_a2_uint8 (l.map enc2)] (.bool true) [] := by
  have cb := begun11_told
  have hml : (l.map enc2).length = l.length := by simp
  by_cases h50 : l.length ≤ 50
  · have c1 := plNew_told 1 64 5 (by omega) (by omega) (by omega)
    rw [decide_eq_true ok1645, show nwE 1 64 5 = eE 1 64 5 offB [] from nw_yes ok1645] at c1
    have hz := ow_zero
    have hown0 : Own offB (fun _ => 0) := fun x _ => ⟨Int.le_refl 0, by show (0 : Int) ≤ 1000; omega, ⟨fun _ => rfl, fun _ => rfl⟩⟩
    generalize (fun _ : Nat => (0 : Int)) = o0 at *
    refine told_of_ev (fn := law11_PlaceLowest_fn) tabOk mixed (by kernel_rfl) (by kernel_rfl) (by kernel_rfl) (by kernel_rfl) ?_
    (refine gw ?_; refine Choice.mk ⟨false, Choice.mk ⟨false, _, _, cb, ?_⟩⟩)
    (refine gw ?_; refine IfB.ff (by rw [hml]; simp; omega) ?_)
    (refine gw ?_; refine Choice.mk ⟨false, Choice.mk ⟨false, _, _, c1, ?_⟩⟩)
    (refine gw ?_; refine LoopN.mk ⟨[0,3,5,6,7], fun vs L => ∃ (i : Nat) (b : Nat → Bool) (m ds : List M) (o : Nat → Int), vs = [.lst tx_a2_uint8 (l.map enc2), .ptr 0 0 0, .ptr 1 0 0, .mp 2, i64 i] ∧ L = [.var (eE 1 64 5 b m), .row t_int (ow o), .map t_int (encD ds)] ∧ i ≤ l.length ∧ Inv 1 64 5 b m ∧ m.length ≤ i ∧ Own b o ∧ Same ds (m.map wM), fun vs L => match vs with | [_, _, _, _, .int _ i] => l.length - i.toNat | _ => 0, [], [0,3,4], rfl, ⟨0, offB, [], [], o0, rfl, by rw [hz]; rfl, by omega, inv1645, by simp, hown0, ⟨List.Pairwise.nil, fun m => Iff.rfl⟩⟩, ?_⟩)
    rintro vs L ⟨i, b, m, ds, o, rfl, rfl, hi, hok, hmi, hown, hsame⟩
    have hmm : (m.map encM).length = m.length := by simp
    have hrw := rise_w hok.eg.rise
    by_cases hil : i < l.length
    · have hxx : ∀ Q : AV → Prop, Q (enc2 l[i]) → Idx (l.map enc2) ((i : Nat) : Int) Q := fun Q q => idx_map hil q
      have hbi := hb _ (List.getElem_mem hil)
      generalize l[i] = xy at *
      obtain ⟨x, y⟩ := xy
      have hx : x < 256 := hbi.1
      have hy : y < 256 := hbi.2
      have hm4 : ((x : Nat) : Int).tmod 4 = ((x % 4 : Nat) : Int) := (Int.ofNat_tmod x 4).symm
      have hm5 : ((y : Nat) : Int).tmod 5 = ((y % 5 : Nat) : Int) := (Int.ofNat_tmod y 5).symm
      have hm64 : ((y : Nat) : Int).tmod 64 = ((y % 64 : Nat) : Int) := (Int.ofNat_tmod y 64).symm
      have hk5 : y % 5 < 5 := Nat.mod_lt _ (by omega)
      have hsl := shlI (k := y % 5) (by omega)
      have hp2 : 2 ^ (y % 5) ≤ 2 ^ 4 := Nat.pow_le_pow_right (by omega) (by omega)
      have hp0 : 0 < 2 ^ (y % 5) := Nat.pow_pos (by omega)
      (refine gw ?_; refine IfB.tt (by rw [hml]; simp; omega) ?_)
      (refine gw ?_)
      refine hxx _ ?_
      (refine gw ?_)
      rw [hm5]
      (refine gw ?_)
      rw [hsl]
      (refine gw ?_)
      refine hxx _ ?_
      (refine gw ?_)
      rw [hm4]
      by_cases h4 : x % 4 > 0
      · have p1 := plPlace_told hok.eg (b := b) (y % 5 : Nat) (by omega)
        have hz := hok.eg.sl.sz hk5
        have hlf := low_facts hok.eg.sl (b := b) hk5
        have hup := fun j => orC_up (b := b) (k := y % 5) (p := j)
        have hst := fun i (h : lowS 64 5 b (y % 5 : Nat) = some i) => place_some (m := m) h
        have hsn := fun (h : lowS 64 5 b (y % 5 : Nat) = none) => place_none (m := m) h
        have hpl := hok.place (by omega) (y % 5 : Nat)
        have hpln := plLen 1 64 5 b m (y % 5 : Nat)
        have hwk : ∀ f : Nat, wM ⟨(f : Nat), (y % 5 : Nat)⟩ = ⟨(f : Nat), (2 ^ (y % 5) : Nat)⟩ := fun f => by unfold wM; rw [Int.toNat_natCast]
        have hzq := hz.2.2
        clear hz
        generalize placeA 1 64 5 b (y % 5 : Nat) = A at *
        generalize hlo : lowS 64 5 b (y % 5 : Nat) = lo at *
        generalize placeB 64 5 b (y % 5 : Nat) = b2 at *
        generalize placeL 1 64 5 b m (y % 5 : Nat) = m2 at *
        generalize upB b (y % 5) = u at *
        generalize 2 ^ (y % 5) = n at *
        generalize 64 / n = q at *
        generalize hS : lo.isSome = S at *
        (refine gw ?_; refine IfB.tt (by simp; omega) ?_)
        (refine gw ?_; refine Choice.mk ⟨false, Choice.mk ⟨false, _, _, p1, ?_⟩⟩)
        (refine gw ?_; refine LoopN.mk ⟨[0,3,5,6,7,9,10,11,12,13,14], fun vs L => ∃ (j : Nat) (w : Int), vs = [.lst tx_a2_uint8 (l.map enc2), .ptr 0 0 0, .ptr 1 0 0, .mp 2, i64 i, i64 n, .ptr 3 0 0, i64 A, .bool S, i64 w, i64 (j * n : Nat)] ∧ L = [.var (eE 1 64 5 b m), .row t_int (ow o), .map t_int (encD ds), .var (eE 1 64 5 b2 m2)] ∧ j ≤ q ∧ Srch u n q j w, fun vs L => match vs with | [_, _, _, _, _, _, _, _, _, _, .int _ i] => 64 - i.toNat | _ => 0, [], [0,1,2,3], rfl, ⟨0, -1, by rw [Nat.zero_mul]; rfl, rfl, by omega, .inl ⟨rfl, fun j' h => by omega⟩⟩, ?_⟩)
        rintro vs L ⟨j, w, rfl, rfl, hj, hw⟩
        have hjn : j * n ≤ 64 := by
          have : j * n ≤ q * n := Nat.mul_le_mul_right _ hj
          omega
        by_cases hgo : j < q ∧ w < 0
        · have hw1 : w = -1 := by
            rcases hw with ⟨e, _⟩ | ⟨j', e, _⟩
            · exact e
            · omega
          subst hw1
          have hjn2 : j * n + n ≤ 64 := by
            have : (j + 1) * n ≤ q * n := Nat.mul_le_mul_right _ (by omega)
            rw [Nat.add_mul] at this
            omega
          obtain ⟨hf1, hf2⟩ := hw.found hgo.1
          have hup := hup j
          have hor0 : orC b (j * n) 0 = false := rfl
          have hor : ∀ c, orC b (j * n) (c + 1) = (orC b (j * n) c || b (j * n + c)) := fun c => rfl
          have hj1 : (j + 1) * n = j * n + n := by rw [Nat.add_mul, Nat.one_mul]
          generalize orC b (j * n) = O at *
          generalize j * n = jn at *
          (refine gw ?_; refine IfB.tt (by simp; omega) ?_)
          (refine gw ?_; refine LoopN.mk ⟨[0,3,5,6,7,9,10,11,12,13,14,15,16], fun vs L => ∃ c : Nat, vs = [.lst tx_a2_uint8 (l.map enc2), .ptr 0 0 0, .ptr 1 0 0, .mp 2, i64 i, i64 n, .ptr 3 0 0, i64 A, .bool S, i64 (-1), i64 jn, .bool (!O c), i64 (jn + c : Nat)] ∧ L = [.var (eE 1 64 5 b m), .row t_int (ow o), .map t_int (encD ds), .var (eE 1 64 5 b2 m2)] ∧ c ≤ n, fun vs L => match vs with | [_, _, _, _, _, _, _, _, _, _, _, _, .int _ i] => jn + n - i.toNat | _ => 0, [], [0,1,2,3], rfl, ⟨0, by rw [hor0]; rfl, rfl, by omega⟩, ?_⟩)
          rintro vs L ⟨c, rfl, rfl, hc⟩
          have hol := ow_len o
          by_cases hcn : c < n
          · have hat : ∀ Q : AV → Prop, Q (i64 (o (jn + c))) → At (ow o) ((jn + c : Nat) : Int).toNat Q := fun Q q => ow_at (by omega) q
            have hoc := hown (jn + c) (by omega)
            have hor := hor c
            (refine gw ?_; refine IfB.tt (by simp; omega) ?_)
            cases hO : O c with
            | true =>
              rw [hO, Bool.true_or] at hor
              (refine gw ?_; refine ⟨[], [0,1,2,3], rfl, ⟨c + 1, by rw [hor]; rfl, rfl, hcn⟩, (by omega : jn + n - (((jn + c : Nat) : Int) + 1).toNat < jn + n - ((jn + c : Nat) : Int).toNat)⟩)
            | false =>
              rw [hO, Bool.false_or] at hor
              have hob : (o (jn + c) == 0) = !b (jn + c) := by
                cases hbb : b (jn + c) with
                | true => exact beq_eq_false_iff_ne.2 fun e => by rw [hoc.2.2.1 e] at hbb; cases hbb
                | false => exact beq_iff_eq.2 (hoc.2.2.2 hbb)
              (refine gw ?_)
              refine hat _ ?_
              (refine gw ?_; refine ⟨[], [0,1,2,3], rfl, ⟨c + 1, by rw [hor, ← hob]; rfl, rfl, hcn⟩, (by omega : jn + n - (((jn + c : Nat) : Int) + 1).toNat < jn + n - ((jn + c : Nat) : Int).toNat)⟩)
          · obtain rfl : c = n := by omega
            rw [hup]
            cases hu : u j with
            | true =>
              (refine gw ?_; refine ⟨[], [0,1,2,3], rfl, ⟨j + 1, -1, by rw [hj1]; rfl, rfl, by omega, hf2 hu⟩, (by omega : 64 - ((jn : Int) + (c : Int)).toNat < 64 - (jn : Int).toNat)⟩)
            | false =>
              (refine gw ?_; refine ⟨[], [0,1,2,3], rfl, ⟨j + 1, jn, by rw [hj1]; rfl, rfl, by omega, hf1 hu⟩, (by omega : 64 - ((jn : Int) + (c : Int)).toNat < 64 - (jn : Int).toNat)⟩)
        · have hd := hw.done (lo := lo) (by omega) hj hlf
          have hj1 : j < q → j * n < 64 := fun h => by
            have : (j + 1) * n ≤ q * n := Nat.mul_le_mul_right _ (by omega)
            rw [Nat.add_mul] at this
            omega
          have hj2 : j = q → j * n = 64 := fun h => by rw [h]; exact hzq
          generalize j * n = jn at *
          by_cases hjq : j < q
          case' pos =>
            have hj1 := hj1 hjq
            (refine gw ?_; refine IfB.tt (by simp; omega) ?_)
            (refine gw ?_; refine IfB.ff (by simp; omega) ?_)
          case' neg =>
            have hj2 := hj2 (by omega)
            (refine gw ?_; refine IfB.ff (by simp; omega) ?_)
          all_goals (
            rcases hd with ⟨i0, l1, l2, l3⟩ | ⟨l1, l2⟩
            · obtain ⟨s1, s2, s3⟩ := hst i0 l1
              have hin : i0 * n + n ≤ 64 := by
                have : (i0 + 1) * n ≤ q * n := Nat.mul_le_mul_right _ (by omega)
                rw [Nat.add_mul] at this
                omega
              have hS1 : S = true := by rw [← hS, l1]; rfl
              generalize i0 * n = f at *
              have hoz := opt_zero o f ((i : Int) + 1)
              have hown2 : Own b2 (opt o f n ((i : Int) + 1)) := by rw [s2]; exact hown.opt f n _ true (by refine ⟨by omega, by omega, ?_⟩; constructor <;> intro h <;> first | omega | cases h)
              have hsame2 : Same (dset ⟨(f : Nat), (n : Nat)⟩ ds) (m2.map wM) := by
                rw [s3, ← putM_w, hwk]
                exact hsame.put hrw _
              have hms := mset_encD ⟨(f : Nat), (n : Nat)⟩ ds
              rw [l3, hS1, s1]
              (refine gw ?_; refine LoopN.mk ⟨[0,3,5,6,7,9,10,12,13,17], fun vs L => ∃ c : Nat, vs = [.lst tx_a2_uint8 (l.map enc2), .ptr 0 0 0, .ptr 1 0 0, .mp 2, i64 i, i64 n, .ptr 3 0 0, .bool true, i64 f, i64 c] ∧ L = [.var (eE 1 64 5 b m), .row t_int (ow (opt o f c ((i : Int) + 1))), .map t_int (encD ds), .var (eE 1 64 5 b2 m2)] ∧ c ≤ n, fun vs L => match vs with | [_, _, _, _, _, _, _, _, _, .int _ i] => n - i.toNat | _ => 0, [], [0,1,2,3], rfl, ⟨0, rfl, by rw [hoz]; rfl, by omega⟩, ?_⟩)
              rintro vs L ⟨c, rfl, rfl, hc⟩
              have hol := ow_len (opt o f c ((i : Int) + 1))
              by_cases hcn : c < n
              · have hset := opt_set (o := o) (f := f) (c := c) (v := (i : Int) + 1)
                (refine gw ?_; refine IfB.tt (by simp; omega) ?_)
                (refine gw ?_; refine ⟨[], [0,1,2,3], rfl, ⟨c + 1, rfl, by rw [← hset]; rfl, hcn⟩, (by omega : n - ((c : Int) + 1).toNat < n - (c : Int).toNat)⟩)
              · obtain rfl : c = n := by omega
                (refine gw ?_; refine ⟨[], [0,1,2], rfl, ⟨i + 1, b2, m2, dset ⟨(f : Nat), (c : Nat)⟩ ds, opt o f c ((i : Int) + 1), rfl, by rw [← hms]; rfl, hil, hpl, by omega, hown2, hsame2⟩, (by omega : l.length - ((i : Int) + 1).toNat < l.length - (i : Int).toNat)⟩)
            · have hS0 : S = false := by rw [← hS, l1]; rfl
              obtain ⟨s1, s2⟩ := hsn l1
              have hown2 : Own b2 o := by rw [s1]; exact hown
              have hsame2 : Same ds (m2.map wM) := by rw [s2]; exact hsame
              rw [l2, hS0]
              (refine gw ?_; refine LoopN.mk ⟨[0,3,5,6,7,9,10,12,13,17], fun vs L => vs = [.lst tx_a2_uint8 (l.map enc2), .ptr 0 0 0, .ptr 1 0 0, .mp 2, i64 i, i64 n, .ptr 3 0 0, .bool false, i64 (-1), i64 0] ∧ L = [.var (eE 1 64 5 b m), .row t_int (ow o), .map t_int (encD ds), .var (eE 1 64 5 b2 m2)], fun vs L => match vs with | [_, _, _, _, _, _, _, _, _, .int _ i] => 0 | _ => 0, [], [0,1,2,3], rfl, ⟨rfl, rfl⟩, ?_⟩)
              rintro vs L ⟨rfl, rfl⟩
              (refine gw ?_; refine IfB.tt (by simp; omega) ?_)
              (refine gw ?_; refine ⟨[], [0,1,2], rfl, ⟨i + 1, b2, m2, ds, o, rfl, rfl, hil, hpl, by omega, hown2, hsame2⟩, (by omega : l.length - ((i : Int) + 1).toNat < l.length - (i : Int).toNat)⟩))
      · have ha64 : y % 64 < 64 := Nat.mod_lt _ (by omega)
        have hget := (mget_encD (y % 64 : Nat) ds)
        rw [hsame.get hrw, isAt_w] at hget
        have r1 := plRel_told hok.eg (b := b) (y % 64 : Nat) (by omega)
        have hinv := hok.rel (y % 64 : Nat)
        have hrl := rlLen m (y % 64 : Nat)
        have hmd := mdel_encD (y % 64 : Nat) ds
        have hno := fun h => hsame.no hrw (y := (y % 64 : Nat)) (by rw [isAt_w]; exact h)
        have hta := fun h => hsame.take hrw (y := (y % 64 : Nat)) (by rw [isAt_w]; exact h)
        have hcw := fun h => clsM_w (l := m) (y := (y % 64 : Nat)) h
        have hat := fun h => relL_at hok.eg (y := (y % 64 : Nat)) h
        have hm0 := fun c => cls_mem hok.eg.rise (y := (y % 64 : Nat)) (c := c)
        have hrB : ∀ h : isAt (y % 64 : Nat) m = true, relB 1 b m (y % 64 : Nat) = setZ b (y % 64 : Nat) (2 ^ (clsM m (y % 64 : Nat)).toNat : Nat) false := fun h => by
          unfold relB
          rw [h, if_pos rfl, Int.toNat_natCast, Nat.div_one]
        have hrL : ∀ h : isAt (y % 64 : Nat) m = true, relL m (y % 64 : Nat) = takeM m (y % 64 : Nat) := fun h => by
          unfold relL
          rw [h, if_pos rfl]
        have hrK : ∀ h : isAt (y % 64 : Nat) m = true, relK m (y % 64 : Nat) = clsM m (y % 64 : Nat) := fun h => by
          unfold relK
          rw [h, if_pos rfl]
        have hrB0 : isAt (y % 64 : Nat) m = false → relB 1 b m (y % 64 : Nat) = b := fun h => by
          unfold relB
          rw [h, if_neg (by simp)]
        have hrL0 : isAt (y % 64 : Nat) m = false → relL m (y % 64 : Nat) = m := fun h => by
          unfold relL
          rw [h, if_neg (by simp)]
        generalize y % 64 = a at *
        (refine gw ?_; refine IfB.ff (by simp; omega) ?_)
        (refine gw ?_)
        refine hxx _ ?_
        (refine gw ?_)
        rw [hm64]
        (refine gw ?_)
        cases hia : isAt a m with
        | false =>
          rw [hia] at r1
          have hget0 : mget (encD ds) (.int .i64 (a : Nat)) = none := by rw [hget, hia]; rfl
          have hown2 : Own (relB 1 b m a) o := by rw [hrB0 hia]; exact hown
          have hsame2 : Same (ddel a ds) ((relL m a).map wM) := by rw [hrL0 hia]; exact hno hia
          generalize relB 1 b m a = b2 at *
          generalize relL m a = m2 at *
          refine Get.of hget0 ?_
          (refine gw ?_; refine Choice.mk ⟨false, Choice.mk ⟨false, _, _, r1, ?_⟩⟩)
          (refine gw ?_; refine LoopN.mk ⟨[0,3,5,6,7,18,19,20,21,24], fun vs L => vs = [.lst tx_a2_uint8 (l.map enc2), .ptr 0 0 0, .ptr 1 0 0, .mp 2, i64 i, i64 a, i64 0, .bool false, .ptr 3 0 0, i64 0] ∧ L = [.var (eE 1 64 5 b m), .row t_int (ow o), .map t_int (encD ds), .var (eE 1 64 5 b2 m2)], fun vs L => match vs with | [_, _, _, _, _, _, _, _, _, .int _ i] => 0 | _ => 0, [], [0,1,2,3], rfl, ⟨rfl, rfl⟩, ?_⟩)
          rintro vs L ⟨rfl, rfl⟩
          (refine gw ?_; refine ⟨[], [0,1,2], rfl, ⟨i + 1, b2, m2, ddel a ds, o, rfl, by rw [← hmd]; rfl, hil, hinv, by omega, hown2, hsame2⟩, (by omega : l.length - ((i : Int) + 1).toNat < l.length - (i : Int).toNat)⟩)
        | true =>
          rw [hia, hrK hia] at r1
          obtain ⟨t1, t2, t3, t4⟩ := hat hia
          obtain ⟨k, hk⟩ : ∃ k : Nat, clsM m a = k := ⟨(clsM m a).toNat, by omega⟩
          have hmem := (hm0 (clsM m a)).1 ⟨hia, rfl⟩
          rw [hk] at r1 t4 hmem
          have hrB := hrB hia
          have hrL := hrL hia
          have hcw := hcw hia
          rw [hk, Int.toNat_natCast] at hrB hcw
          have hget1 : mget (encD ds) (.int .i64 (a : Nat)) = some (i64 (2 ^ k : Nat)) := by rw [hget, hia, hcw]; rfl
          have hsl2 := shlI (k := k) (by omega)
          have hkp0 : 0 < 2 ^ k := Nat.pow_pos (by omega)
          have hkp : 2 ^ k ≤ 2 ^ 4 := Nat.pow_le_pow_right (by omega) (by omega)
          have hin : a + 2 ^ k ≤ 64 := by
            have := (hok.lv _ hmem (a + 2 ^ k - 1) (by
              have e : gS 1 ⟨(a : Nat), (k : Nat)⟩ = a := by unfold gS; rw [Int.toNat_natCast, Nat.div_one]
              refine ⟨by rw [e]; omega, ?_⟩
              rw [e]
              simp only [Int.toNat_natCast]
              omega)).1
            omega
          have hown2 : Own (relB 1 b m a) (opt o a (2 ^ k) 0) := by rw [hrB]; exact hown.opt a _ 0 false ⟨by omega, by omega, ⟨fun _ => rfl, fun _ => rfl⟩⟩
          have hsame2 : Same (ddel a ds) ((relL m a).map wM) := by rw [hrL, ← takeM_w]; exact hta hia
          generalize relB 1 b m a = b2 at *
          generalize relL m a = m2 at *
          generalize 2 ^ k = n2 at *
          refine Get.of hget1 ?_
          (refine gw ?_; refine Choice.mk ⟨false, Choice.mk ⟨false, _, _, r1, ?_⟩⟩)
          (refine gw ?_)
          rw [hsl2]
          have hoz := opt_zero o a 0
          (refine gw ?_; refine LoopN.mk ⟨[0,3,5,6,7,18,19,20,21,24], fun vs L => ∃ c : Nat, vs = [.lst tx_a2_uint8 (l.map enc2), .ptr 0 0 0, .ptr 1 0 0, .mp 2, i64 i, i64 a, i64 n2, .bool true, .ptr 3 0 0, i64 c] ∧ L = [.var (eE 1 64 5 b m), .row t_int (ow (opt o a c 0)), .map t_int (encD ds), .var (eE 1 64 5 b2 m2)] ∧ c ≤ n2, fun vs L => match vs with | [_, _, _, _, _, _, _, _, _, .int _ i] => n2 - i.toNat | _ => 0, [], [0,1,2,3], rfl, ⟨0, rfl, by rw [hoz]; rfl, by omega⟩, ?_⟩)
          rintro vs L ⟨c, rfl, rfl, hc⟩
          have hol := ow_len (opt o a c 0)
          by_cases hcn : c < n2
          · have hset := opt_set (o := o) (f := a) (c := c) (v := 0)
            (refine gw ?_; refine IfB.tt (by simp; omega) ?_)
            (refine gw ?_; refine ⟨[], [0,1,2,3], rfl, ⟨c + 1, rfl, by rw [← hset]; rfl, hcn⟩, (by omega : n2 - ((c : Int) + 1).toNat < n2 - (c : Int).toNat)⟩)
          · obtain rfl : c = n2 := by omega
            (refine gw ?_; refine ⟨[], [0,1,2], rfl, ⟨i + 1, b2, m2, ddel a ds, opt o a c 0, rfl, by rw [← hmd]; rfl, hil, hinv, by omega, hown2, hsame2⟩, (by omega : l.length - ((i : Int) + 1).toNat < l.length - (i : Int).toNat)⟩)
    · have hlen : m.length = (encD ds).length := by
        have := hsame.len hrw
        rw [List.length_map] at this
        unfold encD
        rw [List.length_map, this]
      (refine gw ?_; refine IfB.ff (by rw [hml]; simp; omega) ?_)
      (refine gw ?_)
      rw [hmm, hlen]
      (refine gw ?_; refine RetN.mk ⟨[], rfl, ?_, rfl⟩)
      simp [ren3, ren2, ren1]
      rfl
  · refine told_of_ev (fn := law11_PlaceLowest_fn) tabOk mixed (by kernel_rfl) (by kernel_rfl) (by kernel_rfl) (by kernel_rfl) ?_
    (refine gw ?_; refine Choice.mk ⟨false, Choice.mk ⟨false, _, _, cb, ?_⟩⟩)
    (refine gw ?_; refine IfB.tt (by rw [hml]; simp; omega) ?_)
    (refine gw ?_; exact RetN.mk ⟨[], rfl, rfl, rfl⟩)
theorem placeLowest {x0 : AV} (h0 : Shp T 8 22 x0) : Told P T law11_PlaceLowest [] [x0] (.bool true) [] := by
  obtain ⟨l, rfl, _, hb⟩ := shp_2 (by kernel_rfl) h0
  exact placeLowest_told l hb
end Go.Ev.W
