/- Words and lemmas, part 4, for laws of this seat (a part of their proofs). -/
import Derived.Test.YtdnelcadmoeeiaaGreatC3
set_option linter.unusedVariables false
set_option linter.unusedSimpArgs false
namespace Go.Ev.W
open Go.Ev Go.Ev.N

/-- Where a class's place is free. -/
theorem Hb.free {c : Cf} {l : List Bk} {b : Nat → Bool} {m : List M} {ds : List Bk} {met : List Int} (hc : c.Ok) (ha : ApB c.H l) (hz : ∀ x ∈ l, SzB c x) (h : Hb c l b m ds met) {k i : Nat} (hk : k ≤ c.L) (hi : i < c.H / c.G / 2 ^ k) : upB b k i = false ↔ freeAt l (c.G * 2 ^ k : Nat) ((i * (c.G * 2 ^ k) : Nat) : Int) = true := by
  have hg := hc.gpos
  have hgG := hc.gG
  have hsz := (hc.sl.sz (k := k) (by omega)).2.2
  have hp : 0 < 2 ^ k := Nat.two_pow_pos k
  have hin : ∀ x, x / 2 ^ k = i → x < c.H / c.G := fun x hx => by
    rw [Nat.div_eq_iff hp] at hx
    have : (i + 1) * 2 ^ k ≤ c.H / c.G / 2 ^ k * 2 ^ k := Nat.mul_le_mul_right _ (by omega)
    rw [hsz, Nat.add_mul] at this
    omega
  rw [← Bool.not_eq_true, upB_true, freeAt_iff]
  have hn : i * (c.G * 2 ^ k) = i * 2 ^ k * c.G := by rw [Nat.mul_assoc, Nat.mul_comm c.G]
  rw [hn]
  constructor
  · intro hu x hx hq
    refine hu ?_
    obtain ⟨j, hj, hj2, hj3, _⟩ := hz x hx
    have hb := ha.b x hx
    obtain ⟨t, ht⟩ := Int.dvd_of_emod_eq_zero hj3
    have ht0 : 0 ≤ t := by
      rcases Int.lt_or_le t 0 with h' | h'
      · have : x.c * t ≤ x.c * (-1) := Int.mul_le_mul_of_nonneg_left (by omega) (by omega)
        omega
      · exact h'
    obtain ⟨t, rfl⟩ : ∃ n : Nat, t = n := ⟨t.toNat, by omega⟩
    have hA : x.a = ((t * 2 ^ j * c.G : Nat) : Int) := by
      rw [ht, hj2, ← Int.natCast_mul, Nat.mul_comm (c.G * 2 ^ j), Nat.mul_comm c.G, Nat.mul_assoc]
    have hC : x.c = ((2 ^ j * c.G : Nat) : Int) := by rw [hj2, Nat.mul_comm]
    have hp2 : 0 < 2 ^ j := Nat.two_pow_pos j
    have hnn : c.G * 2 ^ k = 2 ^ k * c.G := Nat.mul_comm _ _
    rw [hnn, hA, hC] at hq
    have q1 : i * 2 ^ k < t * 2 ^ j + 2 ^ j := by
      have : i * 2 ^ k * c.G < (t * 2 ^ j + 2 ^ j) * c.G := by rw [Nat.add_mul]; omega
      exact Nat.lt_of_mul_lt_mul_right this
    have q2 : t * 2 ^ j < i * 2 ^ k + 2 ^ k := by
      have : t * 2 ^ j * c.G < (i * 2 ^ k + 2 ^ k) * c.G := by rw [Nat.add_mul]; omega
      exact Nat.lt_of_mul_lt_mul_right this
    have e1 : max (t * 2 ^ j) (i * 2 ^ k) / 2 ^ k = i := by rw [Nat.div_eq_iff hp]; omega
    refine ⟨_, e1, ?_⟩
    rw [h.b _ (hin _ e1), cov_iff]
    refine ⟨x, hx, ?_, ?_⟩
    · rw [hA]
      have : t * 2 ^ j * c.G ≤ max (t * 2 ^ j) (i * 2 ^ k) * c.G := Nat.mul_le_mul_right _ (Nat.le_max_left _ _)
      omega
    · rw [hA, hC, ← Int.natCast_add, ← Nat.add_mul]
      have : max (t * 2 ^ j) (i * 2 ^ k) * c.G < (t * 2 ^ j + 2 ^ j) * c.G := Nat.mul_lt_mul_of_pos_right (by omega) (by omega)
      omega
  · rintro hf ⟨x, hx, hbx⟩
    rw [h.b _ (hin _ hx), cov_iff] at hbx
    obtain ⟨z, hz1, hz2, hz3⟩ := hbx
    rw [Nat.div_eq_iff hp] at hx
    refine hf z hz1 ?_
    have q1 : i * 2 ^ k * c.G ≤ x * c.G := Nat.mul_le_mul_right _ (by omega)
    have q2 : x * c.G < (i * 2 ^ k + 2 ^ k) * c.G := Nat.mul_lt_mul_of_pos_right (by omega) (by omega)
    rw [Nat.add_mul, Nat.mul_comm (2 ^ k) c.G] at q2
    omega
theorem lowGo_none {l : List Bk} {n : Nat} : ∀ (f k : Nat), (∀ j, k ≤ j → j < k + f → freeAt l n ((j * n : Nat) : Int) = false) → lowGo l n f k = (0, false)
  | 0, _, _ => rfl
  | f + 1, k, h => by
    unfold lowGo
    rw [if_neg (by rw [h k (Nat.le_refl _) (by omega)]; simp)]
    exact lowGo_none f (k + 1) fun j h1 h2 => h j (by omega) (by omega)
theorem lowGo_some {l : List Bk} {n : Nat} : ∀ (f k i : Nat), k ≤ i → i < k + f → (∀ j, k ≤ j → j < i → freeAt l n ((j * n : Nat) : Int) = false) → freeAt l n ((i * n : Nat) : Int) = true → lowGo l n f k = (i * n, true)
  | 0, k, i, h1, h2, _, _ => by omega
  | f + 1, k, i, h1, h2, h3, h4 => by
    unfold lowGo
    by_cases e : k = i
    · subst e; rw [if_pos h4]
    · rw [if_neg (by rw [h3 k (Nat.le_refl _) (by omega)]; simp)]
      exact lowGo_some f (k + 1) i (by omega) (by omega) (fun j a b => h3 j (by omega) b) h4
/-- The lowest place is the plain one's. -/
theorem Hb.low {c : Cf} {l : List Bk} {b : Nat → Bool} {m : List M} {ds : List Bk} {met : List Int} (hc : c.Ok) (ha : ApB c.H l) (hz : ∀ x ∈ l, SzB c x) (h : Hb c l b m ds met) {k : Nat} (hk : k ≤ c.L) :
    lowF c l (c.G * 2 ^ k) = match lowS (c.H / c.G) (c.L + 1) b k with | some i => (i * (c.G * 2 ^ k), true) | none => (0, false) := by
  have hdd : c.H / (c.G * 2 ^ k) = c.H / c.G / 2 ^ k := (Nat.div_div_eq_div_mul _ _ _).symm
  have hsz := hc.sl.sz (k := k) (by omega)
  have hfr := fun i (hi : i < c.H / c.G / 2 ^ k) => h.free hc ha hz hk hi
  unfold lowS lowF
  rw [if_pos (by omega), Int.toNat_natCast, hdd]
  rcases firI_spec (n := c.H / c.G / 2 ^ k) (b := upB b k) (f := 0) (by omega) with ⟨h2, h3⟩ | ⟨i, h2, _, h4, h5, h6⟩
  · have h2 : firI (c.H / c.G / 2 ^ k) (upB b k) 0 = none := h2
    rw [h2]
    refine lowGo_none _ _ fun j _ hj => ?_
    rw [← Bool.not_eq_true, ← hfr j (by omega), h3 j (by omega) (by omega)]; simp
  · have h2 : firI (c.H / c.G / 2 ^ k) (upB b k) 0 = some i := h2
    rw [h2]
    refine lowGo_some _ _ i (by omega) (by omega) (fun j _ hj => ?_) ((hfr i h4).1 h5)
    rw [← Bool.not_eq_true, ← hfr j (by omega), h6 j (by omega) hj]; simp
theorem ovr_pg {pg i y n : Nat} (hp : 1 ≤ pg) (hn : 1 ≤ n) : ovr (i * pg : Nat) pg y n = decide (y / pg ≤ i ∧ i < (y + n - 1) / pg + 1) := by
  unfold ovr
  refine decide_eq_decide.2 ?_
  have h1 := Nat.div_le_iff_le_mul_add_pred (a := y) (c := i) (b := pg) (by omega)
  have h2 := Nat.le_div_iff_mul_le (k := pg) (x := i) (y := y + n - 1) (by omega)
  rw [h1]
  have h3 : i < (y + n - 1) / pg + 1 ↔ i * pg ≤ y + n - 1 := by rw [← h2]; omega
  rw [h3, Nat.mul_comm pg i]
  constructor
  · rintro ⟨a, b⟩; omega
  · rintro ⟨a, b⟩; omega
theorem metA_rel {c : Cf} {l l' : List Bk} (hc : c.Ok) {y n : Nat} {v : Int} (hn : 1 ≤ n) (h : ∀ i, nmet c.Pg l' i = nmet c.Pg l i + if ovr (i * c.Pg : Nat) c.Pg y n = true then v else 0) :
    metA ((List.range (c.H / c.Pg)).map (nmet c.Pg l)) (y / c.Pg) ((y + n - 1) / c.Pg + 1) v = (List.range (c.H / c.Pg)).map (nmet c.Pg l') := by
  apply List.ext_getElem (by simp [metA])
  intro i h1 h2
  have hi : i < c.H / c.Pg := by simpa using h2
  simp only [metA, List.getElem_map, List.getElem_range]
  have hg : ((List.range (c.H / c.Pg)).map (nmet c.Pg l)).getD i 0 = nmet c.Pg l i := by rw [List.getD_eq_getElem?_getD, List.getElem?_eq_getElem (by simpa using hi)]; simp
  rw [hg, h i, ovr_pg hc.pgpos hn]
  by_cases hq : y / c.Pg ≤ i ∧ i < (y + n - 1) / c.Pg + 1
  · rw [if_pos hq, if_pos (by rw [decide_eq_true hq])]
  · rw [if_neg hq, if_neg (by rw [decide_eq_false hq]; simp)]; omega
theorem nmet_put (pg : Nat) (l : List Bk) (x : Bk) (i : Nat) : nmet pg (putB l x) i = nmet pg l i + if ovr (i * pg : Nat) pg x.a x.c = true then 1 else 0 := by
  unfold nmet putB
  conv => rhs; rw [show l = l.take (lowB x.a l) ++ l.drop (lowB x.a l) from (List.take_append_drop _ _).symm]
  simp only [List.countP_append, List.countP_cons]
  split <;> omega
theorem nmet_drop (pg : Nat) {l : List Bk} {j : Nat} (hj : j < l.length) (i : Nat) : nmet pg (dropB l j) i = nmet pg l i + if ovr (i * pg : Nat) pg l[j].a l[j].c = true then -1 else 0 := by
  unfold nmet dropB
  have e : l = l.take j ++ (l[j] :: l.drop (j + 1)) := by rw [← List.drop_eq_getElem_cons hj, List.take_append_drop]
  have e2 : l.countP (fun k => ovr (i * pg : Nat) pg k.a k.c) = (l.take j ++ (l[j] :: l.drop (j + 1))).countP (fun k => ovr (i * pg : Nat) pg k.a k.c) := by rw [← e]
  rw [e2]
  simp only [List.countP_append, List.countP_cons]
  split <;> omega
/-- A block is placed. -/
theorem Hb.put {c : Cf} {l : List Bk} {b : Nat → Bool} {m : List M} {ds : List Bk} {met : List Int} (hc : c.Ok) (ha : ApB c.H l) (hz : ∀ x ∈ l, SzB c x) (h : Hb c l b m ds met) {k i : Nat} (hk : k ≤ c.L) (hi : lowS (c.H / c.G) (c.L + 1) b k = some i) (q : Int) :
    Hb c (putB l ⟨(i * (c.G * 2 ^ k) : Nat), (c.G * 2 ^ k : Nat), q⟩) (placeB (c.H / c.G) (c.L + 1) b k) (placeL c.G (c.H / c.G) (c.L + 1) b m k) (setS ⟨(i * (c.G * 2 ^ k) : Nat), (c.G * 2 ^ k : Nat), q⟩ ds) (metA met ((i * (c.G * 2 ^ k)) / c.Pg) ((i * (c.G * 2 ^ k) + c.G * 2 ^ k - 1) / c.Pg + 1) 1) := by
  obtain ⟨k', ek, hkc, hik, hup, _⟩ := lowS_lt hc.sl hi
  have ek : k' = k := by omega
  subst ek
  have hg := hc.gpos
  have hgG := hc.gG
  have hH := hc.h2
  have hp : 0 < 2 ^ k' := Nat.two_pow_pos _
  have hf := (h.free hc ha hz (by omega) hik).1 hup
  have hbd := sz_bound hc.sl (G := c.G) (by rw [hgG]; exact hH) hkc hik
  have hn : i * (c.G * 2 ^ k') = i * 2 ^ k' * c.G := by rw [Nat.mul_assoc, Nat.mul_comm c.G]
  have hn1 : 1 ≤ c.G * 2 ^ k' := Nat.mul_pos (by omega) (by omega)
  have hnH : i * (c.G * 2 ^ k') + c.G * 2 ^ k' ≤ c.H := by
    have : (i * 2 ^ k' + 2 ^ k') * c.G ≤ c.H / c.G * c.G := Nat.mul_le_mul_right _ hbd.1
    rw [hgG, Nat.add_mul, Nat.mul_comm (2 ^ k')] at this
    omega
  obtain ⟨p1, p2, p3, p4⟩ := putB_ok ha (b := ⟨(i * (c.G * 2 ^ k') : Nat), (c.G * 2 ^ k' : Nat), q⟩) hf ⟨by simp only; omega, by simp only; omega, by simp only; omega⟩
  rw [freeAt_iff] at hf
  refine ⟨fun x hx => ?_, ?_, fun y => ?_, setS_nd _ h.nd, ?_⟩
  · unfold placeB
    rw [hi]
    simp only [Int.toNat_natCast]
    rw [setZc]
    apply Bool.eq_iff_iff.2
    rw [cov_iff]
    have hcell : x / 2 ^ k' = i ↔ (((i * (c.G * 2 ^ k') : Nat) : Int) ≤ ((x * c.G : Nat) : Int) ∧ ((x * c.G : Nat) : Int) < ((i * (c.G * 2 ^ k') : Nat) : Int) + ((c.G * 2 ^ k' : Nat) : Int)) := by
      rw [Nat.div_eq_iff hp, hn]
      have a1 : i * 2 ^ k' ≤ x ↔ i * 2 ^ k' * c.G ≤ x * c.G := ⟨fun h => Nat.mul_le_mul_right _ h, fun h => Nat.le_of_mul_le_mul_right h (by omega)⟩
      have a2 : x < i * 2 ^ k' + 2 ^ k' ↔ x * c.G < (i * 2 ^ k' + 2 ^ k') * c.G := ⟨fun h => Nat.mul_lt_mul_of_pos_right h (by omega), fun h => Nat.lt_of_mul_lt_mul_right h⟩
      rw [Nat.add_mul, Nat.mul_comm (2 ^ k') c.G] at a2
      omega
    by_cases e : x / 2 ^ k' = i
    · rw [if_pos e]
      exact ⟨fun _ => ⟨_, (p2 _).2 (.inl rfl), hcell.1 e⟩, fun _ => rfl⟩
    · rw [if_neg e, h.b x hx, cov_iff]
      constructor
      · rintro ⟨z, h1, h2⟩
        exact ⟨z, (p2 z).2 (.inr h1), h2⟩
      · rintro ⟨z, h1, h2⟩
        rcases (p2 z).1 h1 with rfl | h1
        · exact absurd (hcell.2 h2) e
        · exact ⟨z, h1, h2⟩
  · have hr : Rise m := by rw [h.m]; exact ha.rise
    unfold placeL
    rw [hi]
    simp only [Int.toNat_natCast]
    refine riseE (rise_put hr _) p1.rise fun w => ?_
    rw [mem_putM hr]
    have hnew : mkM c.G ⟨((i * (c.G * 2 ^ k') : Nat) : Int), ((c.G * 2 ^ k' : Nat) : Int), q⟩ = ⟨((i * 2 ^ k' * c.G : Nat) : Int), (k' : Nat)⟩ := by
      unfold mkM
      simp only [Int.toNat_natCast]
      rw [Nat.mul_div_cancel_left _ (by omega), Nat.log2_two_pow, hn]
    constructor
    · rintro (rfl | ⟨h1, h2⟩)
      · exact List.mem_map.2 ⟨_, (p2 _).2 (.inl rfl), hnew⟩
      · rw [h.m] at h1
        obtain ⟨z, hz1, rfl⟩ := List.mem_map.1 h1
        exact List.mem_map.2 ⟨z, (p2 z).2 (.inr hz1), rfl⟩
    · intro hw
      obtain ⟨z, hz1, rfl⟩ := List.mem_map.1 hw
      rcases (p2 z).1 hz1 with rfl | hz1
      · exact .inl hnew
      · refine .inr ⟨by rw [h.m]; exact List.mem_map.2 ⟨z, hz1, rfl⟩, fun e => ?_⟩
        have e : z.a = ((i * 2 ^ k' * c.G : Nat) : Int) := e
        have hb := ha.b z hz1
        refine hf z hz1 ⟨?_, ?_⟩
        · rw [e, hn]; omega
        · rw [e, hn]; omega
  · rw [getS_set, h.ds]
    simp only
    split
    · rename_i e
      exact (getS_of p1.inj ((p2 _).2 (.inl rfl)) e.symm).symm
    · rename_i e
      refine getS_ext p1.inj (fun x hx => ?_) ha.inj
      rw [p2]
      constructor
      · exact fun h => .inr h
      · rintro (rfl | h)
        · exact absurd hx.symm e
        · exact h
  · rw [h.met]
    refine metA_rel hc hn1 fun i' => ?_
    exact nmet_put _ _ _ _
theorem mem_dropB {l : List Bk} {j : Nat} (hj : j < l.length) (hp : ∀ x ∈ l, ∀ z ∈ l, x.a = z.a → x = z) (hn : l.Pairwise fun x z => x.a ≠ z.a) (x : Bk) : x ∈ dropB l j ↔ x ∈ l ∧ x.a ≠ l[j].a := by
  have e : l = l.take j ++ (l[j] :: l.drop (j + 1)) := by rw [← List.drop_eq_getElem_cons hj, List.take_append_drop]
  have e2 : x ∈ l ↔ x ∈ l.take j ∨ x = l[j] ∨ x ∈ l.drop (j + 1) := by
    conv => lhs; rw [e]
    rw [List.mem_append, List.mem_cons]
  have hn2 := hn
  rw [e] at hn2
  obtain ⟨n1, n2, n3⟩ := List.pairwise_append.1 hn2
  unfold dropB
  rw [List.mem_append, e2]
  constructor
  · rintro (h | h)
    · exact ⟨.inl h, n3 x h l[j] (List.mem_cons.2 (.inl rfl))⟩
    · exact ⟨.inr (.inr h), fun q => (List.pairwise_cons.1 n2).1 x h q.symm⟩
  · rintro ⟨h | h | h, h2⟩
    · exact .inl h
    · rw [h] at h2; exact absurd rfl h2
    · exact .inr h
theorem ApB.ne {H : Nat} {l : List Bk} (h : ApB H l) : l.Pairwise fun x z => x.a ≠ z.a := by
  refine List.Pairwise.imp_of_mem ?_ h.p
  intro x z hx hz e
  have := h.b x hx
  omega
/-- A block goes. -/
theorem Hb.drop {c : Cf} {l : List Bk} {b : Nat → Bool} {m : List M} {ds : List Bk} {met : List Int} (hc : c.Ok) (ha : ApB c.H l) (hz : ∀ x ∈ l, SzB c x) (h : Hb c l b m ds met) {j : Nat} (hj : j < l.length) {y n : Nat} (hy : l[j].a = y) (hn : l[j].c = n) :
    Hb c (dropB l j) (relB c.G b m y) (relL m y) (delS y ds) (metA met (y / c.Pg) ((y + n - 1) / c.Pg + 1) (-1)) := by
  have hr : Rise m := by rw [h.m]; exact ha.rise
  have hg := hc.gpos
  have hx := List.getElem_mem hj
  obtain ⟨k, hk, hk2, hk3, _⟩ := hz _ hx
  have hb := ha.b _ hx
  have hcl : mkM c.G l[j] = ⟨(y : Int), (k : Nat)⟩ := by
    unfold mkM
    rw [hy, hk2, Int.toNat_natCast, Nat.mul_div_cancel_left _ (by omega), Nat.log2_two_pow]
  have hmem : (⟨(y : Int), (k : Nat)⟩ : M) ∈ m := by rw [h.m, ← hcl]; exact List.mem_map.2 ⟨_, hx, rfl⟩
  obtain ⟨q1, q2⟩ := (cls_mem hr).2 hmem
  have hnk : n = c.G * 2 ^ k := by rw [hn] at hk2; exact_mod_cast hk2
  have hp : 0 < 2 ^ k := Nat.two_pow_pos _
  have hdv : y = y / c.G * c.G := by
    have hd : (y : Int) % ((n : Nat) : Int) = 0 := by rw [← hy, ← hn]; exact hk3
    have hd : y % n = 0 := by exact_mod_cast hd
    have : c.G ∣ y := Nat.dvd_trans ⟨2 ^ k, hnk⟩ (Nat.dvd_of_mod_eq_zero hd)
    exact (Nat.div_mul_cancel this).symm
  have hmd := mem_dropB hj ha.inj ha.ne
  rw [hy] at hmd
  refine ⟨fun x hxg => ?_, ?_, fun z => ?_, delS_nd _ h.nd, ?_⟩
  · unfold relB
    rw [q1, if_pos rfl, q2]
    simp only [Int.toNat_natCast]
    unfold setZ
    generalize y / c.G = u at *
    have hcell : (0 ≤ ((u : Nat) : Int) ∧ ((u : Nat) : Int) ≤ x ∧ (x : Int) < ((u : Nat) : Int) + ((2 ^ k : Nat) : Int)) ↔ ((y : Int) ≤ ((x * c.G : Nat) : Int) ∧ ((x * c.G : Nat) : Int) < (y : Int) + (n : Int)) := by
      have a1 : u ≤ x ↔ u * c.G ≤ x * c.G := ⟨fun h => Nat.mul_le_mul_right _ h, fun h => Nat.le_of_mul_le_mul_right h (by omega)⟩
      have a2 : x < u + 2 ^ k ↔ x * c.G < (u + 2 ^ k) * c.G := ⟨fun h => Nat.mul_lt_mul_of_pos_right h (by omega), fun h => Nat.lt_of_mul_lt_mul_right h⟩
      rw [← hdv] at a1
      rw [Nat.add_mul, ← hdv, Nat.mul_comm (2 ^ k) c.G, ← hnk] at a2
      omega
    apply Bool.eq_iff_iff.2
    rw [cov_iff]
    by_cases e : (0 ≤ ((u : Nat) : Int) ∧ ((u : Nat) : Int) ≤ x ∧ (x : Int) < ((u : Nat) : Int) + ((2 ^ k : Nat) : Int))
    · rw [if_pos e]
      refine ⟨fun q => (by cases q), ?_⟩
      rintro ⟨z, hz1, hz2, hz3⟩
      obtain ⟨hz1, hz4⟩ := (hmd z).1 hz1
      have := hcell.1 e
      have hzb := ha.b z hz1
      rcases ha.apart z hz1 _ hx (fun q => hz4 (by rw [q, hy])) with q | q <;> omega
    · rw [if_neg e, h.b x hxg, cov_iff]
      constructor
      · rintro ⟨z, hz1, hz2⟩
        refine ⟨z, (hmd z).2 ⟨hz1, fun q => e (hcell.2 ?_)⟩, hz2⟩
        have : z = l[j] := ha.inj z hz1 _ hx (by rw [q, hy])
        rw [this, hy, hn] at hz2
        exact hz2
      · rintro ⟨z, hz1, hz2⟩
        exact ⟨z, ((hmd z).1 hz1).1, hz2⟩
  · unfold relL
    rw [q1, if_pos rfl]
    refine riseE (rise_take hr _) (ha.sub (dropB_sub l j)).rise fun w => ?_
    rw [mem_takeM hr q1, h.m]
    constructor
    · rintro ⟨h1, h2⟩
      obtain ⟨z, hz1, rfl⟩ := List.mem_map.1 h1
      exact List.mem_map.2 ⟨z, (hmd z).2 ⟨hz1, h2⟩, rfl⟩
    · intro hw
      obtain ⟨z, hz1, rfl⟩ := List.mem_map.1 hw
      have := (hmd z).1 hz1
      exact ⟨List.mem_map.2 ⟨z, this.1, rfl⟩, this.2⟩
  · rw [getS_del _ _ h.nd, h.ds]
    split
    · rename_i e
      cases e2 : getS z (dropB l j) with
      | none => rfl
      | some w =>
        have := getS_mem e2
        exact absurd (by rw [this.2, e]) ((hmd w).1 this.1).2
    · rename_i e
      refine getS_ext (ha.sub (dropB_sub l j)).inj (fun x hx => ?_) ha.inj
      rw [hmd]
      exact ⟨fun h => ⟨h, by rw [hx]; exact e⟩, fun h => h.1⟩
  · rw [h.met]
    refine metA_rel hc (by omega) fun i' => ?_
    rw [nmet_drop _ hj, hy, hn]
/-- What went is back again. -/
theorem Hb.undo {c : Cf} {l : List Bk} {b : Nat → Bool} {m : List M} {ds : List Bk} {met : List Int} (hc : c.Ok) (ha : ApB c.H l) (h : Hb c l b m ds met) {j : Nat} (hj : j < l.length) {y n : Nat} {q : Int} (hy : l[j] = ⟨y, n, q⟩) (hn : 1 ≤ n) :
    Hb c l b m (setS ⟨y, n, q⟩ (delS y ds)) (metA (metA met (y / c.Pg) ((y + n - 1) / c.Pg + 1) (-1)) (y / c.Pg) ((y + n - 1) / c.Pg + 1) 1) := by
  refine ⟨h.b, h.m, fun z => ?_, setS_nd _ (delS_nd _ h.nd), ?_⟩
  · rw [getS_set, getS_del _ _ h.nd, h.ds]
    simp only
    split
    · rename_i e
      exact (getS_of ha.inj (by rw [← hy]; exact List.getElem_mem hj) e.symm).symm
    · rfl
  · rw [h.met, metA_rel (l' := dropB l j) hc hn fun i' => by rw [nmet_drop _ hj, hy]]
    refine metA_rel hc hn fun i' => ?_
    rw [nmet_drop _ hj, hy]
    split <;> omega
end Go.Ev.W
namespace Go.Ev.W
open Go.Ev Go.Ev.N

def newH (c : Cf) : Hs := ⟨offB, [], 0, 0, 0, List.replicate (c.H / c.Pg) false, [], List.replicate (c.H / c.Pg) 0, List.replicate c.H 0⟩
set_option maxRecDepth 20000 in
set_option maxHeartbeats 4000000 in
theorem hpNewE_told (r : Rw) (h : (ofF r).2 ≠ 0) : Told P T heap_New [] [eR r] (.tup [.npt, i64 ((ofF r).2 : Nat)]) [] := by
  have c1 := confOf_told r
  unfold eR eC at *
  refine told_of_ev (fn := heap_New_fn) tabOk mixed (by kernel_rfl) (by kernel_rfl) (by kernel_rfl) (by kernel_rfl) ?_
  (refine gw ?_; refine Choice.mk ⟨false, Choice.mk ⟨false, _, _, c1, ?_⟩⟩)
  (refine gw ?_; refine IfB.tt (by simp; omega) ?_)
  (refine gw ?_; exact RetN.mk ⟨[], rfl, rfl, rfl⟩)
set_option maxRecDepth 20000 in
set_option maxHeartbeats 4000000 in
theorem hpNew_told (r : Rw) (h : (ofF r).2 = 0) : Told P T heap_New [] [eR r] (.tup [.ptr 0 0 0, i64 0]) (hsL (ofF r).1 ((ofF r).1.H / (ofF r).1.G) ((ofF r).1.L + 1) (newH (ofF r).1) ++ [.fz t_bool ((List.replicate ((ofF r).1.H / (ofF r).1.Pg) false).map .bool)]) := by
  have c1 := confOf_told r
  have hok := (ofF_ok h).1
  have hH := hok.h2
  have hg := hok.gpos
  have hp := hok.pgpos
  have hdiv : (((ofF r).1.H : Nat) : Int).tdiv ((ofF r).1.Pg : Nat) = (((ofF r).1.H / (ofF r).1.Pg : Nat) : Int) := Int.ofNat_tdiv _ _
  have hdiv2 : (((ofF r).1.H : Nat) : Int).tdiv ((ofF r).1.G : Nat) = (((ofF r).1.H / (ofF r).1.G : Nat) : Int) := Int.ofNat_tdiv _ _
  have hle := Nat.div_le_self (ofF r).1.H (ofF r).1.Pg
  have hle2 := Nat.div_le_self (ofF r).1.H (ofF r).1.G
  have hL := hok.lL
  have hGH : (ofF r).1.G ≤ (ofF r).1.H := by
    have h1 := hok.n; have h2 := hok.nM; have h3 := hok.h
    have : (ofF r).1.G * 1 ≤ (ofF r).1.G * 2 ^ (ofF r).1.L := Nat.mul_le_mul_left _ (Nat.one_le_two_pow)
    omega
  have c2 := plNew_told (ofF r).1.G (((ofF r).1.H / (ofF r).1.G : Nat) : Int) (((ofF r).1.L : Nat) + 1) (by omega) (by generalize (ofF r).1.H / (ofF r).1.G = u at *; omega) (by omega)
  have hnw : NwOk ((ofF r).1.G : Nat) (((ofF r).1.H / (ofF r).1.G : Nat) : Int) (((ofF r).1.L : Nat) + 1) := by
    have hsl := hok.sl.int
    obtain ⟨a, ha⟩ := hok.g
    refine ⟨⟨by omega, by omega, ?_⟩, hsl, ?_⟩
    · rw [Int.toNat_natCast, ha, Nat.log2_two_pow]
    · rw [Int.toNat_natCast]
      have : (ofF r).1.H / (ofF r).1.G ≤ 65536 / (ofF r).1.G := Nat.div_le_div_right hH
      omega
  rw [show nwE ((ofF r).1.G : Nat) (((ofF r).1.H / (ofF r).1.G : Nat) : Int) (((ofF r).1.L : Nat) + 1) = eE (ofF r).1.G ((ofF r).1.H / (ofF r).1.G) ((ofF r).1.L + 1) offB [] by unfold nwE; rw [if_pos hnw]; simp only [Int.toNat_natCast]; rfl, decide_eq_true hnw] at c2
  have hz1 : ∀ n : Nat, List.replicate ((n : Nat) : Int).toNat (zeroE T t_int) = (List.replicate n (0 : Int)).map i64 := fun n => by rw [Int.toNat_natCast, List.map_replicate]; rfl
  have hz2 : ∀ n : Nat, List.replicate ((n : Nat) : Int).toNat (zeroE T t_bool) = (List.replicate n false).map AV.bool := fun n => by rw [Int.toNat_natCast, List.map_replicate]; rfl
  have hz3 : ∀ n : Nat, List.replicate ((n : Nat) : Int).toNat (zeroE T t_uint8) = (List.replicate n 0).map u8 := fun n => by rw [Int.toNat_natCast, List.map_replicate]; rfl
  rw [h] at c1
  unfold hsL newH
  generalize (ofF r).1 = c at *
  generalize c.H / c.G = g at *
  generalize hnp : c.H / c.Pg = np at *
  refine Told.cell (b := 0) (j := 16) (L' := [.var (.agg [i64 c.G, i64 c.N, i64 c.M, i64 c.L, i64 c.Pg, i64 c.P, i64 c.H, i64 c.Sd, i64 c.G, .lst t_api_Tree (tL g (c.L + 1) offB), .lst t_api_Mark [], .mp 1, i64 0, i64 0, i64 0, .ref 2, .ref 4, .ref 3]), .map t_heap_start [], .row t_int ((List.replicate np (0 : Int)).map i64), .row t_uint8 ((List.replicate c.H 0).map u8), .row t_bool ((List.replicate np false).map .bool)]) ?_ ?_
  · unfold eR eC eE at *
    refine told_of_ev (fn := heap_New_fn) tabOk mixed (by kernel_rfl) (by kernel_rfl) (by kernel_rfl) (by kernel_rfl) ?_
    (refine gw ?_; refine Choice.mk ⟨false, Choice.mk ⟨false, _, _, c1, ?_⟩⟩)
    (refine gw ?_)
    rw [hdiv]
    refine Room.mk (by omega) ?_
    (refine gw ?_)
    refine Room.mk (by omega) ?_
    (refine gw ?_)
    refine Room.mk (by omega) ?_
    rw [← hdiv2] at c2
    (refine gw ?_)
    (refine gw ?_; refine Choice.mk ⟨false, Choice.mk ⟨false, _, _, c2, ?_⟩⟩)
    (refine gw ?_)
    rw [← hz1 np, show (List.replicate np false).map AV.bool = List.replicate ((c.H : Int).tdiv (c.Pg : Nat)).toNat (zeroE T t_bool) by rw [hdiv]; exact (hz2 np).symm, ← hz3 c.H]
    exact RetN.mk ⟨[6, 2, 3, 5, 4], rfl, rfl, rfl⟩
  · intro k
    match k with
    | 0 => rfl
    | 1 => rfl
    | 2 => rfl
    | 3 => rfl
    | 4 => rfl
    | k + 5 => rfl
end Go.Ev.W
namespace Go.Ev.W
open Go.Ev Go.Ev.N

theorem clone_int (es : List AV) (hl : es.length ≤ 1000000) : Told P T slices_Clone_int_int [] [.lst t_int es] (.ref 0) [.row t_int es] := by
  refine told_of_ev (fn := slices_Clone_int_int_fn) tabOk mixed (by kernel_rfl) (by kernel_rfl) (by kernel_rfl) (by kernel_rfl) ?_
  refine AnyB.mk (fun b hb => ?_)
  refine IfB.mk (fun h1 => ?_) (fun h1 => ?_)
  · obtain rfl := hb h1
    exact RetN.mk ⟨[1], rfl, rfl, rfl⟩
  · refine Room.mk (by first | omega | (simp; omega) | (simp; done)) ?_
    exact RetN.mk ⟨[2], rfl, rfl, rfl⟩
theorem setS_new {x : Bk} : ∀ {ds : List Bk}, x.a ∉ ds.map (·.a) → setS x ds = ds ++ [x]
  | [], _ => rfl
  | z :: ds, h => by
    simp only [List.map_cons, List.mem_cons, not_or] at h
    unfold setS
    rw [if_neg h.1, setS_new h.2]; rfl
/-- A heap behind four other blocks. -/
def hpV4 (c : Cf) (g cl : Nat) (s : Hs) : AV :=
  .agg [i64 c.G, i64 c.N, i64 c.M, i64 c.L, i64 c.Pg, i64 c.P, i64 c.H, i64 c.Sd, i64 c.G, .lst t_api_Tree (tL g cl s.b), .lst t_api_Mark (s.m.map encM), .mp 5, i64 s.live, i64 s.peak, i64 s.mark, .ref 6, .lst t_bool (s.on.map .bool), .ref 7]
def hsL4 (c : Cf) (g cl : Nat) (s : Hs) : List Blk := [.var (hpV4 c g cl s), .map t_heap_start (encS s.ds), .row t_int (s.met.map i64), .row t_uint8 (s.mem.map u8)]
theorem hpCopyN_told : Told P T heap_Heap_Copy [] [.npt] .npt [] := by
  refine told_of_ev (fn := heap_Heap_Copy_fn) tabOk mixed (by kernel_rfl) (by kernel_rfl) (by kernel_rfl) (by kernel_rfl) ?_
  (refine gw ?_; exact RetN.mk ⟨[], rfl, rfl, rfl⟩)
set_option maxRecDepth 20000 in
set_option maxHeartbeats 4000000 in
theorem hpCopy_told {c : Cf} {g cl : Nat} {s : Hs} (h : HsOk c g cl s) (bs : List Bk) (hl : bs.length = s.m.length) (hl2 : s.m.length ≤ 65536) (hb : ∀ k (h : k < s.m.length) (h2 : k < bs.length), getS (s.m[k]).at' s.ds = some bs[k]) (hnd : (bs.map (·.a)).Nodup) :
    Told P T heap_Heap_Copy (hsL c g cl s) [.ptr 0 0 0] (.ptr 4 0 0) (hsL c g cl s ++ hsL4 c g cl { s with ds := bs } ++ [.fz t_bool (s.on.map .bool)]) := by
  have c1 := hpBlocks_told (c := c) (g := g) (cl := cl) bs hl hl2 hb
  have hH := h.ok.h2
  have hml2 : s.met.length ≤ 65536 := by have := h.met; have : c.H / c.Pg ≤ c.H := Nat.div_le_self _ _; omega
  have hmeml := h.mem
  have hon := h.on
  have c2 := clone_int (s.met.map i64) (by simp; omega)
  have c3 := clone_bool (s.on.map .bool) (by simp; omega)
  have c4 := clone_byte (s.mem.map u8) (by simp; omega)
  have hbl : (bs.map eB).length = bs.length := by simp
  unfold hsL hsL4 hpL hpV hpV4 lK at *
  refine Told.cell (b := 4) (j := 16) (L' := [.var (hpV c g cl s.b s.m s.live s.peak s.mark s.on), .map t_heap_start (encS s.ds), .row t_int (s.met.map i64), .row t_uint8 (s.mem.map u8), .var (.agg [i64 c.G, i64 c.N, i64 c.M, i64 c.L, i64 c.Pg, i64 c.P, i64 c.H, i64 c.Sd, i64 c.G, .lst t_api_Tree (tL g cl s.b), .lst t_api_Mark (s.m.map encM), .mp 5, i64 s.live, i64 s.peak, i64 s.mark, .ref 6, .ref 8, .ref 7]), .map t_heap_start (encS bs), .row t_int (s.met.map i64), .row t_uint8 (s.mem.map u8), .row t_bool (s.on.map .bool)]) ?_ ?_
  · unfold hpV
    refine told_of_ev (fn := heap_Heap_Copy_fn) tabOk mixed (by kernel_rfl) (by kernel_rfl) (by kernel_rfl) (by kernel_rfl) ?_
    (refine gw ?_; refine Choice.mk ⟨false, Choice.mk ⟨true, _, _, c1, Need.mk rfl ?_⟩⟩)
    (refine gw ?_)
    (refine gw ?_; refine LoopN.mk ⟨[0,3,14,15,16], fun vs L => ∃ k : Nat, vs = [.ptr 0 0 0, .ptr 4 0 0, .lst t_api_Block (bs.map eB), i64 (bs.map eB).length, i64 k] ∧ L = hpL c g cl s.b s.m s.live s.peak s.mark s.on s.ds s.met s.mem ++ [.var (.agg [i64 c.G, i64 c.N, i64 c.M, i64 c.L, i64 c.Pg, i64 c.P, i64 c.H, i64 c.Sd, i64 c.G, .lst t_api_Tree (tL g cl s.b), .lst t_api_Mark (s.m.map encM), .mp 5, i64 s.live, i64 s.peak, i64 s.mark, .ref 2, .lst t_bool (s.on.map .bool), .ref 3]), .map t_heap_start (encS (bs.take k))] ∧ k ≤ bs.length, fun vs L => match vs with | [_, _, _, _, .int _ i] => bs.length - i.toNat | _ => 0, [], [4,10], rfl, ⟨0, rfl, rfl, by omega⟩, ?_⟩)
    rintro vs L ⟨k, rfl, rfl, hk⟩
    by_cases hkl : k < bs.length
    · have hms := mset_encS bs[k] (bs.take k)
      have hnk : bs[k].a ∉ (bs.take k).map (·.a) := by
        intro q
        obtain ⟨z, hz, he⟩ := List.mem_map.1 q
        obtain ⟨i, hi, rfl⟩ := List.getElem_of_mem hz
        rw [List.length_take] at hi
        rw [List.getElem_take] at he
        have e := List.pairwise_iff_getElem.1 hnd i k (by simp; omega) (by simp; omega) (by omega)
        simp only [List.getElem_map] at e
        exact e he
      rw [setS_new hnk, ← List.take_succ_eq_append_getElem hkl] at hms
      unfold hpL hpV
      (refine gw ?_; refine IfB.tt (by rw [hbl]; simp; omega) ?_)
      (refine gw ?_; refine idx_map (hkl) ?_)
      (refine gw ?_; refine ⟨[], [4,5], rfl, ⟨k + 1, rfl, by rw [← hms]; rfl, hkl⟩, (by omega : bs.length - ((k : Int) + 1).toNat < bs.length - (k : Int).toNat)⟩)
    · obtain rfl : k = bs.length := by omega
      rw [List.take_length]
      unfold hpL hpV
      (refine gw ?_)
      refine Choice.mk ⟨false, Choice.mk ⟨true, ?_⟩⟩
      refine ⟨_, _, c2, Need.mk ?_ ?_⟩
      · exact scal_row _ _ fun x hx => by
          obtain ⟨v, _, rfl⟩ := List.mem_map.1 hx
          rfl
      (refine gw ?_)
      refine Choice.mk ⟨false, Choice.mk ⟨true, ?_⟩⟩
      refine ⟨_, _, c3, Need.mk ?_ ?_⟩
      · exact scal_row _ _ fun x hx => by
          obtain ⟨v, _, rfl⟩ := List.mem_map.1 hx
          rfl
      (refine gw ?_)
      refine Choice.mk ⟨false, Choice.mk ⟨true, ?_⟩⟩
      refine ⟨_, _, c4, Need.mk ?_ ?_⟩
      · exact scal_row _ _ fun x hx => by
          obtain ⟨v, _, rfl⟩ := List.mem_map.1 hx
          rfl
      (refine gw ?_)
      exact RetN.mk ⟨[4, 5, 6, 8, 7], rfl, rfl, rfl⟩
  · intro k
    match k with
    | 0 => rfl
    | 1 => rfl
    | 2 => rfl
    | 3 => rfl
    | 4 => rfl
    | 5 => rfl
    | 6 => rfl
    | 7 => rfl
    | 8 => rfl
    | k + 9 => rfl
end Go.Ev.W
namespace Go.Ev.W
open Go.Ev Go.Ev.N

/-- A heap lies as the plain one says. -/
structure Hr (m : Mo) (s : Hs) : Prop where
  b : Hb m.c m.bs s.b s.m s.ds s.met
  live : s.live = m.live
  peak : s.peak = m.peak
  mark : s.mark = m.mark
  on : s.on = m.on
  mem : s.mem = m.mem
theorem Hr.ok {m : Mo} {s : Hs} (h : Hr m s) (hm : MoOk m) : HsOk m.c (m.c.H / m.c.G) (m.c.L + 1) s := by
  have hl := hm.l
  have hlM := hm.lM
  have ht := totalB_nonneg hm.a
  have hMH : m.c.M ≤ m.c.H := by have := hm.c.h; omega
  have hH := hm.c.h2
  exact h.b.ok hm.c hm.a hm.z (by rw [h.on]; exact hm.o) (by rw [h.mem]; exact hm.mm) (by rw [h.live]; omega)
theorem pagesF_met {c : Cf} {l : List Bk} {b : Nat → Bool} {m : List M} {ds : List Bk} {met : List Int} (h : Hb c l b m ds met) : pagesF met = metF c.Pg c.H l := by
  rw [h.met]
  unfold pagesF metF
  rw [List.map_map]
  refine List.map_congr_left fun i _ => ?_
  show decide (nmet c.Pg l i > 0) = _
  unfold nmet
  apply Bool.eq_iff_iff.2
  rw [decide_eq_true_eq, List.any_eq_true]
  have : (((l.countP fun k => ovr (i * c.Pg : Nat) c.Pg k.a k.c : Nat) : Int) > 0) ↔ 0 < l.countP fun k => ovr (i * c.Pg : Nat) c.Pg k.a k.c := by omega
  rw [this, List.countP_pos_iff]
theorem puts_rel {m : Mo} {l : List Bk} {s : Hs} (hc : m.c.Ok) (ha : ApB m.c.H l) (hz : ∀ x ∈ l, SzB m.c x) (hb : Hb m.c l s.b s.m s.ds s.met) (h1 : s.live = totalB l) (h2 : s.peak = m.peak) (h3 : s.mark = m.mark) (h4 : s.on = m.on) (h5 : s.mem = m.mem) {k : Nat} (hk : k ≤ m.c.L) (q : Int) :
    (putsF m.c (m.c.H / m.c.G) (m.c.L + 1) s k q).2 = (placeF m l (m.c.G * 2 ^ k) q).2 ∧ ((placeF m l (m.c.G * 2 ^ k) q).2.2 = 0 → Hr (placeF m l (m.c.G * 2 ^ k) q).1 (putsF m.c (m.c.H / m.c.G) (m.c.L + 1) s k q).1) := by
  have hlow := hb.low hc ha hz hk
  have hpm := pagesF_met hb
  unfold putsF placeF
  rw [hlow]
  cases hi : lowS (m.c.H / m.c.G) (m.c.L + 1) s.b k with
  | none => exact ⟨rfl, fun h => by simp at h⟩
  | some i =>
    have hput := hb.put hc ha hz hk hi q
    obtain ⟨k', ek, hkc, hik, hup, _⟩ := lowS_lt hc.sl hi
    have ek : k' = k := by omega
    subst ek
    have hn : i * 2 ^ k' * m.c.G = i * (m.c.G * 2 ^ k') := by rw [Nat.mul_assoc, Nat.mul_comm m.c.G]
    have hf := (hb.free hc ha hz hk hik).1 hup
    have hg := hc.gpos
    have hn1 : 1 ≤ m.c.G * 2 ^ k' := Nat.mul_pos (by omega) (Nat.two_pow_pos _)
    have hbd := sz_bound hc.sl (G := m.c.G) (by rw [hc.gG]; exact hc.h2) hkc hik
    have hnH : i * (m.c.G * 2 ^ k') + m.c.G * 2 ^ k' ≤ m.c.H := by
      have : (i * 2 ^ k' + 2 ^ k') * m.c.G ≤ m.c.H / m.c.G * m.c.G := Nat.mul_le_mul_right _ hbd.1
      rw [hc.gG, Nat.add_mul, Nat.mul_comm (2 ^ k'), hn] at this
      omega
    obtain ⟨_, _, p3, _⟩ := putB_ok ha (b := ⟨(i * (m.c.G * 2 ^ k') : Nat), (m.c.G * 2 ^ k' : Nat), q⟩) hf ⟨by simp only; omega, by simp only; omega, by simp only; omega⟩
    simp only
    rw [hn, hpm, h4]
    rw [if_neg (show ¬ (true = false) by decide)]
    generalize commitF m.on (metF m.c.Pg m.c.H l) (i * (m.c.G * 2 ^ k') / m.c.Pg) ((i * (m.c.G * 2 ^ k') + m.c.G * 2 ^ k' - 1) / m.c.Pg + 1) m.c.P = co at *
    by_cases hco : co.2.2 = false
    · rw [if_pos hco, if_pos hco]
      exact ⟨rfl, fun h => by simp at h⟩
    · rw [if_neg hco, if_neg hco]
      refine ⟨rfl, fun _ => ⟨hput, ?_, ?_, ?_, rfl, ?_⟩⟩
      · show s.live + _ = totalB (putB l _)
        rw [p3, h1]
      · show max s.peak (s.live + _) = max m.peak (totalB (putB l _))
        rw [p3, h1, h2]
      · show max s.mark _ = max m.mark _
        rw [h3]; congr 1
      · show co.2.1.foldl _ s.mem = co.2.1.foldl _ m.mem
        rw [h5]
theorem log_ch {c : Cf} (hc : c.Ok) {ch k : Nat} (h : ch = c.G * 2 ^ k) : Nat.log2 (ch / c.G) = k := by
  have := hc.gpos
  rw [h, Nat.mul_div_cancel_left _ (by omega), Nat.log2_two_pow]
/-- Something new, or moved. -/
theorem giv_rel {m : Mo} {l : List Bk} {s : Hs} (hc : m.c.Ok) (ha : ApB m.c.H l) (hz : ∀ x ∈ l, SzB m.c x) (hb : Hb m.c l s.b s.m s.ds s.met) (h1 : s.live = totalB l) (h2 : s.peak = m.peak) (h3 : s.mark = m.mark) (h4 : s.on = m.on) (h5 : s.mem = m.mem) {ch : Nat} (hch : ∃ k, k ≤ m.c.L ∧ ch = m.c.G * 2 ^ k) (q : Int) :
    (givH m.c (m.c.H / m.c.G) (m.c.L + 1) s (ch, 0) q).2 = (if (placeF m l ch q).2.2 ≠ 0 then anE (placeF m l ch q).2.2 else { an0 with at' := (placeF m l ch q).2.1 }) ∧ ((placeF m l ch q).2.2 = 0 → Hr (placeF m l ch q).1 (givH m.c (m.c.H / m.c.G) (m.c.L + 1) s (ch, 0) q).1) ∧ ((placeF m l ch q).2.2 ≠ 0 → (givH m.c (m.c.H / m.c.G) (m.c.L + 1) s (ch, 0) q).1 = s) := by
  obtain ⟨k, hk, rfl⟩ := hch
  have h := puts_rel hc ha hz hb h1 h2 h3 h4 h5 hk q
  have hno := putsF_no (c := m.c) (g := m.c.H / m.c.G) (cl := m.c.L + 1) (s := s) (k := k) (q := q)
  have h0 : (placeF m l (m.c.G * 2 ^ k) q).2.2 ≠ 0 → (placeF m l (m.c.G * 2 ^ k) q).2.1 = 0 := by
    unfold placeF
    simp only
    split
    · exact fun _ => rfl
    · split
      · exact fun _ => rfl
      · exact fun h => absurd rfl h
  unfold givH
  rw [if_neg (by simp)]
  simp only
  rw [log_ch hc rfl]
  obtain ⟨e, h⟩ := h
  rw [e] at hno ⊢
  refine ⟨?_, h, hno⟩
  by_cases hp : (placeF m l (m.c.G * 2 ^ k) q).2.2 = 0
  · rw [if_neg (by simpa using hp), hp]; rfl
  · rw [if_pos hp, h0 hp]; rfl
theorem findB_getS {l : List Bk} {y : Int} : getS y l = (findB l y).map fun i => l.getD i bk0 := by
  induction l with
  | nil => rfl
  | cons x l ih =>
    have e : findB (x :: l) y = if x.a = y then some 0 else (findB l y).map (· + 1) := by
      unfold findB
      rw [List.findIdx?_cons]
      by_cases h : x.a = y
      · rw [if_pos h, decide_eq_true h]; rfl
      · rw [if_neg h, decide_eq_false h]; rfl
    rw [e]
    show (if y = x.a then some x else getS y l) = _
    by_cases h : x.a = y
    · rw [if_pos h, if_pos h.symm]; rfl
    · rw [if_neg h, if_neg fun q => h q.symm, ih]
      cases findB l y <;> rfl
theorem drop_rel {m : Mo} {s : Hs} (hm : MoOk m) (h : Hr m s) {i : Nat} (hi : i < m.bs.length) {y n : Nat} (hy : m.bs[i].a = y) (hn : m.bs[i].c = n) :
    Hb m.c (dropB m.bs i) (goneF m.c s y n).b (goneF m.c s y n).m (goneF m.c s y n).ds (goneF m.c s y n).met ∧ (goneF m.c s y n).live = totalB (dropB m.bs i) ∧ HsOk m.c (m.c.H / m.c.G) (m.c.L + 1) (goneF m.c s y n) := by
  have hds := dropB_sub m.bs i
  have had := hm.a.sub hds
  have hdt := dropB_tot hi
  have hdn := totalB_nonneg had
  have hb := h.b.drop hm.c hm.a hm.z hi hy hn
  have hl : (goneF m.c s y n).live = totalB (dropB m.bs i) := by
    show s.live - n = _
    rw [h.live, hm.l, hdt, hn]
  refine ⟨hb, hl, hb.ok hm.c had (fun x hx => hm.z x (hds.subset hx)) ?_ ?_ ?_⟩
  · show s.on.length = _
    rw [h.on]; exact hm.o
  · show s.mem.length = _
    rw [h.mem]; exact hm.mm
  · rw [hl]
    have := had.tot
    have := hm.c.h2
    omega
theorem Hr.do_ok {m : Mo} {s : Hs} (h : Hr m s) (hm : MoOk m) {o : X.O} (ho : OpOk o) : DoOk m.c (m.c.H / m.c.G) (m.c.L + 1) s o := by
  have hH := hm.c.h2
  refine ⟨h.ok hm, fun r hr he => ?_, fun x hx => ?_⟩
  · rw [h.live] at hr ⊢
    by_cases hM : (manyF m.c m.live o.n o.s).2 = 0
    · obtain ⟨m1, m2, m3, m4, m5⟩ := manyF_ok hm.c hM
      have hp := prodF_ok (c := m.c) (n := o.n) (s := o.s) (by
        unfold manyF at hM
        split at hM
        · rename_i h1; exact absurd hM h1
        · rename_i h1; simpa using h1)
      have hg := giv_rel (m := m) hm.c hm.a hm.z h.b (by rw [h.live, hm.l]) h.peak h.mark h.on h.mem m1 (prodF m.c o.n o.s).1
      have hpair : ((manyF m.c m.live o.n o.s).1, 0) = manyF m.c m.live o.n o.s := Prod.ext rfl hM.symm
      rw [hpair, ← hr] at hg
      obtain ⟨g1, g2, _⟩ := hg
      have hp0 : (placeF m m.bs (manyF m.c m.live o.n o.s).1 ((prodF m.c o.n o.s).1 : Nat)).2.2 = 0 := by
        apply Decidable.byContradiction
        intro hp0
        rw [if_pos hp0] at g1
        rw [g1] at he
        exact hp0 he
      have hq : ((prodF m.c o.n o.s).1 : Int) = o.n * o.s := hp.2.2.2
      have hput := placeF_ok hm hm.a hm.z m1 (q := ((prodF m.c o.n o.s).1 : Nat)) (by rw [hq]; exact ⟨m2, m3⟩) (by rw [← hm.l]; exact m4) hm.k.1 hp0
      rw [if_neg (by simpa using hp0)] at g1
      have e1 : r.2.at' = (placeF m m.bs (manyF m.c m.live o.n o.s).1 ((prodF m.c o.n o.s).1 : Nat)).2.1 := by rw [g1]
      have e2 := (g2 hp0).mem
      have e3 := hput.ml
      have e4 := hput.y0
      have e5 := hput.yH
      have e6 := hm.mm
      rw [e1, e2]
      exact ⟨by omega, by omega, by omega⟩
    · unfold givH at hr
      rw [if_pos hM] at hr
      rw [hr] at he
      exact absurd he hM
  · rw [h.b.ds, findB_getS] at hx
    cases hf : findB m.bs o.p with
    | none => rw [hf] at hx; cases hx
    | some i =>
      rw [hf] at hx
      obtain ⟨hi, hia⟩ := findB_lt hf
      have hgd : m.bs.getD i bk0 = m.bs[i] := by simp [List.getD_eq_getElem?_getD, hi]
      have hx : m.bs.getD i bk0 = x := by simpa using hx
      rw [hgd] at hx
      have hb := hm.a.b _ (List.getElem_mem hi)
      have hdt := dropB_tot hi
      have hds := dropB_sub m.bs i
      have had := hm.a.sub hds
      have hdn := totalB_nonneg had
      obtain ⟨d1, d2, d3⟩ := drop_rel hm h hi (y := m.bs[i].a.toNat) (n := m.bs[i].c.toNat) (by omega) (by omega)
      have hl := hm.l
      refine ⟨m.bs[i].a.toNat, m.bs[i].c.toNat, ?_, d3, by omega, by omega, by rw [h.live]; omega, fun hN r hr he => ?_⟩
      · rw [show ((m.bs[i].a.toNat : Nat) : Int) = m.bs[i].a by omega, show ((m.bs[i].c.toNat : Nat) : Int) = m.bs[i].c by omega, hx]
      · have hlc : s.live - ((m.bs[i].c.toNat : Nat) : Int) = m.live - m.bs[i].c := by rw [h.live]; omega
        rw [hlc] at hr hN ⊢
        obtain ⟨m1, m2, m3, m4⟩ := newF_ok hm.c hN
        have hg := giv_rel (m := m) hm.c had (fun x hx => hm.z x (hds.subset hx)) d1 d2 h.peak h.mark h.on h.mem m1 o.s
        rw [← hr] at hg
        obtain ⟨g1, g2, _⟩ := hg
        have hp0 : (placeF m (dropB m.bs i) (newF m.c (m.live - m.bs[i].c) o.s 1).1 o.s).2.2 = 0 := by
          apply Decidable.byContradiction
          intro hp0
          rw [if_pos hp0] at g1
          rw [g1] at he
          exact hp0 he
        have hput := placeF_ok hm had (fun x hx => hm.z x (hds.subset hx)) m1 (q := o.s) ⟨m2, m3⟩ (by rw [hdt, ← hl]; exact m4) (fun x hx => hm.k.1 x (hds.subset hx)) hp0
        rw [if_neg (by simpa using hp0)] at g1
        have e1 : r.2.at' = (placeF m (dropB m.bs i) (newF m.c (m.live - m.bs[i].c) o.s 1).1 o.s).2.1 := by rw [g1]
        have e2 := (g2 hp0).mem
        have e3 := hput.ml
        have e4 := hput.y0
        have e5 := hput.yH
        have e6 := hm.mm
        rw [e1, e2]
        exact ⟨by omega, by omega, by omega⟩
end Go.Ev.W
namespace Go.Ev.W
open Go.Ev Go.Ev.N

theorem Hr.refl2 {m : Mo} {s : Hs} (h : Hr m s) {m' : Mo} {s' : Hs} (hm : m' = m) (hs : s' = s) : Hr m' s' := by rw [hm, hs]; exact h
/-- Each call is told what the plain one is, and a heap lies on as it says. -/
theorem Hr.do {m : Mo} {s : Hs} (h : Hr m s) (hm : MoOk m) {o : X.O} (ho : OpOk o) :
    (doH m.c (m.c.H / m.c.G) (m.c.L + 1) s o).2 = (doF m o).2 ∧ Hr (doF m o).1 (doH m.c (m.c.H / m.c.G) (m.c.L + 1) s o).1 := by
  have new : ∀ a : Int, (givH m.c (m.c.H / m.c.G) (m.c.L + 1) s (newF m.c s.live o.s a) o.s).2 = (if (newF m.c m.live o.s a).2 ≠ 0 then (m, anE (newF m.c m.live o.s a).2) else if (placeF m m.bs (newF m.c m.live o.s a).1 o.s).2.2 ≠ 0 then (m, anE (placeF m m.bs (newF m.c m.live o.s a).1 o.s).2.2) else ((placeF m m.bs (newF m.c m.live o.s a).1 o.s).1, { an0 with at' := (placeF m m.bs (newF m.c m.live o.s a).1 o.s).2.1 })).2 ∧
      Hr (if (newF m.c m.live o.s a).2 ≠ 0 then (m, anE (newF m.c m.live o.s a).2) else if (placeF m m.bs (newF m.c m.live o.s a).1 o.s).2.2 ≠ 0 then (m, anE (placeF m m.bs (newF m.c m.live o.s a).1 o.s).2.2) else ((placeF m m.bs (newF m.c m.live o.s a).1 o.s).1, { an0 with at' := (placeF m m.bs (newF m.c m.live o.s a).1 o.s).2.1 })).1 (givH m.c (m.c.H / m.c.G) (m.c.L + 1) s (newF m.c s.live o.s a) o.s).1 := by
    intro a
    rw [h.live]
    by_cases hN : (newF m.c m.live o.s a).2 = 0
    · obtain ⟨m1, _⟩ := newF_ok hm.c hN
      have hg := giv_rel (m := m) hm.c hm.a hm.z h.b (by rw [h.live, hm.l]) h.peak h.mark h.on h.mem m1 o.s
      have hpair : ((newF m.c m.live o.s a).1, 0) = newF m.c m.live o.s a := Prod.ext rfl hN.symm
      rw [hpair] at hg
      obtain ⟨g1, g2, g3⟩ := hg
      rw [if_neg (by simpa using hN)]
      by_cases hp : (placeF m m.bs (newF m.c m.live o.s a).1 o.s).2.2 = 0
      · rw [if_neg (by simpa using hp)] at g1 ⊢
        exact ⟨g1, g2 hp⟩
      · rw [if_pos hp] at g1 ⊢
        rw [g3 hp]
        exact ⟨g1, h⟩
    · rw [if_pos hN]
      unfold givH
      rw [if_pos hN]
      exact ⟨rfl, h⟩
  by_cases h1 : o.k = 1
  · have := new 1
    have e : (doF m o) = (if (newF m.c m.live o.s 1).2 ≠ 0 then (m, anE (newF m.c m.live o.s 1).2) else if (placeF m m.bs (newF m.c m.live o.s 1).1 o.s).2.2 ≠ 0 then (m, anE (placeF m m.bs (newF m.c m.live o.s 1).1 o.s).2.2) else ((placeF m m.bs (newF m.c m.live o.s 1).1 o.s).1, { an0 with at' := (placeF m m.bs (newF m.c m.live o.s 1).1 o.s).2.1 })) := by
      unfold doF giveF
      rw [if_pos (.inl h1)]
      simp only [h1, if_neg (show ¬ (1 : Int) = 2 by decide), if_neg (show ¬ (1 : Int) = 3 by decide)]
    unfold doH
    rw [if_pos h1, e]
    exact this
  by_cases h2 : o.k = 2
  · unfold doH doF giveF
    rw [if_neg h1, if_pos h2, if_pos (.inr (.inr h2))]
    simp only [h2, if_true]
    unfold callH
    rw [h.live]
    by_cases hM : (manyF m.c m.live o.n o.s).2 = 0
    · obtain ⟨m1, _⟩ := manyF_ok hm.c hM
      have hq := prodF_ok (c := m.c) (n := o.n) (s := o.s) (by
        unfold manyF at hM
        split at hM
        · rename_i h1; exact absurd hM h1
        · rename_i h1; simpa using h1)
      have hg := giv_rel (m := m) hm.c hm.a hm.z h.b (by rw [h.live, hm.l]) h.peak h.mark h.on h.mem m1 (prodF m.c o.n o.s).1
      have hpair : ((manyF m.c m.live o.n o.s).1, 0) = manyF m.c m.live o.n o.s := Prod.ext rfl hM.symm
      rw [hpair, hq.2.2.2] at hg
      obtain ⟨g1, g2, g3⟩ := hg
      rw [if_neg (show ¬ (manyF m.c m.live o.n o.s).2 ≠ 0 by simpa using hM), hq.2.2.2]
      generalize hR : givH m.c (m.c.H / m.c.G) (m.c.L + 1) s (manyF m.c m.live o.n o.s) (o.n * o.s) = R at *
      by_cases hp : (placeF m m.bs (manyF m.c m.live o.n o.s).1 (o.n * o.s)).2.2 = 0
      · have hp' : ¬ (placeF m m.bs (manyF m.c m.live o.n o.s).1 (o.n * o.s)).2.2 ≠ 0 := by simpa using hp
        rw [if_neg hp'] at g1 ⊢
        have g2 := g2 hp
        rw [if_pos (show R.2.e = 0 by rw [g1]; rfl), g1]
        refine ⟨rfl, g2.b, g2.live, g2.peak, g2.mark, g2.on, ?_⟩
        show zeroF R.1.mem _ _ = zeroF _ _ _
        rw [g2.mem]
      · rw [if_pos hp] at g1 ⊢
        rw [if_neg (show ¬ R.2.e = 0 by rw [g1]; exact hp)]
        exact ⟨g1, by rw [g3 hp]; exact h⟩
    · rw [if_pos hM]
      unfold givH
      rw [if_pos hM]
      rw [if_neg (show ¬ ((s, anE (manyF m.c m.live o.n o.s).2) : Hs × An).2.e = 0 from hM)]
      exact ⟨rfl, h⟩
  by_cases h3 : o.k = 3
  · have := new o.a
    have e : (doF m o) = (if (newF m.c m.live o.s o.a).2 ≠ 0 then (m, anE (newF m.c m.live o.s o.a).2) else if (placeF m m.bs (newF m.c m.live o.s o.a).1 o.s).2.2 ≠ 0 then (m, anE (placeF m m.bs (newF m.c m.live o.s o.a).1 o.s).2.2) else ((placeF m m.bs (newF m.c m.live o.s o.a).1 o.s).1, { an0 with at' := (placeF m m.bs (newF m.c m.live o.s o.a).1 o.s).2.1 })) := by
      unfold doF giveF
      rw [if_pos (.inr (.inl h3))]
      simp only [h3, if_neg (show ¬ (3 : Int) = 2 by decide), if_true]
    unfold doH
    rw [if_neg h1, if_neg h2, if_pos h3, e]
    exact this
  by_cases hb : o.k = 4 ∨ o.k = 5 ∨ o.k = 6 ∨ o.k = 7 ∨ o.k = 8
  · unfold doH doF
    rw [if_neg h1, if_neg h2, if_neg h3, if_pos hb, if_neg (by omega), if_neg (by omega), if_neg (by omega), if_pos hb, h.b.ds, findB_getS]
    cases hf : findB m.bs o.p with
    | none => exact ⟨rfl, h⟩
    | some i =>
      obtain ⟨hi, hia⟩ := findB_lt hf
      have hgd : m.bs.getD i bk0 = m.bs[i] := by simp [List.getD_eq_getElem?_getD, hi]
      have hbd := hm.a.b _ (List.getElem_mem hi)
      have hdt := dropB_tot hi
      have hds := dropB_sub m.bs i
      have had := hm.a.sub hds
      have hdn := totalB_nonneg had
      have hl := hm.l
      obtain ⟨y, hy⟩ : ∃ y : Nat, m.bs[i].a = y := ⟨m.bs[i].a.toNat, by omega⟩
      obtain ⟨n, hn⟩ : ∃ n : Nat, m.bs[i].c = n := ⟨m.bs[i].c.toNat, by omega⟩
      obtain ⟨d1, d2, d3⟩ := drop_rel hm h hi hy hn
      simp only [Option.map_some]
      unfold ofB onH
      rw [hgd]
      simp only
      rw [hy, hn]
      simp only [Int.toNat_natCast]
      by_cases h4 : o.k = 4
      · rw [if_pos h4, if_pos h4]
        unfold realH
        rw [h.live]
        by_cases hN : (newF m.c (m.live - n) o.s 1).2 = 0
        · obtain ⟨m1, m2, m3, m4⟩ := newF_ok hm.c hN
          simp only [hN, ne_eq, not_true_eq_false, if_false]
          have hg := giv_rel (m := m) hm.c had (fun x hx => hm.z x (hds.subset hx)) d1 d2 h.peak h.mark h.on h.mem m1 o.s
          obtain ⟨g1, g2, g3⟩ := hg
          have hput := placeF_ok hm had (fun x hx => hm.z x (hds.subset hx)) m1 (q := o.s) ⟨m2, m3⟩ (by rw [hdt, ← hl, hn]; exact m4) (fun x hx => hm.k.1 x (hds.subset hx))
          generalize givH m.c (m.c.H / m.c.G) (m.c.L + 1) (goneF m.c s y n) ((newF m.c (m.live - n) o.s 1).1, 0) o.s = R at *
          by_cases hp : (placeF m (dropB m.bs i) (newF m.c (m.live - n) o.s 1).1 o.s).2.2 = 0
          · rw [if_neg (by simpa using hp)] at g1
            have g2 := g2 hp
            have hput := hput hp
            have hy0 := hput.y0
            simp only [hp, not_true_eq_false, if_false]
            rw [if_neg (show ¬ ¬ R.2.e = 0 by rw [g1]; simp [an0])]
            refine ⟨g1, g2.b, g2.live, g2.peak, g2.mark, g2.on, ?_⟩
            show R.1.mem.take _ ++ _ ++ R.1.mem.drop _ = _
            simp only
            rw [g2.mem, h.mem, g1]
            simp only
            have e1 : (placeF m (dropB m.bs i) (newF m.c (m.live - n) o.s 1).1 o.s).2.1.toNat + min n (newF m.c (m.live - n) o.s 1).1 = ((placeF m (dropB m.bs i) (newF m.c (m.live - n) o.s 1).1 o.s).2.1 + min (((newF m.c (m.live - n) o.s 1).1 : Nat) : Int) n).toNat := by omega
            have e2 : ((y : Int) + min (((newF m.c (m.live - n) o.s 1).1 : Nat) : Int) n).toNat = y + min n (newF m.c (m.live - n) o.s 1).1 := by omega
            rw [e1, e2, List.drop_take, Nat.add_sub_cancel_left]
          · rw [if_pos hp] at g1
            simp only [hp, not_false_eq_true, if_true]
            rw [if_pos (show ¬ R.2.e = 0 by rw [g1]; exact hp)]
            refine ⟨g1, ?_, ?_, h.peak, h.mark, h.on, h.mem⟩
            · have hel : m.bs[i] = ⟨(y : Nat), (n : Nat), m.bs[i].q⟩ := by rw [← hy, ← hn]
              exact h.b.undo hm.c hm.a hi hel (by omega)
            · show s.live - n + n = m.live
              rw [h.live]; omega
        · simp only [ne_eq, hN, not_false_eq_true, if_true]
          exact ⟨trivial, h⟩
      rw [if_neg h4, if_neg h4]
      by_cases h5 : o.k = 5
      · rw [if_pos h5, if_pos h5]
        exact ⟨rfl, d1, by show s.live - n = m.live - n; rw [h.live], h.peak, h.mark, h.on, h.mem⟩
      rw [if_neg h5, if_neg h5]
      by_cases h6 : o.k = 6
      · rw [if_pos h6, if_pos h6]
        exact ⟨rfl, h⟩
      rw [if_neg h6, if_neg h6]
      by_cases hbn : o.n < 0 ∨ o.n ≥ n
      · rw [if_pos hbn, if_pos hbn]
        exact ⟨rfl, h⟩
      rw [if_neg hbn, if_neg hbn]
      have e1 : ((y : Int) + o.n).toNat = y + o.n.toNat := by omega
      rw [e1, h.mem]
      by_cases h7 : o.k = 7
      · rw [if_pos h7, if_pos h7]
        exact ⟨rfl, h⟩
      · rw [if_neg h7, if_neg h7]
        exact ⟨rfl, h.b, h.live, h.peak, h.mark, h.on, rfl⟩
  · unfold doH doF
    rw [if_neg h1, if_neg h2, if_neg h3, if_neg hb, if_neg (show ¬ (o.k = 1 ∨ o.k = 3 ∨ o.k = 2) by omega)]
    by_cases h9 : o.k = 9
    · rw [if_pos h9, if_pos h9, pagesF_met h.b, h.on]
      exact ⟨rfl, h.b, h.live, h.peak, h.mark, rfl, h.mem⟩
    · rw [if_neg h9, if_neg h9]
      by_cases h10 : o.k = 10
      · rw [if_pos h10, if_pos h10, h.live, h.peak, h.mark, h.on]
        exact ⟨rfl, h⟩
      · rw [if_neg h10, if_neg h10, if_neg hb]
        exact ⟨rfl, h⟩
theorem newH_rel {r : Rw} (h : (ofF r).2 = 0) : Hr (newM r).1 (newH (ofF r).1) := by
  have hc := (ofF_ok h).1
  unfold newM
  rw [if_neg (by simpa using h)]
  refine ⟨⟨fun x _ => rfl, rfl, fun y => rfl, List.nodup_nil, ?_⟩, rfl, rfl, rfl, rfl, rfl⟩
  show List.replicate _ _ = _
  apply List.ext_getElem (by simp)
  intro i h1 h2
  simp [nmet]
/-- A heap that lies as the plain one says. -/
def hpI (m : Mo) (L : List Blk) : Prop := ∃ s, Hr m s ∧ L = hsL m.c (m.c.H / m.c.G) (m.c.L + 1) s
theorem hpDoI {m : Mo} {s : Hs} (h : Hr m s) (hm : MoOk m) {o : X.O} (ho : OpOk o) : ∃ s', Hr (doF m o).1 s' ∧ Told P T heap_Heap_Do (hsL m.c (m.c.H / m.c.G) (m.c.L + 1) s) [.ptr 0 0 0, X.encO o] (eA (doF m o).2) (hsL (doF m o).1.c ((doF m o).1.c.H / (doF m o).1.c.G) ((doF m o).1.c.L + 1) s') := by
  have h1 := h.do hm ho
  have h2 := hpDo_told (h.do_ok hm ho) ho
  rw [(doF_ok hm ho).2]
  rw [h1.1] at h2
  exact ⟨_, h1.2, h2⟩
theorem Hr.bs {m : Mo} {s : Hs} (h : Hr m s) (hm : MoOk m) : m.bs.length = s.m.length ∧ s.m.length ≤ 65536 ∧ ∀ k (h : k < s.m.length) (h2 : k < m.bs.length), getS (s.m[k]).at' s.ds = some m.bs[k] := by
  have hl : m.bs.length = s.m.length := by rw [h.b.m]; simp
  have := hm.a.len
  have := hm.c.h2
  refine ⟨hl, by omega, fun k h1 h2 => ?_⟩
  have hm1 := h.b.m
  have e : (s.m[k]).at' = m.bs[k].a := by
    simp only [hm1, List.getElem_map]; rfl
  rw [h.b.ds, e]
  exact getS_of hm.a.inj (List.getElem_mem h2) rfl
theorem hpBlocksI {m : Mo} {s : Hs} (h : Hr m s) (hm : MoOk m) : Told P T heap_Heap_Blocks (hsL m.c (m.c.H / m.c.G) (m.c.L + 1) s) [.ptr 0 0 0] (lK m.bs) (hsL m.c (m.c.H / m.c.G) (m.c.L + 1) s) := by
  obtain ⟨h1, h2, h3⟩ := h.bs hm
  exact hpBlocks_told m.bs h1 h2 h3
theorem hpPagesI {m : Mo} {s : Hs} (h : Hr m s) (hm : MoOk m) : Told P T heap_Heap_Pages (hsL m.c (m.c.H / m.c.G) (m.c.L + 1) s) [.ptr 0 0 0] (lT m.on) (hsL m.c (m.c.H / m.c.G) (m.c.L + 1) s) := by
  have h1 := hpOn_told (c := m.c) (g := m.c.H / m.c.G) (cl := m.c.L + 1) (s := s) (by have := (h.ok hm).on; have := (h.ok hm).met; have : m.c.H / m.c.Pg ≤ m.c.H := Nat.div_le_self _ _; have := hm.c.h2; omega)
  rw [h.on] at h1
  exact h1
/-- A copy's row of blocks is the row itself. -/
theorem Hr.copy {m : Mo} {s : Hs} (h : Hr m s) (hm : MoOk m) : Hr m { s with ds := m.bs } := by
  refine ⟨⟨h.b.b, h.b.m, fun y => rfl, ?_, h.b.met⟩, h.live, h.peak, h.mark, h.on, h.mem⟩
  show (m.bs.map (·.a)).Pairwise (· ≠ ·)
  rw [List.pairwise_map]
  exact hm.a.ne
theorem hpCopyI {m : Mo} {s : Hs} (h : Hr m s) (hm : MoOk m) : Told P T heap_Heap_Copy (hsL m.c (m.c.H / m.c.G) (m.c.L + 1) s) [.ptr 0 0 0] (.ptr 4 0 0) (hsL m.c (m.c.H / m.c.G) (m.c.L + 1) s ++ hsL4 m.c (m.c.H / m.c.G) (m.c.L + 1) { s with ds := m.bs } ++ [.fz t_bool (m.on.map .bool)]) := by
  obtain ⟨h1, h2, h3⟩ := h.bs hm
  rw [← h.on]
  exact hpCopy_told (h.ok hm) m.bs h1 h2 h3 (h.copy hm).b.nd
end Go.Ev.W
namespace Go.Ev.W
open Go.Ev Go.Ev.N

def rawF (p : Pk) (bg : Bool) : Rw × Pk :=
  let p1 := p.next 9
  let p2 := p1.next 12
  let p3 := p2.next 150
  let p4 := p3.next 30
  let p5 := p4.next 200
  (⟨1 + p.num 9, (1 + p.num 9) * (1 + p1.num 12), 1 + p2.num 150, 1 + p3.num 30, if bg = true then 5000 else 1 + p5.num 20, p4.num 200⟩, p5.next 20)
theorem rawF_ok {p : Pk} (h : p.Ok) (bg : Bool) : (rawF p bg).2.Ok := by
  have e : (rawF p bg).2 = ((((((p.next 9).next 12).next 150).next 30).next 200).next 20) := by simp only [rawF]
  rw [e]
  exact Pk.Ok.next (Pk.Ok.next (Pk.Ok.next (Pk.Ok.next (Pk.Ok.next (Pk.Ok.next h 9) 12) 150) 30) 200) 20
structure RwS (r : Rw) : Prop where
  g : 1 ≤ r.g ∧ r.g ≤ 9
  l : r.g ≤ r.l ∧ r.l ≤ 108
  m : 1 ≤ r.m ∧ r.m ≤ 150
  p : 1 ≤ r.p ∧ r.p ≤ 30
  b : 1 ≤ r.b ∧ r.b ≤ 5000
  s : 0 ≤ r.s ∧ r.s ≤ 199
theorem rawF_s (p : Pk) (bg : Bool) : RwS (rawF p bg).1 := by
  have a := p.num_lt (m := 9) (by omega)
  have b := (p.next 9).num_lt (m := 12) (by omega)
  have c := ((p.next 9).next 12).num_lt (m := 150) (by omega)
  have d := (((p.next 9).next 12).next 150).num_lt (m := 30) (by omega)
  have e := ((((p.next 9).next 12).next 150).next 30).num_lt (m := 200) (by omega)
  have f := (((((p.next 9).next 12).next 150).next 30).next 200).num_lt (m := 20) (by omega)
  have g1 : (1 + p.num 9) * 1 ≤ (1 + p.num 9) * (1 + (p.next 9).num 12) := Nat.mul_le_mul_left _ (by omega)
  have g2 : (1 + p.num 9) * (1 + (p.next 9).num 12) ≤ 9 * 12 := Nat.mul_le_mul (by omega) (by omega)
  have e1 : ((1 : Int) + (p.num 9 : Nat)) * (1 + ((p.next 9).num 12 : Nat)) = (((1 + p.num 9) * (1 + (p.next 9).num 12) : Nat) : Int) := by
    rw [Int.natCast_mul, Int.natCast_add, Int.natCast_add]; rfl
  unfold rawF
  refine ⟨⟨?_, ?_⟩, ⟨?_, ?_⟩, ⟨?_, ?_⟩, ⟨?_, ?_⟩, ?_, ⟨?_, ?_⟩⟩
  all_goals simp only
  all_goals try rw [e1]
  all_goals first | omega | (split <;> omega)
theorem upN_le' {v k : Nat} (h : v ≤ 2 ^ k) : upN v ≤ 2 ^ k := upN_le h
/-- There is always something of small ones. -/
theorem small_of {r : Rw} (h : RwS r) : (ofF r).2 = 0 ∧ (ofF r).1 = cfOf r ∧ (cfOf r).Ok ∧ (cfOf r).N ≤ 128 ∧ (cfOf r).M ≤ 405 ∧ (cfOf r).L ≤ 7 ∧ (cfOf r).G ≤ 16 ∧ (cfOf r).Pg ≤ 32 := by
  have g := upN_le (v := r.g.toNat) (k := 4) (by have := h.g; omega)
  have g0 := upN_pos r.g.toNat
  have n := upN_le (v := max r.l.toNat (upN r.g.toNat)) (k := 7) (by have := h.l; omega)
  have pg := upN_le (v := max r.p.toNat (upN r.g.toNat)) (k := 5) (by have := h.p; omega)
  have n1 := upN_pos (max r.l.toNat (upN r.g.toNat))
  obtain ⟨q, q1, q2, q3⟩ := rnd_spec (v := r.m.toNat) (t := 2 * max (upN (max r.l.toNat (upN r.g.toNat))) (upN (max r.p.toNat (upN r.g.toNat)))) (by omega)
  have hm := h.m
  obtain ⟨k, hk⟩ := pow_up (v := r.l.toNat) (upN_pow r.g.toNat)
  have hL := log_of g0 hk
  have k7 : k ≤ 7 := by
    have : 1 * 2 ^ k ≤ upN r.g.toNat * 2 ^ k := Nat.mul_le_mul_right _ g0
    have : 2 ^ k ≤ 2 ^ 7 := by omega
    exact (Nat.pow_le_pow_iff_right (a := 2) (by omega)).1 this
  have hM : (cfOf r).M ≤ 405 := by show rnd _ _ ≤ 405; omega
  have hLL : (cfOf r).L ≤ 7 := by show Nat.log2 _ ≤ 7; rw [hL]; exact k7
  have hH : (cfOf r).H ≤ 65536 := by
    show (cfOf r).M + (cfOf r).L * ((cfOf r).M / 2) ≤ 65536
    have : (cfOf r).L * ((cfOf r).M / 2) ≤ 7 * 405 := Nat.mul_le_mul hLL (by omega)
    omega
  have hok : r.ok = true := by
    simp only [Rw.ok, inR, Bool.and_eq_true, decide_eq_true_eq]
    have := h.g; have := h.l; have := h.m; have := h.p; have := h.b; have := h.s
    omega
  have e : ofF r = (cfOf r, 0) := by unfold ofF; rw [if_pos ⟨hok, hH⟩]
  have h0 : (ofF r).2 = 0 := by rw [e]
  refine ⟨h0, by rw [e], ?_, n, hM, hLL, g, pg⟩
  have := (ofF_ok h0).1
  rw [e] at this; exact this

set_option maxHeartbeats 2000000 in
theorem raw_told (p : Pk) (ok : p.Ok) (bg : Bool) : Told P T mk_Picks_Raw [pkB p] [.ptr 0 0 0, .bool bg] (eR (rawF p bg).1) [pkB (rawF p bg).2] := by
  have k1 := ok.next 9
  have k2 := k1.next 12
  have k3 := k2.next 150
  have k4 := k3.next 30
  have k5 := k4.next 200
  have b1 := p.num_lt (m := 9) (by omega)
  have b2 := (p.next 9).num_lt (m := 12) (by omega)
  have b3 := ((p.next 9).next 12).num_lt (m := 150) (by omega)
  have b4 := (((p.next 9).next 12).next 150).num_lt (m := 30) (by omega)
  have b5 := ((((p.next 9).next 12).next 150).next 30).num_lt (m := 200) (by omega)
  have b6 := (((((p.next 9).next 12).next 150).next 30).next 200).num_lt (m := 20) (by omega)
  have g2 : (1 + p.num 9) * (1 + (p.next 9).num 12) ≤ 9 * 12 := Nat.mul_le_mul (by omega) (by omega)
  have e1 : ((1 : Int) + (p.num 9 : Nat)) * (1 + ((p.next 9).num 12 : Nat)) = (((1 + p.num 9) * (1 + (p.next 9).num 12) : Nat) : Int) := by
    rw [Int.natCast_mul, Int.natCast_add, Int.natCast_add]; rfl
  refine told_of_ev (fn := mk_Picks_Raw_fn) tabOk mixed (by kernel_rfl) (by kernel_rfl) (by kernel_rfl) (by kernel_rfl) ?_
  (refine gw ?_; refine Choice.mk ⟨true, Choice.mk ⟨false, _, _, num_told p ok 9 (by omega), ?_⟩⟩)
  (refine gw ?_; refine Choice.mk ⟨true, Choice.mk ⟨false, _, _, num_told _ k1 12 (by omega), ?_⟩⟩)
  (refine gw ?_; refine Choice.mk ⟨true, Choice.mk ⟨false, _, _, num_told _ k2 150 (by omega), ?_⟩⟩)
  (refine gw ?_; refine Choice.mk ⟨true, Choice.mk ⟨false, _, _, num_told _ k3 30 (by omega), ?_⟩⟩)
  (refine gw ?_; refine Choice.mk ⟨true, Choice.mk ⟨false, _, _, num_told _ k4 200 (by omega), ?_⟩⟩)
  (refine gw ?_; refine Choice.mk ⟨true, Choice.mk ⟨false, _, _, num_told _ k5 20 (by omega), ?_⟩⟩)
  cases bg with
  | true => (refine gw ?_; exact RetN.mk ⟨[], rfl, rfl, rfl⟩)
  | false => (refine gw ?_; exact RetN.mk ⟨[], rfl, rfl, rfl⟩)
end Go.Ev.W
namespace Go.Ev.W
open Go.Ev Go.Ev.N

/-- An operation as it is picked. -/
structure OpG (c : Cf) (o : X.O) : Prop where
  k : 1 ≤ o.k ∧ o.k ≤ 10
  p : -3 ≤ o.p ∧ o.p ≤ 65536
  s : -1 ≤ o.s ∧ o.s ≤ (c.N : Int) + 2
  a : 0 ≤ o.a ∧ o.a ≤ 16
  n : 0 ≤ o.n ∧ o.n ≤ 8
  b : 0 ≤ o.b ∧ o.b < 256
  p0 : (4 ≤ o.k ∧ o.k ≤ 8) ∨ o.p = 0
  s0 : o.k ≤ 4 ∨ o.s = 0
  a0 : o.k = 3 ∨ o.a = 0
  n0 : (o.k = 2 ∨ o.k = 7 ∨ o.k = 8) ∨ o.n = 0
  b0 : o.k = 8 ∨ o.b = 0
theorem OpG.ok {c : Cf} (hc : c.Ok) {o : X.O} (h : OpG c o) : OpOk o := by
  have hN := hc.nM
  have hM := hc.mH
  have := h.k; have := h.p; have := h.s; have := h.a; have := h.n
  exact ⟨by omega, by omega, by omega, by omega, by omega, h.b⟩
set_option maxHeartbeats 4000000 in
theorem size_told {c : Cf} (hc : c.Ok) (p : Pk) (ok : p.Ok) : ∃ (v : Int) (p' : Pk), Told P T mk_Picks_Size [pkB p] [.ptr 0 0 0, eC c] (i64 v) [pkB p'] ∧ p'.Ok ∧ -1 ≤ v ∧ v ≤ (c.N : Int) + 2 := by
  have hN := hc.nM
  have hM := hc.mH
  have hL := hc.lL
  have hG := hc.gpos
  have k1 := ok.next 12
  have b1 := p.num_lt (m := 12) (by omega)
  have t1 := num_told p ok 12 (by omega)
  have t2 := num_told _ k1 3 (by omega)
  have b2 := (p.next 12).num_lt (m := 3) (by omega)
  have emax : ∀ a b : Int, max a b = if b > a then b else a := fun a b => by split <;> omega
  generalize hx : p.num 12 = x at *
  rcases (by omega : x = 0 ∨ x = 1 ∨ x = 2 ∨ 3 ≤ x) with h | h | h | h
  · subst h
    refine ⟨0, p.next 12, ?_, k1, by omega, by omega⟩
    refine told_of_ev (fn := mk_Picks_Size_fn) tabOk mixed (by kernel_rfl) (by kernel_rfl) (by kernel_rfl) (by kernel_rfl) ?_
    (refine gw ?_; refine Choice.mk ⟨true, Choice.mk ⟨false, _, _, t1, ?_⟩⟩)
    (refine gw ?_; exact RetN.mk ⟨[], rfl, rfl, rfl⟩)
  · subst h
    refine ⟨(c.N : Int) + ((p.next 12).num 3 : Nat), (p.next 12).next 3, ?_, k1.next 3, by omega, by omega⟩
    refine told_of_ev (fn := mk_Picks_Size_fn) tabOk mixed (by kernel_rfl) (by kernel_rfl) (by kernel_rfl) (by kernel_rfl) ?_
    (refine gw ?_; refine Choice.mk ⟨true, Choice.mk ⟨false, _, _, t1, ?_⟩⟩)
    (refine gw ?_; refine Choice.mk ⟨true, Choice.mk ⟨false, _, _, t2, ?_⟩⟩)
    (refine gw ?_; exact RetN.mk ⟨[], rfl, rfl, rfl⟩)
  · subst h
    refine ⟨-1, p.next 12, ?_, k1, by omega, by omega⟩
    refine told_of_ev (fn := mk_Picks_Size_fn) tabOk mixed (by kernel_rfl) (by kernel_rfl) (by kernel_rfl) (by kernel_rfl) ?_
    (refine gw ?_; refine Choice.mk ⟨true, Choice.mk ⟨false, _, _, t1, ?_⟩⟩)
    (refine gw ?_; exact RetN.mk ⟨[], rfl, rfl, rfl⟩)
  · have b3 := (p.next 12).num_lt (m := c.L + 1) (by omega)
    have k2 := k1.next (c.L + 1)
    have t3 := num_told _ k1 (c.L + 1) (by omega)
    have t4 := num_told _ k2 3 (by omega)
    have b4 := ((p.next 12).next (c.L + 1)).num_lt (m := 3) (by omega)
    have hGN : c.G ≤ 65536 := by have := hc.n; have := Nat.le_mul_of_pos_right c.G (Nat.two_pow_pos c.L); omega
    have t5 := refSize_told c ((p.next 12).num (c.L + 1)) (by omega) hGN
    have hsz : c.G * 2 ^ (p.next 12).num (c.L + 1) ≤ c.N := by
      rw [hc.n]; exact Nat.mul_le_mul_left _ (Nat.pow_le_pow_right (by omega) (by omega))
    generalize c.G * 2 ^ (p.next 12).num (c.L + 1) = z at *
    generalize (p.next 12).num (c.L + 1) = y at *
    refine ⟨max 1 ((z : Int) - (((p.next 12).next (c.L + 1)).num 3 : Nat)), ((p.next 12).next (c.L + 1)).next 3, ?_, k2.next 3, by omega, by omega⟩
    rw [emax]
    refine told_of_ev (fn := mk_Picks_Size_fn) tabOk mixed (by kernel_rfl) (by kernel_rfl) (by kernel_rfl) (by kernel_rfl) ?_
    (refine gw ?_; refine Choice.mk ⟨true, Choice.mk ⟨false, _, _, t1, ?_⟩⟩)
    (refine gw ?_; refine IfB.ff (by simp; omega) ?_)
    (refine gw ?_; refine IfB.ff (by simp; omega) ?_)
    (refine gw ?_; refine IfB.ff (by simp; omega) ?_)
    (refine gw ?_; refine Choice.mk ⟨true, Choice.mk ⟨false, _, _, t3, ?_⟩⟩)
    (refine gw ?_; refine Choice.mk ⟨false, Choice.mk ⟨true, _, _, t5, ?_⟩⟩)
    (refine gw ?_; refine Choice.mk ⟨true, Choice.mk ⟨false, _, _, t4, ?_⟩⟩)
    (refine gw ?_; exact RetN.mk ⟨[], rfl, rfl, rfl⟩)
set_option maxHeartbeats 4000000 in
theorem block_told {H : Nat} (hH : H ≤ 65536) {l : List Bk} (ha : ApB H l) (p : Pk) (ok : p.Ok) : ∃ (v : Int) (p' : Pk), Told P T mk_Picks_Block [pkB p] [.ptr 0 0 0, lK l] (i64 v) [pkB p'] ∧ p'.Ok ∧ -3 ≤ v ∧ v ≤ 65536 := by
  have hml : (l.map eB).length = l.length := by simp
  have hlen := ha.len
  by_cases h0 : l.length = 0
  · have b1 := p.num_lt (m := 200) (by omega)
    refine ⟨(p.num 200 : Nat) - 3, p.next 200, ?_, ok.next 200, by omega, by omega⟩
    refine told_of_ev (fn := mk_Picks_Block_fn) tabOk mixed (by kernel_rfl) (by kernel_rfl) (by kernel_rfl) (by kernel_rfl) ?_
    (refine gw ?_; refine IfB.tt (by rw [hml, h0]; simp) ?_)
    (refine gw ?_; refine Choice.mk ⟨true, Choice.mk ⟨false, _, _, num_told p ok 200 (by omega), ?_⟩⟩)
    (refine gw ?_; exact RetN.mk ⟨[], rfl, rfl, rfl⟩)
  · have k1 := ok.next 12
    by_cases h1 : p.num 12 = 0
    · have b1 := (p.next 12).num_lt (m := 200) (by omega)
      refine ⟨((p.next 12).num 200 : Nat) - 3, (p.next 12).next 200, ?_, k1.next 200, by omega, by omega⟩
      refine told_of_ev (fn := mk_Picks_Block_fn) tabOk mixed (by kernel_rfl) (by kernel_rfl) (by kernel_rfl) (by kernel_rfl) ?_
      (refine gw ?_; refine IfB.ff (by rw [hml]; exact decide_eq_false (by omega)) ?_)
      (refine gw ?_; refine Choice.mk ⟨true, Choice.mk ⟨false, _, _, num_told p ok 12 (by omega), ?_⟩⟩)
      (refine gw ?_; refine IfB.tt (by simp [h1]) ?_)
      (refine gw ?_; refine Choice.mk ⟨true, Choice.mk ⟨false, _, _, num_told _ k1 200 (by omega), ?_⟩⟩)
      (refine gw ?_; exact RetN.mk ⟨[], rfl, rfl, rfl⟩)
    · have b1 := (p.next 12).num_lt (m := l.length) (by omega)
      have hx := ha.b _ (List.getElem_mem b1)
      refine ⟨l[(p.next 12).num l.length].a, (p.next 12).next l.length, ?_, k1.next l.length, by omega, by omega⟩
      have t2 := num_told _ k1 l.length (by omega)
      refine told_of_ev (fn := mk_Picks_Block_fn) tabOk mixed (by kernel_rfl) (by kernel_rfl) (by kernel_rfl) (by kernel_rfl) ?_
      (refine gw ?_; refine IfB.ff (by rw [hml]; exact decide_eq_false (by omega)) ?_)
      (refine gw ?_; refine Choice.mk ⟨true, Choice.mk ⟨false, _, _, num_told p ok 12 (by omega), ?_⟩⟩)
      (refine gw ?_; refine IfB.ff (by simp; omega) ?_)
      (refine gw ?_)
      rw [hml]
      (refine gw ?_; refine Choice.mk ⟨true, Choice.mk ⟨false, _, _, t2, ?_⟩⟩)
      (refine gw ?_; refine idx_map (b1) ?_)
      (refine gw ?_; exact RetN.mk ⟨[], rfl, rfl, rfl⟩)
end Go.Ev.W
namespace Go.Ev.W
open Go.Ev Go.Ev.N

set_option maxRecDepth 20000 in
set_option maxHeartbeats 8000000 in
theorem op_told {c : Cf} (hc : c.Ok) {l : List Bk} (ha : ApB c.H l) (p : Pk) (ok : p.Ok) : ∃ (o : X.O) (p' : Pk), Told P T mk_Picks_Op [pkB p] [.ptr 0 0 0, eC c, lK l] (X.encO o) [pkB p'] ∧ p'.Ok ∧ OpG c o := by
  have hH := hc.h2
  have k1 := ok.next 20
  have b1 := p.num_lt (m := 20) (by omega)
  have t1 := num_told p ok 20 (by omega)
  generalize p.next 20 = p1 at *
  generalize p.num 20 = x at *
  rcases (by omega : x < 6 ∨ x = 6 ∨ x = 7 ∨ (8 ≤ x ∧ x < 11) ∨ (11 ≤ x ∧ x < 14) ∨ x = 14 ∨ (15 ≤ x ∧ x < 17) ∨ x = 17 ∨ x = 18 ∨ x = 19) with h | h | h | h | h | h | h | h | h | h
  · obtain ⟨v, p2, t2, k2, b2⟩ := size_told hc p1 k1
    refine ⟨⟨1, 0, v, 0, 0, 0⟩, p2, ?_, k2, ⟨by simp, by simp, b2, by simp, by simp, by simp, by simp, by simp, by simp, by simp, by simp⟩⟩
    refine told_of_ev (fn := mk_Picks_Op_fn) tabOk mixed (by kernel_rfl) (by kernel_rfl) (by kernel_rfl) (by kernel_rfl) ?_
    (refine gw ?_; refine Choice.mk ⟨true, Choice.mk ⟨false, _, _, t1, ?_⟩⟩)
    (refine gw ?_; refine IfB.tt (by simp; omega) ?_)
    (refine gw ?_; refine Choice.mk ⟨true, Choice.mk ⟨false, _, _, t2, ?_⟩⟩)
    (refine gw ?_; exact RetN.mk ⟨[], rfl, rfl, rfl⟩)
  · obtain ⟨v, p2, t2, k2, b2⟩ := size_told hc (p1.next 4) (k1.next 4)
    have t3 := num_told p1 k1 4 (by omega)
    have b3 := p1.num_lt (m := 4) (by omega)
    subst h
    refine ⟨⟨2, 0, v, 0, (p1.num 4 : Nat), 0⟩, p2, ?_, k2, ⟨by simp, by simp, b2, by simp, by simp only; omega, by simp, by simp, by simp, by simp, by simp, by simp⟩⟩
    refine told_of_ev (fn := mk_Picks_Op_fn) tabOk mixed (by kernel_rfl) (by kernel_rfl) (by kernel_rfl) (by kernel_rfl) ?_
    (refine gw ?_; refine Choice.mk ⟨true, Choice.mk ⟨false, _, _, t1, ?_⟩⟩)
    (refine gw ?_; refine Choice.mk ⟨true, Choice.mk ⟨false, _, _, t3, ?_⟩⟩)
    (refine gw ?_; refine Choice.mk ⟨true, Choice.mk ⟨false, _, _, t2, ?_⟩⟩)
    (refine gw ?_; exact RetN.mk ⟨[], rfl, rfl, rfl⟩)
  · obtain ⟨v, p2, t2, k2, b2⟩ := size_told hc p1 k1
    have t3 := num_told p2 k2 7 (by omega)
    have b3 := p2.num_lt (m := 7) (by omega)
    subst h
    obtain ⟨j, hj⟩ : ∃ j, p2.num 7 = j := ⟨_, rfl⟩
    rw [hj] at t3 b3
    rcases (by omega : j = 0 ∨ j = 1 ∨ j = 2 ∨ j = 3 ∨ j = 4 ∨ j = 5 ∨ j = 6) with h | h | h | h | h | h | h
    · subst h
      refine ⟨⟨3, 0, v, 1, 0, 0⟩, p2.next 7, ?_, k2.next 7, ⟨by simp, by simp, b2, by simp, by simp, by simp, by simp, by simp, by simp, by simp, by simp⟩⟩
      refine told_of_ev (fn := mk_Picks_Op_fn) tabOk mixed (by kernel_rfl) (by kernel_rfl) (by kernel_rfl) (by kernel_rfl) ?_
      (refine gw ?_; refine Choice.mk ⟨true, Choice.mk ⟨false, _, _, t1, ?_⟩⟩)
      (refine gw ?_; refine Choice.mk ⟨true, Choice.mk ⟨false, _, _, t2, ?_⟩⟩)
      (refine gw ?_; refine Choice.mk ⟨true, Choice.mk ⟨false, _, _, t3, ?_⟩⟩)
      (refine gw ?_)
      refine InB.mk (by simp) (by simp) ?_
      (refine gw ?_)
      first | (refine At.mk ⟨_, rfl, ?_⟩) | skip
      (refine gw ?_; exact RetN.mk ⟨[], rfl, rfl, rfl⟩)
    · subst h
      refine ⟨⟨3, 0, v, 2, 0, 0⟩, p2.next 7, ?_, k2.next 7, ⟨by simp, by simp, b2, by simp, by simp, by simp, by simp, by simp, by simp, by simp, by simp⟩⟩
      refine told_of_ev (fn := mk_Picks_Op_fn) tabOk mixed (by kernel_rfl) (by kernel_rfl) (by kernel_rfl) (by kernel_rfl) ?_
      (refine gw ?_; refine Choice.mk ⟨true, Choice.mk ⟨false, _, _, t1, ?_⟩⟩)
      (refine gw ?_; refine Choice.mk ⟨true, Choice.mk ⟨false, _, _, t2, ?_⟩⟩)
      (refine gw ?_; refine Choice.mk ⟨true, Choice.mk ⟨false, _, _, t3, ?_⟩⟩)
      (refine gw ?_)
      refine InB.mk (by simp) (by simp) ?_
      (refine gw ?_)
      first | (refine At.mk ⟨_, rfl, ?_⟩) | skip
      (refine gw ?_; exact RetN.mk ⟨[], rfl, rfl, rfl⟩)
    · subst h
      refine ⟨⟨3, 0, v, 4, 0, 0⟩, p2.next 7, ?_, k2.next 7, ⟨by simp, by simp, b2, by simp, by simp, by simp, by simp, by simp, by simp, by simp, by simp⟩⟩
      refine told_of_ev (fn := mk_Picks_Op_fn) tabOk mixed (by kernel_rfl) (by kernel_rfl) (by kernel_rfl) (by kernel_rfl) ?_
      (refine gw ?_; refine Choice.mk ⟨true, Choice.mk ⟨false, _, _, t1, ?_⟩⟩)
      (refine gw ?_; refine Choice.mk ⟨true, Choice.mk ⟨false, _, _, t2, ?_⟩⟩)
      (refine gw ?_; refine Choice.mk ⟨true, Choice.mk ⟨false, _, _, t3, ?_⟩⟩)
      (refine gw ?_)
      refine InB.mk (by simp) (by simp) ?_
      (refine gw ?_)
      first | (refine At.mk ⟨_, rfl, ?_⟩) | skip
      (refine gw ?_; exact RetN.mk ⟨[], rfl, rfl, rfl⟩)
    · subst h
      refine ⟨⟨3, 0, v, 3, 0, 0⟩, p2.next 7, ?_, k2.next 7, ⟨by simp, by simp, b2, by simp, by simp, by simp, by simp, by simp, by simp, by simp, by simp⟩⟩
      refine told_of_ev (fn := mk_Picks_Op_fn) tabOk mixed (by kernel_rfl) (by kernel_rfl) (by kernel_rfl) (by kernel_rfl) ?_
      (refine gw ?_; refine Choice.mk ⟨true, Choice.mk ⟨false, _, _, t1, ?_⟩⟩)
      (refine gw ?_; refine Choice.mk ⟨true, Choice.mk ⟨false, _, _, t2, ?_⟩⟩)
      (refine gw ?_; refine Choice.mk ⟨true, Choice.mk ⟨false, _, _, t3, ?_⟩⟩)
      (refine gw ?_)
      refine InB.mk (by simp) (by simp) ?_
      (refine gw ?_)
      first | (refine At.mk ⟨_, rfl, ?_⟩) | skip
      (refine gw ?_; exact RetN.mk ⟨[], rfl, rfl, rfl⟩)
    · subst h
      refine ⟨⟨3, 0, v, 0, 0, 0⟩, p2.next 7, ?_, k2.next 7, ⟨by simp, by simp, b2, by simp, by simp, by simp, by simp, by simp, by simp, by simp, by simp⟩⟩
      refine told_of_ev (fn := mk_Picks_Op_fn) tabOk mixed (by kernel_rfl) (by kernel_rfl) (by kernel_rfl) (by kernel_rfl) ?_
      (refine gw ?_; refine Choice.mk ⟨true, Choice.mk ⟨false, _, _, t1, ?_⟩⟩)
      (refine gw ?_; refine Choice.mk ⟨true, Choice.mk ⟨false, _, _, t2, ?_⟩⟩)
      (refine gw ?_; refine Choice.mk ⟨true, Choice.mk ⟨false, _, _, t3, ?_⟩⟩)
      (refine gw ?_)
      refine InB.mk (by simp) (by simp) ?_
      (refine gw ?_)
      first | (refine At.mk ⟨_, rfl, ?_⟩) | skip
      (refine gw ?_; exact RetN.mk ⟨[], rfl, rfl, rfl⟩)
    · subst h
      refine ⟨⟨3, 0, v, 8, 0, 0⟩, p2.next 7, ?_, k2.next 7, ⟨by simp, by simp, b2, by simp, by simp, by simp, by simp, by simp, by simp, by simp, by simp⟩⟩
      refine told_of_ev (fn := mk_Picks_Op_fn) tabOk mixed (by kernel_rfl) (by kernel_rfl) (by kernel_rfl) (by kernel_rfl) ?_
      (refine gw ?_; refine Choice.mk ⟨true, Choice.mk ⟨false, _, _, t1, ?_⟩⟩)
      (refine gw ?_; refine Choice.mk ⟨true, Choice.mk ⟨false, _, _, t2, ?_⟩⟩)
      (refine gw ?_; refine Choice.mk ⟨true, Choice.mk ⟨false, _, _, t3, ?_⟩⟩)
      (refine gw ?_)
      refine InB.mk (by simp) (by simp) ?_
      (refine gw ?_)
      first | (refine At.mk ⟨_, rfl, ?_⟩) | skip
      (refine gw ?_; exact RetN.mk ⟨[], rfl, rfl, rfl⟩)
    · subst h
      refine ⟨⟨3, 0, v, 16, 0, 0⟩, p2.next 7, ?_, k2.next 7, ⟨by simp, by simp, b2, by simp, by simp, by simp, by simp, by simp, by simp, by simp, by simp⟩⟩
      refine told_of_ev (fn := mk_Picks_Op_fn) tabOk mixed (by kernel_rfl) (by kernel_rfl) (by kernel_rfl) (by kernel_rfl) ?_
      (refine gw ?_; refine Choice.mk ⟨true, Choice.mk ⟨false, _, _, t1, ?_⟩⟩)
      (refine gw ?_; refine Choice.mk ⟨true, Choice.mk ⟨false, _, _, t2, ?_⟩⟩)
      (refine gw ?_; refine Choice.mk ⟨true, Choice.mk ⟨false, _, _, t3, ?_⟩⟩)
      (refine gw ?_)
      refine InB.mk (by simp) (by simp) ?_
      (refine gw ?_)
      first | (refine At.mk ⟨_, rfl, ?_⟩) | skip
      (refine gw ?_; exact RetN.mk ⟨[], rfl, rfl, rfl⟩)
  · obtain ⟨v, p2, t2, k2, b2⟩ := block_told hH ha p1 k1
    obtain ⟨w, p3, t3, k3, b3⟩ := size_told hc p2 k2
    refine ⟨⟨4, v, w, 0, 0, 0⟩, p3, ?_, k3, ⟨by simp, b2, b3, by simp, by simp, by simp, by simp, by simp, by simp, by simp, by simp⟩⟩
    refine told_of_ev (fn := mk_Picks_Op_fn) tabOk mixed (by kernel_rfl) (by kernel_rfl) (by kernel_rfl) (by kernel_rfl) ?_
    (refine gw ?_; refine Choice.mk ⟨true, Choice.mk ⟨false, _, _, t1, ?_⟩⟩)
    (refine gw ?_; refine IfB.ff (by simp; omega) ?_)
    (refine gw ?_; refine IfB.ff (by simp; omega) ?_)
    (refine gw ?_; refine IfB.ff (by simp; omega) ?_)
    (refine gw ?_; refine IfB.tt (by simp; omega) ?_)
    (refine gw ?_; refine Choice.mk ⟨true, Choice.mk ⟨false, _, _, t2, ?_⟩⟩)
    (refine gw ?_; refine Choice.mk ⟨true, Choice.mk ⟨false, _, _, t3, ?_⟩⟩)
    (refine gw ?_; exact RetN.mk ⟨[], rfl, rfl, rfl⟩)
  · obtain ⟨v, p2, t2, k2, b2⟩ := block_told hH ha p1 k1
    refine ⟨⟨5, v, 0, 0, 0, 0⟩, p2, ?_, k2, ⟨by simp, b2, by simp; omega, by simp, by simp, by simp, by simp, by simp, by simp, by simp, by simp⟩⟩
    refine told_of_ev (fn := mk_Picks_Op_fn) tabOk mixed (by kernel_rfl) (by kernel_rfl) (by kernel_rfl) (by kernel_rfl) ?_
    (refine gw ?_; refine Choice.mk ⟨true, Choice.mk ⟨false, _, _, t1, ?_⟩⟩)
    (refine gw ?_; refine IfB.ff (by simp; omega) ?_)
    (refine gw ?_; refine IfB.ff (by simp; omega) ?_)
    (refine gw ?_; refine IfB.ff (by simp; omega) ?_)
    (refine gw ?_; refine IfB.ff (by simp; omega) ?_)
    (refine gw ?_; refine IfB.tt (by simp; omega) ?_)
    (refine gw ?_; refine Choice.mk ⟨true, Choice.mk ⟨false, _, _, t2, ?_⟩⟩)
    (refine gw ?_; exact RetN.mk ⟨[], rfl, rfl, rfl⟩)
  · obtain ⟨v, p2, t2, k2, b2⟩ := block_told hH ha p1 k1
    subst h
    refine ⟨⟨6, v, 0, 0, 0, 0⟩, p2, ?_, k2, ⟨by simp, b2, by simp; omega, by simp, by simp, by simp, by simp, by simp, by simp, by simp, by simp⟩⟩
    refine told_of_ev (fn := mk_Picks_Op_fn) tabOk mixed (by kernel_rfl) (by kernel_rfl) (by kernel_rfl) (by kernel_rfl) ?_
    (refine gw ?_; refine Choice.mk ⟨true, Choice.mk ⟨false, _, _, t1, ?_⟩⟩)
    (refine gw ?_; refine Choice.mk ⟨true, Choice.mk ⟨false, _, _, t2, ?_⟩⟩)
    (refine gw ?_; exact RetN.mk ⟨[], rfl, rfl, rfl⟩)
  · obtain ⟨v, p2, t2, k2, b2⟩ := block_told hH ha p1 k1
    have t3 := num_told p2 k2 9 (by omega)
    have b3 := p2.num_lt (m := 9) (by omega)
    refine ⟨⟨7, v, 0, 0, (p2.num 9 : Nat), 0⟩, p2.next 9, ?_, k2.next 9, ⟨by simp, b2, by simp; omega, by simp, by simp only; omega, by simp, by simp, by simp, by simp, by simp, by simp⟩⟩
    refine told_of_ev (fn := mk_Picks_Op_fn) tabOk mixed (by kernel_rfl) (by kernel_rfl) (by kernel_rfl) (by kernel_rfl) ?_
    (refine gw ?_; refine Choice.mk ⟨true, Choice.mk ⟨false, _, _, t1, ?_⟩⟩)
    (refine gw ?_; refine IfB.ff (by simp; omega) ?_)
    (refine gw ?_; refine IfB.ff (by simp; omega) ?_)
    (refine gw ?_; refine IfB.ff (by simp; omega) ?_)
    (refine gw ?_; refine IfB.ff (by simp; omega) ?_)
    (refine gw ?_; refine IfB.ff (by simp; omega) ?_)
    (refine gw ?_; refine IfB.ff (by simp; omega) ?_)
    (refine gw ?_; refine IfB.tt (by simp; omega) ?_)
    (refine gw ?_; refine Choice.mk ⟨true, Choice.mk ⟨false, _, _, t2, ?_⟩⟩)
    (refine gw ?_; refine Choice.mk ⟨true, Choice.mk ⟨false, _, _, t3, ?_⟩⟩)
    (refine gw ?_; exact RetN.mk ⟨[], rfl, rfl, rfl⟩)
  · subst h
    refine ⟨⟨9, 0, 0, 0, 0, 0⟩, p1, ?_, k1, ⟨by simp, by simp, by simp; omega, by simp, by simp, by simp, by simp, by simp, by simp, by simp, by simp⟩⟩
    refine told_of_ev (fn := mk_Picks_Op_fn) tabOk mixed (by kernel_rfl) (by kernel_rfl) (by kernel_rfl) (by kernel_rfl) ?_
    (refine gw ?_; refine Choice.mk ⟨true, Choice.mk ⟨false, _, _, t1, ?_⟩⟩)
    (refine gw ?_; exact RetN.mk ⟨[], rfl, rfl, rfl⟩)
  · subst h
    refine ⟨⟨10, 0, 0, 0, 0, 0⟩, p1, ?_, k1, ⟨by simp, by simp, by simp; omega, by simp, by simp, by simp, by simp, by simp, by simp, by simp, by simp⟩⟩
    refine told_of_ev (fn := mk_Picks_Op_fn) tabOk mixed (by kernel_rfl) (by kernel_rfl) (by kernel_rfl) (by kernel_rfl) ?_
    (refine gw ?_; refine Choice.mk ⟨true, Choice.mk ⟨false, _, _, t1, ?_⟩⟩)
    (refine gw ?_; exact RetN.mk ⟨[], rfl, rfl, rfl⟩)
  · obtain ⟨v, p2, t2, k2, b2⟩ := block_told hH ha p1 k1
    have t3 := num_told p2 k2 9 (by omega)
    have b3 := p2.num_lt (m := 9) (by omega)
    have t4 := num_told _ (k2.next 9) 256 (by omega)
    have b4 := (p2.next 9).num_lt (m := 256) (by omega)
    subst h
    refine ⟨⟨8, v, 0, 0, (p2.num 9 : Nat), ((p2.next 9).num 256 : Nat)⟩, (p2.next 9).next 256, ?_, (k2.next 9).next 256, ⟨by simp, b2, by simp; omega, by simp, by simp only; omega, by simp only; omega, by simp, by simp, by simp, by simp, by simp⟩⟩
    refine told_of_ev (fn := mk_Picks_Op_fn) tabOk mixed (by kernel_rfl) (by kernel_rfl) (by kernel_rfl) (by kernel_rfl) ?_
    (refine gw ?_; refine Choice.mk ⟨true, Choice.mk ⟨false, _, _, t1, ?_⟩⟩)
    (refine gw ?_; refine Choice.mk ⟨true, Choice.mk ⟨false, _, _, t2, ?_⟩⟩)
    (refine gw ?_; refine Choice.mk ⟨true, Choice.mk ⟨false, _, _, t3, ?_⟩⟩)
    (refine gw ?_; refine Choice.mk ⟨true, Choice.mk ⟨false, _, _, t4, ?_⟩⟩)
    (refine gw ?_)
    refine fits (by rw [IntKind.wrap_u8]; omega) ?_
    (refine gw ?_; exact RetN.mk ⟨[], rfl, rfl, rfl⟩)
end Go.Ev.W
namespace Go.Ev.W
open Go.Ev Go.Ev.N

set_option maxRecDepth 20000 in
set_option maxHeartbeats 4000000 in
theorem new17_told (r : Rw) : Told P T ref17_New [] [eR r] (.tup [eM (newM r).1, i64 ((newM r).2 : Nat)]) [] := by
  have c1 := refOf_told r
  have hok := ofF_ok (r := r)
  unfold newM
  generalize ofF r = R at *
  obtain ⟨c, e⟩ := R
  by_cases he : e = 0
  · subst he
    have hc : c.Ok := (hok rfl).1
    have hH := hc.h2
    have hpg := hc.pgpos
    have d1 : ((c.H : Nat) : Int).tdiv ((c.Pg : Nat) : Int) = ((c.H / c.Pg : Nat) : Int) := (Int.ofNat_tdiv c.H c.Pg).symm
    have d2 := Nat.div_le_self c.H c.Pg
    simp only [ne_eq, not_true_eq_false, if_false]
    generalize hD : c.H / c.Pg = D at *
    have c1 : Told P T ref1_Of [] [eR r] (.tup [eC c, i64 ((0 : Nat) : Int)]) [] := c1
    refine told_of_ev (fn := ref17_New_fn) tabOk mixed (by kernel_rfl) (by kernel_rfl) (by kernel_rfl) (by kernel_rfl) ?_
    (refine gw ?_; refine Choice.mk ⟨false, Choice.mk ⟨false, _, _, c1, ?_⟩⟩)
    (refine gw ?_)
    rw [d1]
    (refine gw ?_; refine Room.mk (by first | omega | (simp; omega) | (simp <;> fail)) ?_)
    (refine gw ?_; refine Room.mk (by first | omega | (simp; omega) | (simp <;> fail)) ?_)
    (refine gw ?_; refine RetN.fz ⟨[true, true], [], rfl, ?_, rfl⟩)
    have hr1 : lT (List.replicate D false) = .lst t_bool (List.replicate D (.bool false)) := by unfold lT; rw [List.map_replicate]
    have hr2 : lU (List.replicate c.H 0) = .lst t_uint8 (List.replicate c.H (u8 0)) := by unfold lU; rw [List.map_replicate]
    refine Eq.trans ?_ (congrArg (fun z => AV.tup [z, i64 0]) (show AV.agg [i64 c.G, i64 c.N, i64 c.M, i64 c.L, i64 c.Pg, i64 c.P, i64 c.H, i64 c.Sd, lK [], i64 0, i64 0, i64 0, .lst t_bool (List.replicate ((D : Nat) : Int).toNat (.bool false)), .lst t_uint8 (List.replicate ((c.H : Nat) : Int).toNat (u8 0))] = eM ⟨c, [], 0, 0, 0, List.replicate D false, List.replicate c.H 0⟩ by
      rw [Int.toNat_natCast, Int.toNat_natCast, ← hr1, ← hr2]; rfl))
    rfl
  · simp only [ne_eq, he, not_false_eq_true, if_true]
    refine told_of_ev (fn := ref17_New_fn) tabOk mixed (by kernel_rfl) (by kernel_rfl) (by kernel_rfl) (by kernel_rfl) ?_
    have c1 : Told P T ref1_Of [] [eR r] (.tup [eC c, i64 ((e : Nat) : Int)]) [] := c1
    (refine gw ?_; refine Choice.mk ⟨false, Choice.mk ⟨false, _, _, c1, ?_⟩⟩)
    (refine gw ?_; refine IfB.tt (by simpa using he) ?_)
    (refine gw ?_; exact RetN.fz ⟨[true, true], [], rfl, rfl, rfl⟩)
theorem newM_ok {r : Rw} (h : (newM r).2 = 0) : MoOk (newM r).1 := by
  have hok := ofF_ok (r := r)
  unfold newM at h ⊢
  split at h
  · rename_i h1; exact absurd h h1
  · rename_i h1
    rw [if_neg h1]
    have hc := (hok (Decidable.of_not_not h1)).1
    refine ⟨hc, ApB.nil _, by simp, by simp [totalB], by simp, by simp, by simp, by simp, ?_, by simp, ?_⟩
    · show cntB (List.replicate _ false) ≤ _
      unfold cntB
      rw [List.filter_eq_nil_iff.2 (by intro a ha; rw [List.eq_of_mem_replicate ha]; simp)]
      simp
    · intro x hx
      rw [List.eq_of_mem_replicate hx]; omega
end Go.Ev.W
namespace Go.Ev.W
open Go.Ev Go.Ev.N

open Classical in
noncomputable def opO (m : Mo) (p : Pk) : X.O := if h : MoOk m ∧ p.Ok then (op_told h.1.c h.1.a p h.2).choose else ⟨0, 0, 0, 0, 0, 0⟩
open Classical in
noncomputable def opP (m : Mo) (p : Pk) : Pk := if h : MoOk m ∧ p.Ok then (op_told h.1.c h.1.a p h.2).choose_spec.choose else p
theorem opO_spec {m : Mo} (hm : MoOk m) {p : Pk} (ok : p.Ok) : Told P T mk_Picks_Op [pkB p] [.ptr 0 0 0, eC m.c, lK m.bs] (X.encO (opO m p)) [pkB (opP m p)] ∧ (opP m p).Ok ∧ OpG m.c (opO m p) := by
  unfold opO opP
  rw [dif_pos ⟨hm, ok⟩, dif_pos ⟨hm, ok⟩]
  exact (op_told hm.c hm.a p ok).choose_spec.choose_spec
noncomputable def opsF : Nat → Mo → Pk → List X.O × Pk
  | 0, _, p => ([], p)
  | n + 1, m, p => if p.over = true then ([], p) else (opO m p :: (opsF n (doF m (opO m p)).1 (opP m p)).1, (opsF n (doF m (opO m p)).1 (opP m p)).2)
noncomputable def opsA (r : Rw) (n : Nat) (p : Pk) : List X.O × Pk := if (newM r).2 ≠ 0 then ([], p) else opsF n (newM r).1 p
theorem opsF_ok : ∀ (n : Nat) {m : Mo} {p : Pk}, MoOk m → p.Ok → (opsF n m p).2.Ok ∧ (opsF n m p).1.length ≤ n ∧ ∀ o ∈ (opsF n m p).1, OpG m.c o
  | 0, m, p, hm, ok => ⟨ok, by simp [opsF], by simp [opsF]⟩
  | n + 1, m, p, hm, ok => by
    unfold opsF
    split
    · exact ⟨ok, by simp, by simp⟩
    · obtain ⟨_, h2, h3⟩ := opO_spec hm ok
      have hd := doF_ok hm (h3.ok hm.c)
      obtain ⟨a, b, c⟩ := opsF_ok n hd.1 h2
      rw [hd.2] at c
      refine ⟨a, by simp; exact b, fun o ho => ?_⟩
      rcases List.mem_cons.1 ho with rfl | ho
      · exact h3
      · exact c o ho
theorem opsA_ok {r : Rw} (n : Nat) {p : Pk} (ok : p.Ok) : (opsA r n p).2.Ok ∧ (opsA r n p).1.length ≤ n ∧ ∀ o ∈ (opsA r n p).1, ∃ c : Cf, c.Ok ∧ OpG c o := by
  unfold opsA
  split
  · exact ⟨ok, by simp, by simp⟩
  · rename_i h
    have hm := newM_ok (Decidable.of_not_not h)
    obtain ⟨a, b, c⟩ := opsF_ok n hm ok
    exact ⟨a, b, fun o ho => ⟨_, hm.c, c o ho⟩⟩
set_option maxRecDepth 20000 in
set_option maxHeartbeats 8000000 in
theorem ops_told (r : Rw) {n : Nat} (hn : n ≤ 100000) {p : Pk} (ok : p.Ok) : Told P T mk_Picks_Ops [pkB p] [.ptr 0 0 0, eR r, i64 n] (.lst t_api_Op ((opsA r n p).1.map X.encO)) [pkB (opsA r n p).2] := by
  have c1 := new17_told r
  have hm0 := newM_ok (r := r)
  unfold opsA
  generalize newM r = M at *
  obtain ⟨m0, e⟩ := M
  by_cases he : e = 0
  · subst he
    have hm0 : MoOk m0 := hm0 rfl
    have c1 : Told P T ref17_New [] [eR r] (.tup [eM m0, i64 ((0 : Nat) : Int)]) [] := c1
    simp only [ne_eq, not_true_eq_false, if_false]
    refine told_of_ev (fn := mk_Picks_Ops_fn) tabOk mixed (by kernel_rfl) (by kernel_rfl) (by kernel_rfl) (by kernel_rfl) ?_
    (refine gw ?_; refine Choice.mk ⟨false, Choice.mk ⟨false, _, _, c1, ?_⟩⟩)
    (refine gw ?_; refine LoopN.mk ⟨[0,2,7,9,10], fun vs L => ∃ (k : Nat) (q : Pk) (m : Mo) (os : List X.O), vs = [.ptr 0 0 0, i64 n, .ptr 1 0 0, .ref 2, i64 k] ∧ L = [pkB q, .var (eM m), .row t_api_Op (os.map X.encO)] ∧ k ≤ n ∧ os.length = k ∧ q.Ok ∧ MoOk m ∧ opsF n m0 p = (os ++ (opsF (n - k) m q).1, (opsF (n - k) m q).2), fun vs L => match vs with | [_, _, _, _, .int _ i] => n - i.toNat | _ => 0, [], [3,7], rfl, ⟨0, p, m0, [], rfl, rfl, by omega, rfl, ok, hm0, rfl⟩, ?_⟩)
    rintro vs L ⟨k, q, m, os, rfl, rfl, hk, hos, okq, hm, he⟩
    have hom : (os.map X.encO).length = k := by rw [List.length_map]; exact hos
    by_cases hkn : k < n
    · obtain ⟨t1, t2, t3⟩ := opO_spec hm okq
      have hd := doF_ok hm (t3.ok hm.c)
      have t4 := do17_told hm (t3.ok hm.c)
      have hsf : opsF (n - k) m q = if q.over = true then ([], q) else (opO m q :: (opsF (n - (k + 1)) (doF m (opO m q)).1 (opP m q)).1, (opsF (n - (k + 1)) (doF m (opO m q)).1 (opP m q)).2) := by
        rw [show n - k = (n - (k + 1)) + 1 by omega]; rfl
      clear c1
      generalize opO m q = o at *
      generalize opP m q = q' at *
      generalize doF m o = D at *
      obtain ⟨m', an'⟩ := D
      have hma : (os ++ [o]).map X.encO = os.map X.encO ++ [X.encO o] := by simp
      simp only at hsf hd t4
      (refine gw ?_; refine IfB.tt (by simp; omega) ?_)
      (refine gw ?_; refine Choice.mk ⟨true, Choice.mk ⟨false, _, _, over_told' q, ?_⟩⟩)
      cases hov : q.over with
      | true =>
        rw [hov, if_pos rfl] at hsf
        rw [hsf, List.append_nil] at he
        rw [he]
        (refine gw ?_; exact RetN.fz ⟨[true], [], rfl, rfl, rfl⟩)
      | false =>
        rw [hov, if_neg (by simp)] at hsf
        rw [hsf] at he
        (refine gw ?_; refine Choice.mk ⟨true, Choice.mk ⟨false, _, _, t1, ?_⟩⟩)
        (refine gw ?_; refine Room.mk (by first | omega | (simp; omega) | (simp <;> fail)) ?_)
        (refine gw ?_; refine Choice.mk ⟨false, Choice.mk ⟨false, _, _, t4, ?_⟩⟩)
        (refine gw ?_; refine ⟨[], [1,5], rfl, ⟨k + 1, q', m', os ++ [o], rfl, by rw [hma]; rfl, hkn, by simp [hos], t2, hd.1, by rw [he]; simp⟩, (by omega : n - ((k : Int) + 1).toNat < n - (k : Int).toNat)⟩)
    · have e : k = n := by omega
      subst e
      rw [Nat.sub_self] at he
      have he : opsF k m0 p = (os, q) := by rw [he]; simp [opsF]
      rw [he]
      (refine gw ?_; exact RetN.fz ⟨[true], [], rfl, rfl, rfl⟩)
  · simp only [ne_eq, he, not_false_eq_true, if_true]
    have c1 : Told P T ref17_New [] [eR r] (.tup [eM m0, i64 ((e : Nat) : Int)]) [] := c1
    refine told_of_ev (fn := mk_Picks_Ops_fn) tabOk mixed (by kernel_rfl) (by kernel_rfl) (by kernel_rfl) (by kernel_rfl) ?_
    (refine gw ?_; refine Choice.mk ⟨false, Choice.mk ⟨false, _, _, c1, ?_⟩⟩)
    (refine gw ?_; refine IfB.tt (by simpa using he) ?_)
    (refine gw ?_; exact RetN.fz ⟨[true], [], rfl, rfl, rfl⟩)
end Go.Ev.W
namespace Go.Ev.W
open Go.Ev Go.Ev.N

theorem shpOp {n : Nat} {x : AV} (h : Shp T (n + 2) t_api_Op x) : ∃ o : X.O, x = X.encO o ∧ OpOk o := by
  unfold Shp at h
  obtain ⟨ys, rfl, hy, hn⟩ := (show ∃ ys : List AV, x = .agg (ys.flatMap cells) ∧ ys.length = 6 ∧ ∀ (i : Nat) (p : Nat × Nat) (y : AV), [((0 : Nat), t_int), (1, t_int), (2, t_int), (3, t_int), (4, t_int), (5, t_uint8)][i]? = some p → ys[i]? = some y → Shp T (n + 1) p.2 y from h)
  match ys, hy, hn with
  | [y0, y1, y2, y3, y4, y5], _, hn =>
    obtain ⟨a0, rfl, b0⟩ := shp_i64 (by kernel_rfl) (hn 0 _ y0 rfl rfl)
    obtain ⟨a1, rfl, b1⟩ := shp_i64 (by kernel_rfl) (hn 1 _ y1 rfl rfl)
    obtain ⟨a2, rfl, b2⟩ := shp_i64 (by kernel_rfl) (hn 2 _ y2 rfl rfl)
    obtain ⟨a3, rfl, b3⟩ := shp_i64 (by kernel_rfl) (hn 3 _ y3 rfl rfl)
    obtain ⟨a4, rfl, b4⟩ := shp_i64 (by kernel_rfl) (hn 4 _ y4 rfl rfl)
    obtain ⟨b, rfl, hb⟩ := shp_u8 (by kernel_rfl) (hn 5 _ y5 rfl rfl)
    exact ⟨⟨a0, a1, a2, a3, a4, (b : Int)⟩, rfl, ⟨b0, b1, b2, b3, b4, by simp, by show (b : Int) < 256; omega⟩⟩
theorem shpRaw {n : Nat} {x : AV} (h : Shp T (n + 2) t_api_Raw x) : ∃ r : Rw, x = eR r := by
  unfold Shp at h
  obtain ⟨ys, rfl, hy, hn⟩ := (show ∃ ys : List AV, x = .agg (ys.flatMap cells) ∧ ys.length = 6 ∧ ∀ (i : Nat) (p : Nat × Nat) (y : AV), [((0 : Nat), t_int), (1, t_int), (2, t_int), (3, t_int), (4, t_int), (5, t_int)][i]? = some p → ys[i]? = some y → Shp T (n + 1) p.2 y from h)
  match ys, hy, hn with
  | [y0, y1, y2, y3, y4, y5], _, hn =>
    obtain ⟨a0, rfl, b0⟩ := shp_i64 (by kernel_rfl) (hn 0 _ y0 rfl rfl)
    obtain ⟨a1, rfl, b1⟩ := shp_i64 (by kernel_rfl) (hn 1 _ y1 rfl rfl)
    obtain ⟨a2, rfl, b2⟩ := shp_i64 (by kernel_rfl) (hn 2 _ y2 rfl rfl)
    obtain ⟨a3, rfl, b3⟩ := shp_i64 (by kernel_rfl) (hn 3 _ y3 rfl rfl)
    obtain ⟨a4, rfl, b4⟩ := shp_i64 (by kernel_rfl) (hn 4 _ y4 rfl rfl)
    obtain ⟨a5, rfl, b5⟩ := shp_i64 (by kernel_rfl) (hn 5 _ y5 rfl rfl)
    exact ⟨⟨a0, a1, a2, a3, a4, a5⟩, rfl⟩
end Go.Ev.W
namespace Go.Ev.W
open Go.Ev Go.Ev.N

def rH : Rw := ⟨1, 4, 8, 4, 6, 0⟩
def cH : Cf := ⟨1, 4, 8, 2, 4, 6, 16, 0⟩
def mH0 : Mo := ⟨cH, [], 0, 0, 0, [false, false, false, false], List.replicate 16 0⟩
def mH1 : Mo := ⟨cH, [⟨0, 4, 3⟩], 4, 4, 4, [true, false, false, false], [1, 8, 15, 22, 0, 0, 0, 0, 0, 0, 0, 0, 0, 0, 0, 0]⟩
def mH2 : Mo := ⟨cH, [⟨0, 4, 3⟩, ⟨4, 1, 1⟩], 5, 5, 5, [true, true, false, false], [1, 8, 15, 22, 32, 39, 46, 53, 0, 0, 0, 0, 0, 0, 0, 0]⟩
def oH1 : X.O := ⟨1, 0, 3, 0, 0, 0⟩
def oH2 : X.O := ⟨1, 0, 1, 0, 0, 0⟩
def oH3 : X.O := ⟨10, 0, 0, 0, 0, 0⟩
def oH4 : X.O := ⟨9, 0, 0, 0, 0, 0⟩
theorem oH_ok : OpOk oH1 ∧ OpOk oH2 ∧ OpOk oH3 := ⟨⟨by decide, by decide, by decide, by decide, by decide, by decide⟩, ⟨by decide, by decide, by decide, by decide, by decide, by decide⟩, ⟨by decide, by decide, by decide, by decide, by decide, by decide⟩⟩
theorem nH : newM rH = (mH0, 0) := by decide +kernel
theorem oH_of : ofF rH = (cH, 0) := by decide +kernel
theorem dH1 : doF mH0 oH1 = (mH1, an0) := by decide +kernel
theorem dH2 : doF mH1 oH2 = (mH2, { an0 with at' := 4 }) := by decide +kernel
theorem dH3 : doF mH2 oH3 = (mH2, ⟨0, 0, 0, 0, 5, 5, 5, 2⟩) := by decide +kernel
theorem mH0_ok : MoOk mH0 := by
  have := newM_ok (r := rH) (by rw [nH])
  rw [nH] at this; exact this
theorem mH1_ok : MoOk mH1 := by
  have := (doF_ok mH0_ok oH_ok.1).1
  rw [dH1] at this; exact this
theorem mH2_ok : MoOk mH2 := by
  have := (doF_ok mH1_ok oH_ok.2.1).1
  rw [dH2] at this; exact this
set_option maxRecDepth 20000 in
set_option maxHeartbeats 4000000 in
theorem begun18_told : Told P T law18_begun [] [] (.bool true) [] := by
  have c1 := hpNew_told rH (by rw [oH_of])
  have h0 := newH_rel (r := rH) (by rw [oH_of])
  rw [nH] at h0
  rw [oH_of] at c1 h0
  generalize newH (cH, 0).1 = s0 at *
  have h0 : Hr mH0 s0 := h0
  obtain ⟨s1, h1, d1⟩ := hpDoI h0 mH0_ok oH_ok.1
  rw [dH1] at h1 d1
  have h1 : Hr mH1 s1 := h1
  obtain ⟨s2, h2, d2⟩ := hpDoI h1 mH1_ok oH_ok.2.1
  rw [dH2] at h2 d2
  have h2 : Hr mH2 s2 := h2
  obtain ⟨s3, h3, d3⟩ := hpDoI h2 mH2_ok oH_ok.2.2
  rw [dH3] at h3 d3
  have h3 : Hr mH2 s3 := h3
  have b3 := hpBlocksI h3 mH2_ok
  have p3 := hpPagesI h3 mH2_ok
  have k3 := hpConf_told (c := mH2.c) (g := mH2.c.H / mH2.c.G) (cl := mH2.c.L + 1) (s := s3)
  have n1 := hpDoNil_told oH4
  refine told_of_ev (fn := law18_begun_fn) tabOk mixed (by kernel_rfl) (by kernel_rfl) (by kernel_rfl) (by kernel_rfl) ?_
  (refine gw ?_; refine Choice.mk ⟨false, Choice.mk ⟨false, _, _, c1, ?_⟩⟩)
  (refine gw ?_; refine Choice.mk ⟨false, Choice.mk ⟨false, _, _, d1, ?_⟩⟩)
  (refine gw ?_; refine Choice.mk ⟨false, Choice.mk ⟨false, _, _, d2, ?_⟩⟩)
  (refine gw ?_; refine Choice.mk ⟨false, Choice.mk ⟨false, _, _, d3, ?_⟩⟩)
  (refine gw ?_; refine Choice.mk ⟨false, Choice.mk ⟨true, _, _, b3, Need.mk rfl ?_⟩⟩)
  (refine gw ?_)
  refine Idx.mk ⟨_, by omega, rfl, ?_⟩
  (refine gw ?_; refine Choice.mk ⟨false, Choice.mk ⟨true, _, _, p3, Need.mk rfl ?_⟩⟩)
  (refine gw ?_; refine Choice.mk ⟨false, Choice.mk ⟨false, _, _, k3, ?_⟩⟩)
  (refine gw ?_; refine Choice.mk ⟨false, Choice.mk ⟨false, _, _, n1, ?_⟩⟩)
  (refine gw ?_; exact RetN.mk ⟨[], rfl, rfl, rfl⟩)
end Go.Ev.W
namespace Go.Ev.W
open Go.Ev Go.Ev.N
set_option maxHeartbeats 1000000 in
theorem sameBlocksR (l : List Bk) (hl : l.length ≤ 1000000) : Told P T ref17_SameBlocks [] [.lst t_api_Block (l.map eB), .lst t_api_Block (l.map eB)] (.bool true) [] := by
  have hml : (l.map eB).length = l.length := by simp
  refine told_of_ev (fn := ref17_SameBlocks_fn) tabOk mixed (by kernel_rfl) (by kernel_rfl) (by kernel_rfl) (by kernel_rfl) ?_
  refine gw ?_
  (refine gw ?_; refine LoopN.mk ⟨[0,1,5], fun vs L => ∃ i : Nat, vs = [.lst t_api_Block (l.map eB), .lst t_api_Block (l.map eB), i64 i] ∧ i ≤ l.length ∧ L = [], fun vs L => match vs with | [_, _, .int _ i] => l.length - i.toNat | _ => 0, [], [], rfl, ⟨0, rfl, by omega, rfl⟩, ?_⟩)
  rintro vs L ⟨i, rfl, hi, rfl⟩
  (refine gw ?_; first | refine IfB.dec (fun h2 => ?_) (fun h2 => ?_) | refine IfB.eq (fun h2 => ?_) (fun h2 => ?_) | refine IfB.ne (fun h2 => ?_) (fun h2 => ?_) | refine IfB.mk (fun h2 => ?_) (fun h2 => ?_))
  · have hlt : i < l.length := by omega
    (refine gw ?_; refine idx_map (hlt) ?_)
    (refine gw ?_; refine idx_map (hlt) ?_)
    (refine gw ?_)
    first | refine IfB.ff (by simp) ?_ | skip
    (refine gw ?_; refine ⟨[], [], rfl, ⟨i + 1, rfl, hlt, rfl⟩, (by omega : l.length - ((i : Int) + 1).toNat < l.length - (i : Int).toNat)⟩)
  · (refine gw ?_; exact RetN.mk ⟨[], rfl, rfl, rfl⟩)
set_option maxHeartbeats 1000000 in
theorem sameBoolsR (l : List Bool) (hl : l.length ≤ 1000000) : Told P T ref8_SameBools [] [.lst t_bool (l.map AV.bool), .lst t_bool (l.map AV.bool)] (.bool true) [] := by
  have hml : (l.map AV.bool).length = l.length := by simp
  refine told_of_ev (fn := ref8_SameBools_fn) tabOk mixed (by kernel_rfl) (by kernel_rfl) (by kernel_rfl) (by kernel_rfl) ?_
  refine gw ?_
  (refine gw ?_; refine LoopN.mk ⟨[0,1,5], fun vs L => ∃ i : Nat, vs = [.lst t_bool (l.map AV.bool), .lst t_bool (l.map AV.bool), i64 i] ∧ i ≤ l.length ∧ L = [], fun vs L => match vs with | [_, _, .int _ i] => l.length - i.toNat | _ => 0, [], [], rfl, ⟨0, rfl, by omega, rfl⟩, ?_⟩)
  rintro vs L ⟨i, rfl, hi, rfl⟩
  (refine gw ?_; first | refine IfB.dec (fun h2 => ?_) (fun h2 => ?_) | refine IfB.eq (fun h2 => ?_) (fun h2 => ?_) | refine IfB.ne (fun h2 => ?_) (fun h2 => ?_) | refine IfB.mk (fun h2 => ?_) (fun h2 => ?_))
  · have hlt : i < l.length := by omega
    (refine gw ?_; refine idx_map (hlt) ?_)
    (refine gw ?_; refine idx_map (hlt) ?_)
    (refine gw ?_)
    first | refine IfB.ff (by simp) ?_ | skip
    (refine gw ?_; refine ⟨[], [], rfl, ⟨i + 1, rfl, hlt, rfl⟩, (by omega : l.length - ((i : Int) + 1).toNat < l.length - (i : Int).toNat)⟩)
  · (refine gw ?_; exact RetN.mk ⟨[], rfl, rfl, rfl⟩)
theorem newM_bd (r : Rw) : (newM r).1.bs.length ≤ 1000000 ∧ (newM r).1.on.length ≤ 1000000 ∧ (newM r).1.mem.length ≤ 1000000 ∧ IsB (newM r).1.mem := by
  by_cases h : (newM r).2 = 0
  · have hm := newM_ok h
    have hH := hm.c.h2
    have := hm.a.len; have := hm.o; have := Nat.div_le_self (newM r).1.c.H (newM r).1.c.Pg; have := hm.mm
    exact ⟨by omega, by omega, by omega, hm.b⟩
  · have : (newM r).1 = ⟨cf0, [], 0, 0, 0, [], []⟩ := by
      unfold newM at h ⊢
      split
      · rfl
      · rename_i h2; rw [if_neg h2] at h; exact absurd rfl h
    rw [this]
    exact ⟨by simp, by simp, by simp, fun x hx => by simp at hx⟩
theorem MoOk.bd {m : Mo} (hm : MoOk m) : m.bs.length ≤ 1000000 ∧ m.on.length ≤ 1000000 ∧ m.mem.length ≤ 1000000 ∧ IsB m.mem := by
  have hH := hm.c.h2
  have := hm.a.len; have := hm.o; have := Nat.div_le_self m.c.H m.c.Pg; have := hm.mm
  exact ⟨by omega, by omega, by omega, hm.b⟩
end Go.Ev.W
namespace Go.Ev.W
open Go.Ev Go.Ev.N

theorem newM_of (r : Rw) : (newM r).2 = (ofF r).2 := by
  unfold newM
  split <;> simp_all
theorem hpNewI {r : Rw} (h : (newM r).2 = 0) : ∃ s, Hr (newM r).1 s ∧ Told P T heap_New [] [eR r] (.tup [.ptr 0 0 0, i64 0]) (hsL (newM r).1.c ((newM r).1.c.H / (newM r).1.c.G) ((newM r).1.c.L + 1) s ++ [.fz t_bool ((newM r).1.on.map .bool)]) := by
  have h2 : (ofF r).2 = 0 := by rw [← newM_of]; exact h
  refine ⟨_, newH_rel h2, ?_⟩
  have := hpNew_told r h2
  unfold newM
  rw [if_neg (by simpa using h2)]
  exact this
theorem hpNewE {r : Rw} (h : (newM r).2 ≠ 0) : Told P T heap_New [] [eR r] (.tup [.npt, i64 ((newM r).2 : Nat)]) [] := by
  rw [newM_of] at h ⊢
  exact hpNewE_told r h
set_option maxRecDepth 20000 in
set_option maxHeartbeats 8000000 in
theorem heapAll_told {a b : List Nat} (ha : IsB a) (hla : a.length ≤ maxLen) (hb : IsB b) (hlb : b.length ≤ maxLen) {w : X.O} (hw : OpOk w) : Told P T law18_HeapAll [] [lB a, lB b, X.encO w] (.bool true) [] := by
  have hua : (a.map u8).length = a.length := by simp
  have hub : (b.map u8).length = b.length := by simp
  have oka : (⟨a, 0⟩ : Pk).Ok := ⟨ha, Nat.zero_le _, hla⟩
  have okb : (⟨b, 0⟩ : Pk).Ok := ⟨hb, Nat.zero_le _, hlb⟩
  have t1 := raw_told ⟨a, 0⟩ oka false
  generalize rawF ⟨a, 0⟩ false = R at *
  obtain ⟨r, pa⟩ := R
  have n1 := hpNewI (r := r)
  have n1e := hpNewE (r := r)
  have n2 := new17_told r
  have hok := newM_ok (r := r)
  generalize newM r = M at *
  obtain ⟨m0, e⟩ := M
  refine told_of_ev (fn := law18_HeapAll_fn) tabOk mixed (by kernel_rfl) (by kernel_rfl) (by kernel_rfl) (by kernel_rfl) ?_
  (refine gw ?_; refine Choice.mk ⟨false, Choice.mk ⟨false, _, _, begun18_told, ?_⟩⟩)
  by_cases h6 : a.length > 6
  · (refine gw ?_; refine IfB.tt (by rw [hua]; simp; omega) ?_)
    (refine gw ?_; exact RetN.mk ⟨[], rfl, rfl, rfl⟩)
  (refine gw ?_; refine IfB.ff (by rw [hua]; simp; omega) ?_)
  by_cases h7 : b.length > 200
  · (refine gw ?_; refine IfB.tt (by rw [hub]; simp; omega) ?_)
    (refine gw ?_; exact RetN.mk ⟨[], rfl, rfl, rfl⟩)
  (refine gw ?_; refine IfB.ff (by rw [hub]; simp; omega) ?_)
  (refine gw ?_; refine Choice.mk ⟨false, Choice.mk ⟨false, _, _, made_told a, ?_⟩⟩)
  (refine gw ?_; refine Choice.mk ⟨true, Choice.mk ⟨false, _, _, t1, ?_⟩⟩)
  by_cases he : e = 0
  case neg =>
    (refine gw ?_; refine Choice.mk ⟨false, Choice.mk ⟨false, _, _, n1e he, ?_⟩⟩)
    (refine gw ?_; refine Choice.mk ⟨false, Choice.mk ⟨false, _, _, n2, ?_⟩⟩)
    (refine gw ?_; refine IfB.ff (by simp [he]) ?_)
    (refine gw ?_; refine IfB.tt (by simpa using he) ?_)
    (refine gw ?_; exact RetN.mk ⟨[], rfl, rfl, rfl⟩)
  subst he
  have hm0 : MoOk m0 := hok rfl
  obtain ⟨s0, hr0, n1⟩ := n1 rfl
  (refine gw ?_; refine Choice.mk ⟨false, Choice.mk ⟨false, _, _, n1, ?_⟩⟩)
  (refine gw ?_; refine Choice.mk ⟨false, Choice.mk ⟨false, _, _, n2, ?_⟩⟩)
  (refine gw ?_; refine Choice.mk ⟨false, Choice.mk ⟨false, _, _, made_told b, ?_⟩⟩)
  (refine gw ?_; refine LoopN.mk ⟨[5,8,10,12,13], fun vs L => ∃ (k : Nat) (q : Pk) (m : Mo) (s : Hs), vs = [.ptr 4 0 0, .ptr 0 0 0, .ptr 5 0 0, .ptr 6 0 0, i64 k] ∧ L = hsL m.c (m.c.H / m.c.G) (m.c.L + 1) s ++ [.var (X.encO w), .var (eM m), pkB q] ∧ k ≤ 60 ∧ q.Ok ∧ MoOk m ∧ Hr m s, fun vs L => match vs with | [_, _, _, _, .int _ i] => 60 - i.toNat | _ => 0, [], [3,4,5,6,0,8,12], rfl, ⟨0, ⟨b, 0⟩, m0, s0, rfl, rfl, by omega, okb, hm0, hr0⟩, ?_⟩)
  rintro vs L ⟨k, q, m, s, rfl, rfl, hk, okq, hm, hr⟩
  have hbm := hm.bd
  by_cases hk6 : k < 60
  · obtain ⟨t1, t2, t3⟩ := opO_spec hm okq
    have ht3 := t3.ok hm.c
    generalize opO m q = o at *
    generalize opP m q = q' at *
    (refine gw ?_; refine IfB.tt (by simp; omega) ?_)
    (refine gw ?_; refine Choice.mk ⟨true, Choice.mk ⟨false, _, _, over_told' q, ?_⟩⟩)
    cases hov : q.over with
    | true =>
      have k1 := hpConf_told (c := m.c) (g := m.c.H / m.c.G) (cl := m.c.L + 1) (s := s)
      (refine gw ?_; refine Choice.mk ⟨false, Choice.mk ⟨true, _, _, k1, Need.mk rfl ?_⟩⟩)
      (refine gw ?_; refine RetN.mk ⟨[], rfl, ?_, rfl⟩)
      show AV.bool _ = _
      simp
    | false =>
      have em : ((k : Nat) : Int).tmod 10 = ((k % 10 : Nat) : Int) := by rw [Int.tmod_eq_emod_of_nonneg (by omega)]; omega
      (refine gw ?_; refine Choice.mk ⟨true, Choice.mk ⟨false, _, _, t1, ?_⟩⟩)
      (refine gw ?_)
      rw [em]
      by_cases h9 : k % 10 = 9
      · obtain ⟨s', hr', d1⟩ := hpDoI hr hm hw
        have d2 := do17_told hm hw
        have hd := doF_ok hm hw
        generalize doF m w = D at *
        obtain ⟨m', an'⟩ := D
        have hm' : MoOk m' := hd.1
        have hbm := hm'.bd
        have b1 := hpBlocksI hr' hm'
        have p1 := hpPagesI hr' hm'
        have s2 := sameBlocksR m'.bs hbm.1
        have s3 := sameBoolsR m'.on hbm.2.1
        (refine gw ?_; refine IfB.tt (by simp [h9]) ?_)
        (refine gw ?_; refine Choice.mk ⟨false, Choice.mk ⟨false, _, _, d2, ?_⟩⟩)
        (refine gw ?_; refine Choice.mk ⟨false, Choice.mk ⟨false, _, _, d1, ?_⟩⟩)
        (refine gw ?_; refine Choice.mk ⟨false, Choice.mk ⟨true, _, _, b1, Need.mk rfl ?_⟩⟩)
        (refine gw ?_; refine Choice.mk ⟨false, Choice.mk ⟨false, _, _, s2, ?_⟩⟩)
        (refine gw ?_; refine Choice.mk ⟨false, Choice.mk ⟨true, _, _, p1, Need.mk rfl ?_⟩⟩)
        (refine gw ?_; refine Choice.mk ⟨false, Choice.mk ⟨false, _, _, s3, ?_⟩⟩)
        (refine gw ?_; refine ⟨[], [0,1,2,3,4,5,6], rfl, ⟨k + 1, q', m', s', rfl, rfl, hk6, t2, hm', hr'⟩, (by omega : 60 - ((k : Int) + 1).toNat < 60 - (k : Int).toNat)⟩)
      · obtain ⟨s', hr', d1⟩ := hpDoI hr hm ht3
        have d2 := do17_told hm ht3
        have hd := doF_ok hm ht3
        generalize doF m o = D at *
        obtain ⟨m', an'⟩ := D
        have hm' : MoOk m' := hd.1
        have hbm := hm'.bd
        have b1 := hpBlocksI hr' hm'
        have p1 := hpPagesI hr' hm'
        have s2 := sameBlocksR m'.bs hbm.1
        have s3 := sameBoolsR m'.on hbm.2.1
        (refine gw ?_; refine IfB.ff (by simp; omega) ?_)
        (refine gw ?_; refine Choice.mk ⟨false, Choice.mk ⟨false, _, _, d2, ?_⟩⟩)
        (refine gw ?_; refine Choice.mk ⟨false, Choice.mk ⟨false, _, _, d1, ?_⟩⟩)
        (refine gw ?_; refine Choice.mk ⟨false, Choice.mk ⟨true, _, _, b1, Need.mk rfl ?_⟩⟩)
        (refine gw ?_; refine Choice.mk ⟨false, Choice.mk ⟨false, _, _, s2, ?_⟩⟩)
        (refine gw ?_; refine Choice.mk ⟨false, Choice.mk ⟨true, _, _, p1, Need.mk rfl ?_⟩⟩)
        (refine gw ?_; refine Choice.mk ⟨false, Choice.mk ⟨false, _, _, s3, ?_⟩⟩)
        (refine gw ?_; refine ⟨[], [0,1,2,3,4,5,6], rfl, ⟨k + 1, q', m', s', rfl, rfl, hk6, t2, hm', hr'⟩, (by omega : 60 - ((k : Int) + 1).toNat < 60 - (k : Int).toNat)⟩)
  · have k1 := hpConf_told (c := m.c) (g := m.c.H / m.c.G) (cl := m.c.L + 1) (s := s)
    (refine gw ?_; refine IfB.ff (by simp; omega) ?_)
    (refine gw ?_; refine Choice.mk ⟨false, Choice.mk ⟨true, _, _, k1, Need.mk rfl ?_⟩⟩)
    (refine gw ?_; refine RetN.mk ⟨[], rfl, ?_, rfl⟩)
    show AV.bool _ = _
    simp
theorem heapAll {x0 x1 x2 : AV} (h0 : Shp T 8 ts_uint8 x0) (h1 : Shp T 8 ts_uint8 x1) (h2 : Shp T 8 t_api_Op x2) : Told P T law18_HeapAll [] [x0, x1, x2] (.bool true) [] := by
  obtain ⟨a, rfl, ha, hla⟩ := shp_bytes h0
  obtain ⟨b, rfl, hb, hlb⟩ := shp_bytes h1
  obtain ⟨w, rfl, hw⟩ := shpOp h2
  exact heapAll_told ha hla hb hlb hw
end Go.Ev.W
namespace Go.Ev.W
open Go.Ev Go.Ev.N

theorem allF_ok : ∀ {os : List X.O} {m : Mo}, MoOk m → (∀ o ∈ os, OpOk o) → MoOk (allF m os).1 ∧ (allF m os).1.c = m.c ∧ (allF m os).2.length = os.length
  | [], m, hm, _ => ⟨hm, rfl, rfl⟩
  | o :: os, m, hm, h => by
    have hd := doF_ok hm (h o (by simp))
    have ih := allF_ok (os := os) hd.1 fun x hx => h x (by simp [hx])
    refine ⟨ih.1, ih.2.1.trans hd.2, ?_⟩
    show ((doF m o).2 :: (allF (doF m o).1 os).2).length = _
    rw [List.length_cons, ih.2.2]; rfl
theorem allF_snoc : ∀ (os : List X.O) (m : Mo) (o : X.O), allF m (os ++ [o]) = ((doF (allF m os).1 o).1, (allF m os).2 ++ [(doF (allF m os).1 o).2])
  | [], m, o => rfl
  | x :: os, m, o => by
    show ((allF (doF m x).1 (os ++ [o])).1, (doF m x).2 :: (allF (doF m x).1 (os ++ [o])).2) = _
    rw [allF_snoc os]; rfl
theorem opsA_op {r : Rw} {n : Nat} {p : Pk} (ok : p.Ok) : ∀ o ∈ (opsA r n p).1, OpOk o := fun o ho => by
  obtain ⟨c, hc, hg⟩ := (opsA_ok n ok).2.2 o ho
  exact hg.ok hc
end Go.Ev.W
namespace Go.Ev.W
open Go.Ev Go.Ev.N

set_option maxRecDepth 20000 in
set_option maxHeartbeats 1000000 in
theorem hpBlocksW_told {c : Cf} {g cl : Nat} {s : Hs} (bs : List Bk) (hl : bs.length = s.m.length) (hl2 : s.m.length ≤ 65536) (hb : ∀ k (h : k < s.m.length) (h2 : k < bs.length), getS (s.m[k]).at' s.ds = some bs[k]) :
    Told P T heap_Heap_Blocks (hsL c g cl s) [.ptr 0 0 0] (.ref 4) (hsL c g cl s ++ [.row t_api_Block (bs.map eB)]) := by
  have hml : (s.m.map encM).length = s.m.length := by simp
  unfold hsL hpL hpV
  refine told_of_ev (fn := heap_Heap_Blocks_fn) tabOk mixed (by kernel_rfl) (by kernel_rfl) (by kernel_rfl) (by kernel_rfl) ?_
  (refine gw ?_; refine LoopN.mk ⟨[0,2,11,12,13], fun vs L => ∃ k : Nat, vs = [.ptr 0 0 0, .ref 4, .lst t_api_Mark (s.m.map encM), i64 (s.m.map encM).length, i64 k] ∧ L = hpL c g cl s.b s.m s.live s.peak s.mark s.on s.ds s.met s.mem ++ [.row t_api_Block ((bs.take k).map eB)] ∧ k ≤ s.m.length, fun vs L => match vs with | [_, _, _, _, .int _ i] => s.m.length - i.toNat | _ => 0, [], [4], rfl, ⟨0, rfl, rfl, by omega⟩, ?_⟩)
  rintro vs L ⟨k, rfl, rfl, hk⟩
  have hbl : ((bs.take k).map eB).length = k := by rw [List.length_map, List.length_take]; omega
  by_cases hkl : k < s.m.length
  · have hx : ∀ Q : AV → Prop, Q (encM s.m[k]) → Idx (s.m.map encM) ((k : Nat) : Int) Q := fun Q q => idx_map hkl q
    have h2 : k < bs.length := by omega
    have hg := mget_encS (s.m[k]).at' s.ds
    rw [hb k hkl h2] at hg
    have hsu : (bs.take (k + 1)).map eB = (bs.take k).map eB ++ [eB bs[k]] := by rw [List.take_succ_eq_append_getElem h2, List.map_append]; rfl
    unfold hpL hpV
    (refine gw ?_; refine IfB.tt (by rw [hml]; simp; omega) ?_)
    (refine gw ?_)
    refine hx _ ?_
    (refine gw ?_)
    refine Get.of hg ?_
    (refine gw ?_)
    refine Room.mk (by rw [hbl]; simp; omega) ?_
    (refine gw ?_; refine ⟨[], [7], rfl, ⟨k + 1, rfl, by rw [hsu]; rfl, hkl⟩, (by omega : s.m.length - ((k : Int) + 1).toNat < s.m.length - (k : Int).toNat)⟩)
  · have hkk : k = bs.length := by omega
    rw [hkk, List.take_length]
    unfold hpL hpV
    (refine gw ?_; refine IfB.ff (by rw [hml]; simp; omega) ?_)
    (refine gw ?_)
    exact RetN.mk ⟨[4], rfl, rfl, rfl⟩

theorem hpOnW_told {c : Cf} {g cl : Nat} {s : Hs} (hl : s.on.length ≤ 65536) : Told P T heap_Heap_Pages (hsL c g cl s) [.ptr 0 0 0] (.ref 4) (hsL c g cl s ++ [.row t_bool (s.on.map .bool)]) := by
  unfold hsL hpL hpV
  have c1 := clone_bool (s.on.map AV.bool) (by simp; omega)
  refine told_of_ev (fn := heap_Heap_Pages_fn) tabOk mixed (by kernel_rfl) (by kernel_rfl) (by kernel_rfl) (by kernel_rfl) ?_
  (refine gw ?_; refine Choice.mk ⟨false, Choice.mk ⟨false, _, _, c1, ?_⟩⟩)
  first | exact RetN.mk ⟨[4], rfl, rfl, rfl⟩ | exact RetN.mk ⟨[5], rfl, rfl, rfl⟩ | exact RetN.mk ⟨[6], rfl, rfl, rfl⟩
theorem hpBlocksW {m : Mo} {s : Hs} (h : Hr m s) (hm : MoOk m) : Told P T heap_Heap_Blocks (hsL m.c (m.c.H / m.c.G) (m.c.L + 1) s) [.ptr 0 0 0] (.ref 4) (hsL m.c (m.c.H / m.c.G) (m.c.L + 1) s ++ [.row t_api_Block (m.bs.map eB)]) := by
  obtain ⟨h1, h2, h3⟩ := h.bs hm
  exact hpBlocksW_told m.bs h1 h2 h3
theorem hpPagesW {m : Mo} {s : Hs} (h : Hr m s) (hm : MoOk m) : Told P T heap_Heap_Pages (hsL m.c (m.c.H / m.c.G) (m.c.L + 1) s) [.ptr 0 0 0] (.ref 4) (hsL m.c (m.c.H / m.c.G) (m.c.L + 1) s ++ [.row t_bool (m.on.map .bool)]) := by
  have h1 := hpOnW_told (c := m.c) (g := m.c.H / m.c.G) (cl := m.c.L + 1) (s := s) (by have := (h.ok hm).on; have := (h.ok hm).met; have : m.c.H / m.c.Pg ≤ m.c.H := Nat.div_le_self _ _; have := hm.c.h2; omega)
  rw [h.on] at h1
  exact h1
set_option maxRecDepth 20000 in
set_option maxHeartbeats 8000000 in
theorem heapOwn_told {a b : List Nat} (ha : IsB a) (hla : a.length ≤ maxLen) (hb : IsB b) (hlb : b.length ≤ maxLen) : Told P T law18_HeapOwn [] [lB a, lB b] (.bool true) [] := by
  have hua : (a.map u8).length = a.length := by simp
  have hub : (b.map u8).length = b.length := by simp
  have oka : (⟨a, 0⟩ : Pk).Ok := ⟨ha, Nat.zero_le _, hla⟩
  have okb : (⟨b, 0⟩ : Pk).Ok := ⟨hb, Nat.zero_le _, hlb⟩
  have t1 := raw_told ⟨a, 0⟩ oka false
  generalize rawF ⟨a, 0⟩ false = R at *
  obtain ⟨r, pa⟩ := R
  have n1 := hpNewI (r := r)
  have n1e := hpNewE (r := r)
  have o1 := ops_told r (n := 30) (by omega) okb
  have oo := opsA_op (r := r) (n := 30) okb
  have ol := (opsA_ok (r := r) 30 okb).2.1
  have hok := newM_ok (r := r)
  generalize opsA r 30 ⟨b, 0⟩ = A at *
  obtain ⟨os, pb⟩ := A
  generalize newM r = M at *
  obtain ⟨m0, e⟩ := M
  have o1 : Told P T mk_Picks_Ops [pkB ⟨b, 0⟩] [.ptr 0 0 0, eR r, i64 30] (.lst t_api_Op (os.map X.encO)) [pkB pb] := o1
  have hom : (os.map X.encO).length = os.length := by simp
  have oo : ∀ o ∈ os, OpOk o := oo
  have ol : os.length ≤ 30 := ol
  refine told_of_ev (fn := law18_HeapOwn_fn) tabOk mixed (by kernel_rfl) (by kernel_rfl) (by kernel_rfl) (by kernel_rfl) ?_
  (refine gw ?_; refine Choice.mk ⟨false, Choice.mk ⟨false, _, _, begun18_told, ?_⟩⟩)
  by_cases h6 : a.length > 6
  · (refine gw ?_; refine IfB.tt (by rw [hua]; simp; omega) ?_)
    (refine gw ?_; exact RetN.mk ⟨[], rfl, rfl, rfl⟩)
  (refine gw ?_; refine IfB.ff (by rw [hua]; simp; omega) ?_)
  by_cases h7 : b.length > 100
  · (refine gw ?_; refine IfB.tt (by rw [hub]; simp; omega) ?_)
    (refine gw ?_; exact RetN.mk ⟨[], rfl, rfl, rfl⟩)
  (refine gw ?_; refine IfB.ff (by rw [hub]; simp; omega) ?_)
  (refine gw ?_; refine Choice.mk ⟨false, Choice.mk ⟨false, _, _, made_told a, ?_⟩⟩)
  (refine gw ?_; refine Choice.mk ⟨true, Choice.mk ⟨false, _, _, t1, ?_⟩⟩)
  by_cases he : e = 0
  case neg =>
    (refine gw ?_; refine Choice.mk ⟨false, Choice.mk ⟨false, _, _, n1e he, ?_⟩⟩)
    (refine gw ?_; refine IfB.tt (by simpa using he) ?_)
    (refine gw ?_; exact RetN.mk ⟨[], rfl, rfl, rfl⟩)
  subst he
  have hm0 : MoOk m0 := hok rfl
  obtain ⟨s0, hr0, n1⟩ := n1 rfl
  (refine gw ?_; refine Choice.mk ⟨false, Choice.mk ⟨false, _, _, n1, ?_⟩⟩)
  (refine gw ?_; refine Choice.mk ⟨false, Choice.mk ⟨false, _, _, made_told b, ?_⟩⟩)
  (refine gw ?_; refine Choice.mk ⟨true, Choice.mk ⟨false, _, _, o1, ?_⟩⟩)
  (refine gw ?_; refine LoopN.mk ⟨[6,8,9], fun vs L => ∃ (k : Nat) (m : Mo) (s : Hs), vs = [.ptr 0 0 0, .lst t_api_Op (os.map X.encO), i64 k] ∧ L = hsL m.c (m.c.H / m.c.G) (m.c.L + 1) s ∧ k ≤ os.length ∧ MoOk m ∧ Hr m s, fun vs L => match vs with | [_, _, .int _ i] => os.length - i.toNat | _ => 0, [], [2,3,4,5], rfl, ⟨0, m0, s0, rfl, rfl, by omega, hm0, hr0⟩, ?_⟩)
  rintro vs L ⟨k, m, s, rfl, rfl, hk, hm, hr⟩
  by_cases hko : k < os.length
  · obtain ⟨s', hr', d1⟩ := hpDoI hr hm (oo _ (List.getElem_mem hko))
    have hd := doF_ok hm (oo _ (List.getElem_mem hko))
    (refine gw ?_; refine IfB.tt (by rw [hom]; simp; omega) ?_)
    (refine gw ?_; refine idx_map (hko) ?_)
    (refine gw ?_; refine Choice.mk ⟨false, Choice.mk ⟨false, _, _, d1, ?_⟩⟩)
    (refine gw ?_; refine ⟨[], [0,1,2,3], rfl, ⟨k + 1, _, s', rfl, rfl, hko, hd.1, hr'⟩, (by omega : os.length - ((k : Int) + 1).toNat < os.length - (k : Int).toNat)⟩)
  have b1 := hpBlocksW hr hm
  have p1 := hpPagesW hr hm
  (refine gw ?_; refine IfB.ff (by rw [hom]; simp; omega) ?_)
  (refine gw ?_; refine Choice.mk ⟨false, Choice.mk ⟨false, _, _, b1, ?_⟩⟩)
  (refine gw ?_; refine Choice.mk ⟨false, Choice.mk ⟨false, _, _, p1, ?_⟩⟩)
  have hbl : (m.bs.map eB).length = m.bs.length := by simp
  have hol : (m.on.map AV.bool).length = m.on.length := by simp
  have hbm := hm.bd
  have hlen := hm.a.len
  have hH := hm.c.h2
  have s2 := sameBlocksR m.bs hbm.1
  have s3 := sameBoolsR m.on hbm.2.1
  (refine gw ?_)
  refine Room.mk (by simp; omega) ?_
  (refine gw ?_)
  refine Room.mk (by simp; omega) ?_
  (refine gw ?_)
  (refine gw ?_; refine LoopN.mk ⟨[6,10,11,12,13,14], fun vs L => ∃ (k : Nat) (es : List AV), vs = [.ptr 0 0 0, .ref 4, .ref 5, .ref 6, .ref 7, i64 k] ∧ L = hsL m.c (m.c.H / m.c.G) (m.c.L + 1) s ++ [.row t_api_Block es, .row t_bool (m.on.map .bool), .row t_api_Block (m.bs.map eB), .row t_bool (m.on.map .bool)] ∧ es.length = m.bs.length ∧ k ≤ m.bs.length, fun vs L => match vs with | [_, _, _, _, _, .int _ i] => m.bs.length - i.toNat | _ => 0, [], [0,1,2,3,4,5,7,9], rfl, ⟨0, m.bs.map eB, rfl, rfl, hbl, by omega⟩, ?_⟩)
  rintro vs L ⟨k1, es, rfl, rfl, hes, hk1⟩
  by_cases hkb : k1 < m.bs.length
  · (refine gw ?_; refine IfB.tt (by rw [hes]; simp; omega) ?_)
    (refine gw ?_; refine ⟨[], [0,1,2,3,4,5,6,7], rfl, ⟨k1 + 1, es.set k1 (.agg [i64 7, i64 1, i64 0]), rfl, rfl, by rw [List.length_set]; exact hes, hkb⟩, (by omega : m.bs.length - ((k1 : Int) + 1).toNat < m.bs.length - (k1 : Int).toNat)⟩)
  (refine gw ?_; refine IfB.ff (by rw [hes]; simp; omega) ?_)
  (refine gw ?_; refine LoopN.mk ⟨[6,11,12,13,15], fun vs L => ∃ (k : Nat) (bl : List Bool), vs = [.ptr 0 0 0, .ref 4, .ref 5, .ref 6, i64 k] ∧ L = hsL m.c (m.c.H / m.c.G) (m.c.L + 1) s ++ [.row t_bool (bl.map .bool), .row t_api_Block (m.bs.map eB), .row t_bool (m.on.map .bool)] ∧ bl.length = m.on.length ∧ k ≤ m.on.length, fun vs L => match vs with | [_, _, _, _, .int _ i] => m.on.length - i.toNat | _ => 0, [], [0,1,2,3,5,6,7], rfl, ⟨0, m.on, rfl, rfl, rfl, by omega⟩, ?_⟩)
  rintro vs L ⟨k2, bl, rfl, rfl, hbl2, hk2⟩
  have hbm2 : (bl.map AV.bool).length = m.on.length := by rw [List.length_map]; exact hbl2
  by_cases hkb : k2 < m.on.length
  · have h2 : k2 < bl.length := by omega
    (refine gw ?_; refine IfB.tt (by rw [hbm2]; simp; omega) ?_)
    (refine gw ?_)
    refine at_map (k := k2) h2 ?_
    (refine gw ?_; refine ⟨[], [0,1,2,3,4,5,6], rfl, ⟨k2 + 1, bl.set k2 (!bl[k2]), rfl, by rw [List.map_set]; rfl, by rw [List.length_set]; exact hbl2, hkb⟩, (by omega : m.on.length - ((k2 : Int) + 1).toNat < m.on.length - (k2 : Int).toNat)⟩)
  (refine gw ?_; refine IfB.ff (by rw [hbm2]; simp; omega) ?_)
  have b2 := hpBlocksI hr hm
  have p2 := hpPagesI hr hm
  (refine gw ?_; refine Choice.mk ⟨false, Choice.mk ⟨true, _, _, b2, Need.mk rfl ?_⟩⟩)
  (refine gw ?_; refine Choice.mk ⟨false, Choice.mk ⟨true, _, _, s2, ?_⟩⟩)
  (refine gw ?_; refine Choice.mk ⟨false, Choice.mk ⟨true, _, _, p2, Need.mk rfl ?_⟩⟩)
  (refine gw ?_; refine Choice.mk ⟨false, Choice.mk ⟨true, _, _, s3, ?_⟩⟩)
  (refine gw ?_; exact RetN.mk ⟨[], rfl, rfl, rfl⟩)
theorem heapOwn {x0 x1 : AV} (h0 : Shp T 8 ts_uint8 x0) (h1 : Shp T 8 ts_uint8 x1) : Told P T law18_HeapOwn [] [x0, x1] (.bool true) [] := by
  obtain ⟨a, rfl, ha, hla⟩ := shp_bytes h0
  obtain ⟨b, rfl, hb, hlb⟩ := shp_bytes h1
  exact heapOwn_told ha hla hb hlb
end Go.Ev.W
namespace Go.Ev.W
open Go.Ev Go.Ev.N

def rlO (p s : Nat) : X.O := ⟨4, p, s, 0, 0, 0⟩
theorem opOk_of {k p s : Int} (hk : 1 ≤ k ∧ k ≤ 10) (hp : -65536 ≤ p ∧ p ≤ 65536) (hs : 0 ≤ s ∧ s ≤ 200000) : OpOk ⟨k, p, s, 0, 0, 0⟩ := ⟨by simp only; omega, by simp only; omega, by simp only; omega, by simp, by simp, by simp⟩
set_option maxRecDepth 20000 in
set_option maxHeartbeats 8000000 in
theorem heapLongs_told {a b : List Nat} (ha : IsB a) (hla : a.length ≤ maxLen) (hb : IsB b) (hlb : b.length ≤ maxLen) : Told P T law18_HeapLongs [] [lB a, lB b] (.bool true) [] := by
  have hua : (a.map u8).length = a.length := by simp
  have hub : (b.map u8).length = b.length := by simp
  have oka : (⟨a, 0⟩ : Pk).Ok := ⟨ha, Nat.zero_le _, hla⟩
  have t1 := raw_told ⟨a, 0⟩ oka true
  generalize rawF ⟨a, 0⟩ true = R at *
  obtain ⟨r, pa⟩ := R
  have n1 := hpNewI (r := r)
  have n1e := hpNewE (r := r)
  have n2 := new17_told r
  have hok := newM_ok (r := r)
  generalize newM r = M at *
  obtain ⟨m0, e⟩ := M
  refine told_of_ev (fn := law18_HeapLongs_fn) tabOk mixed (by kernel_rfl) (by kernel_rfl) (by kernel_rfl) (by kernel_rfl) ?_
  (refine gw ?_; refine Choice.mk ⟨false, Choice.mk ⟨false, _, _, begun18_told, ?_⟩⟩)
  by_cases h6 : a.length > 6
  · (refine gw ?_; refine IfB.tt (by rw [hua]; simp; omega) ?_)
    (refine gw ?_; exact RetN.mk ⟨[], rfl, rfl, rfl⟩)
  (refine gw ?_; refine IfB.ff (by rw [hua]; simp; omega) ?_)
  by_cases h7 : b.length > 60
  · (refine gw ?_; refine IfB.tt (by rw [hub]; simp; omega) ?_)
    (refine gw ?_; exact RetN.mk ⟨[], rfl, rfl, rfl⟩)
  (refine gw ?_; refine IfB.ff (by rw [hub]; simp; omega) ?_)
  by_cases h8 : b.length = 0
  · (refine gw ?_; refine IfB.tt (by rw [hub, h8]; rfl) ?_)
    (refine gw ?_; exact RetN.mk ⟨[], rfl, rfl, rfl⟩)
  (refine gw ?_; refine IfB.ff (by rw [hub]; simpa using h8) ?_)
  (refine gw ?_; refine Choice.mk ⟨false, Choice.mk ⟨false, _, _, made_told a, ?_⟩⟩)
  (refine gw ?_; refine Choice.mk ⟨true, Choice.mk ⟨false, _, _, t1, ?_⟩⟩)
  by_cases he : e = 0
  case neg =>
    (refine gw ?_; refine Choice.mk ⟨false, Choice.mk ⟨false, _, _, n1e he, ?_⟩⟩)
    (refine gw ?_; refine Choice.mk ⟨false, Choice.mk ⟨false, _, _, n2, ?_⟩⟩)
    (refine gw ?_; refine IfB.ff (by simp [he]) ?_)
    (refine gw ?_; refine LoopN.mk ⟨[1,6,8,10], fun vs L => vs = [lB b, .npt, .ptr 0 0 0, i64 0] ∧ L = [.var (eM m0)], fun vs L => match vs with | [_, _, _, .int _ i] => 0 | _ => 0, [], [2], rfl, ⟨rfl, rfl⟩, ?_⟩)
    rintro vs L ⟨rfl, rfl⟩
    (refine gw ?_; exact RetN.mk ⟨[], rfl, rfl, rfl⟩)
  subst he
  have hm0 : MoOk m0 := hok rfl
  obtain ⟨s0, hr0, n1⟩ := n1 rfl
  (refine gw ?_; refine Choice.mk ⟨false, Choice.mk ⟨false, _, _, n1, ?_⟩⟩)
  (refine gw ?_; refine Choice.mk ⟨false, Choice.mk ⟨false, _, _, n2, ?_⟩⟩)
  (refine gw ?_; refine LoopN.mk ⟨[1,6,8,10], fun vs L => ∃ (k : Nat) (m : Mo) (s : Hs), vs = [lB b, .ptr 0 0 0, .ptr 4 0 0, i64 k] ∧ L = hsL m.c (m.c.H / m.c.G) (m.c.L + 1) s ++ [.var (eM m)] ∧ k ≤ 150 ∧ MoOk m ∧ Hr m s, fun vs L => match vs with | [_, _, _, .int _ i] => 150 - i.toNat | _ => 0, [], [2,3,4,5,7], rfl, ⟨0, m0, s0, rfl, rfl, by omega, hm0, hr0⟩, ?_⟩)
  rintro vs L ⟨k, m, s, rfl, rfl, hk, hm, hr⟩
  have hbm := hm.bd
  by_cases hk15 : k < 150
  · have e1 : ((k : Nat) : Int).tmod ((b.map u8).length : Nat) = ((k % b.length : Nat) : Int) := by rw [hub]; exact (Int.ofNat_tmod _ _).symm
    have hlt : k % b.length < b.length := Nat.mod_lt _ (by omega)
    have hbx := hb _ (List.getElem_mem hlt)
    have hx : ∀ Q : AV → Prop, Q (u8 b[k % b.length]) → Idx (b.map u8) ((k % b.length : Nat) : Int) Q := fun Q q => idx_map (f := u8) hlt q
    (refine gw ?_; refine IfB.tt (by simp; omega) ?_)
    (refine gw ?_)
    rw [e1]
    (refine gw ?_)
    refine hx _ ?_
    generalize b[k % b.length] = x at *
    have hN := hm.c.nM
    have hMH := hm.c.mH
    have hHH := hm.c.h2
    have hN1 : 1 ≤ m.c.N := by rw [hm.c.n]; exact Nat.mul_pos hm.c.gpos (Nat.two_pow_pos _)
    obtain ⟨z, hz⟩ : ∃ z : Nat, z = x + k := ⟨_, rfl⟩
    have hzc : (x : Int) + (k : Int) = ((z : Nat) : Int) := by omega
    have e2 : ((z : Nat) : Int).tmod (m.c.N : Nat) = ((z % m.c.N : Nat) : Int) := (Int.ofNat_tmod _ _).symm
    have e3 : ((z : Nat) : Int).tmod 3 = ((z % 3 : Nat) : Int) := (Int.ofNat_tmod _ _).symm
    have e4 : ((z : Nat) : Int).tmod 13 = ((z % 13 : Nat) : Int) := (Int.ofNat_tmod _ _).symm
    have e5 : ((z : Nat) : Int).tdiv 3 = ((z / 3 : Nat) : Int) := (Int.ofNat_tdiv _ _).symm
    have e6 : ((z : Nat) : Int).tdiv 7 = ((z / 7 : Nat) : Int) := (Int.ofNat_tdiv _ _).symm
    have hzN : z % m.c.N < m.c.N := Nat.mod_lt _ hN1
    have hml : (m.bs.map eB).length = m.bs.length := by simp
    have hlen := hm.a.len
    have hdA : 0 < m.bs.length → z / 3 % m.bs.length < m.bs.length := fun h => Nat.mod_lt _ h
    have hdB : 0 < m.bs.length → z / 7 % m.bs.length < m.bs.length := fun h => Nat.mod_lt _ h
    have e7 : ((z / 3 : Nat) : Int).tmod ((m.bs.map eB).length : Nat) = ((z / 3 % m.bs.length : Nat) : Int) := by rw [hml]; exact (Int.ofNat_tmod _ _).symm
    have e8 : ((z / 7 : Nat) : Int).tmod ((m.bs.map eB).length : Nat) = ((z / 7 % m.bs.length : Nat) : Int) := by rw [hml]; exact (Int.ofNat_tmod _ _).symm
    have okM : OpOk ⟨1, 0, ((1 + z % m.c.N : Nat) : Int), 0, 0, 0⟩ := opOk_of (by omega) (by omega) (by omega)
    (refine gw ?_)
    rw [hzc, e2]
    have c1 : (1 : Int) + ((z % m.c.N : Nat) : Int) = ((1 + z % m.c.N : Nat) : Int) := by omega
    refine fits (wrap64 (by omega) (by omega)) ?_
    rw [c1]
    (refine gw ?_)
    rw [e3]
    by_cases hA : z % 3 = 0
    · (refine gw ?_; refine IfB.tt (by simp [hA]) ?_)
      by_cases hL : 0 < m.bs.length
      · (refine gw ?_; refine IfB.tt (by rw [hml]; simp; omega) ?_)
        (refine gw ?_)
        rw [e5]
        (refine gw ?_)
        rw [e7]
        refine idx_map (hdA hL) ?_
        have hab := hm.a.b _ (List.getElem_mem (hdA hL))
        have okF : OpOk ⟨5, m.bs[z / 3 % m.bs.length].a, 0, 0, 0, 0⟩ := opOk_of (by omega) (by omega) (by omega)
        (refine gw ?_)
        rw [e4]
        by_cases hB : z % 13 = 1
        · (refine gw ?_; refine IfB.tt (by simp [hB]) ?_)
          (refine gw ?_; refine IfB.tt (by rw [hml]; simp; omega) ?_)
          (refine gw ?_)
          rw [e6]
          (refine gw ?_)
          rw [e8]
          refine idx_map (hdB hL) ?_
          (refine gw ?_)
          rw [e2, c1]
          have hab := hm.a.b _ (List.getElem_mem (hdB hL))
          have okR : OpOk ⟨4, m.bs[z / 7 % m.bs.length].a, ((1 + z % m.c.N : Nat) : Int), 0, 0, 0⟩ := opOk_of (by omega) (by omega) (by omega)
          obtain ⟨s', hr', d1⟩ := hpDoI hr hm okR
          have d2 := do17_told hm okR
          have hd := doF_ok hm okR
          generalize doF m ⟨4, m.bs[z / 7 % m.bs.length].a, ((1 + z % m.c.N : Nat) : Int), 0, 0, 0⟩ = D at *
          obtain ⟨m', an'⟩ := D
          (refine gw ?_; refine Choice.mk ⟨false, Choice.mk ⟨false, _, _, d2, ?_⟩⟩)
          (refine gw ?_; refine Choice.mk ⟨false, Choice.mk ⟨false, _, _, d1, ?_⟩⟩)
          (refine gw ?_; refine ⟨[], [0,1,2,3,4], rfl, ⟨k + 1, m', s', rfl, rfl, hk15, hd.1, hr'⟩, (by omega : 150 - ((k : Int) + 1).toNat < 150 - (k : Int).toNat)⟩)
        · (refine gw ?_; refine IfB.ff (by simp; omega) ?_)
          obtain ⟨s', hr', d1⟩ := hpDoI hr hm okF
          have d2 := do17_told hm okF
          have hd := doF_ok hm okF
          generalize doF m ⟨5, m.bs[z / 3 % m.bs.length].a, 0, 0, 0, 0⟩ = D at *
          obtain ⟨m', an'⟩ := D
          (refine gw ?_; refine Choice.mk ⟨false, Choice.mk ⟨false, _, _, d2, ?_⟩⟩)
          (refine gw ?_; refine Choice.mk ⟨false, Choice.mk ⟨false, _, _, d1, ?_⟩⟩)
          (refine gw ?_; refine ⟨[], [0,1,2,3,4], rfl, ⟨k + 1, m', s', rfl, rfl, hk15, hd.1, hr'⟩, (by omega : 150 - ((k : Int) + 1).toNat < 150 - (k : Int).toNat)⟩)
      · (refine gw ?_; refine IfB.ff (by rw [hml]; simpa using hL) ?_)
        (refine gw ?_)
        rw [e4]
        by_cases hB : z % 13 = 1
        · (refine gw ?_; refine IfB.tt (by simp [hB]) ?_)
          (refine gw ?_; refine IfB.ff (by rw [hml]; simpa using hL) ?_)
          obtain ⟨s', hr', d1⟩ := hpDoI hr hm okM
          have d2 := do17_told hm okM
          have hd := doF_ok hm okM
          generalize doF m ⟨1, 0, ((1 + z % m.c.N : Nat) : Int), 0, 0, 0⟩ = D at *
          obtain ⟨m', an'⟩ := D
          (refine gw ?_; refine Choice.mk ⟨false, Choice.mk ⟨false, _, _, d2, ?_⟩⟩)
          (refine gw ?_; refine Choice.mk ⟨false, Choice.mk ⟨false, _, _, d1, ?_⟩⟩)
          (refine gw ?_; refine ⟨[], [0,1,2,3,4], rfl, ⟨k + 1, m', s', rfl, rfl, hk15, hd.1, hr'⟩, (by omega : 150 - ((k : Int) + 1).toNat < 150 - (k : Int).toNat)⟩)
        · (refine gw ?_; refine IfB.ff (by simp; omega) ?_)
          obtain ⟨s', hr', d1⟩ := hpDoI hr hm okM
          have d2 := do17_told hm okM
          have hd := doF_ok hm okM
          generalize doF m ⟨1, 0, ((1 + z % m.c.N : Nat) : Int), 0, 0, 0⟩ = D at *
          obtain ⟨m', an'⟩ := D
          (refine gw ?_; refine Choice.mk ⟨false, Choice.mk ⟨false, _, _, d2, ?_⟩⟩)
          (refine gw ?_; refine Choice.mk ⟨false, Choice.mk ⟨false, _, _, d1, ?_⟩⟩)
          (refine gw ?_; refine ⟨[], [0,1,2,3,4], rfl, ⟨k + 1, m', s', rfl, rfl, hk15, hd.1, hr'⟩, (by omega : 150 - ((k : Int) + 1).toNat < 150 - (k : Int).toNat)⟩)
    · (refine gw ?_; refine IfB.ff (by simp; omega) ?_)
      (refine gw ?_)
      rw [e4]
      by_cases hB : z % 13 = 1
      · (refine gw ?_; refine IfB.tt (by simp [hB]) ?_)
        by_cases hL : 0 < m.bs.length
        · skip
          (refine gw ?_; refine IfB.tt (by rw [hml]; simp; omega) ?_)
          (refine gw ?_)
          rw [e6]
          (refine gw ?_)
          rw [e8]
          refine idx_map (hdB hL) ?_
          (refine gw ?_)
          rw [e2, c1]
          have hab := hm.a.b _ (List.getElem_mem (hdB hL))
          have okR : OpOk ⟨4, m.bs[z / 7 % m.bs.length].a, ((1 + z % m.c.N : Nat) : Int), 0, 0, 0⟩ := opOk_of (by omega) (by omega) (by omega)
          obtain ⟨s', hr', d1⟩ := hpDoI hr hm okR
          have d2 := do17_told hm okR
          have hd := doF_ok hm okR
          generalize doF m ⟨4, m.bs[z / 7 % m.bs.length].a, ((1 + z % m.c.N : Nat) : Int), 0, 0, 0⟩ = D at *
          obtain ⟨m', an'⟩ := D
          (refine gw ?_; refine Choice.mk ⟨false, Choice.mk ⟨false, _, _, d2, ?_⟩⟩)
          (refine gw ?_; refine Choice.mk ⟨false, Choice.mk ⟨false, _, _, d1, ?_⟩⟩)
          (refine gw ?_; refine ⟨[], [0,1,2,3,4], rfl, ⟨k + 1, m', s', rfl, rfl, hk15, hd.1, hr'⟩, (by omega : 150 - ((k : Int) + 1).toNat < 150 - (k : Int).toNat)⟩)
        · skip
          (refine gw ?_; refine IfB.ff (by rw [hml]; simpa using hL) ?_)
          obtain ⟨s', hr', d1⟩ := hpDoI hr hm okM
          have d2 := do17_told hm okM
          have hd := doF_ok hm okM
          generalize doF m ⟨1, 0, ((1 + z % m.c.N : Nat) : Int), 0, 0, 0⟩ = D at *
          obtain ⟨m', an'⟩ := D
          (refine gw ?_; refine Choice.mk ⟨false, Choice.mk ⟨false, _, _, d2, ?_⟩⟩)
          (refine gw ?_; refine Choice.mk ⟨false, Choice.mk ⟨false, _, _, d1, ?_⟩⟩)
          (refine gw ?_; refine ⟨[], [0,1,2,3,4], rfl, ⟨k + 1, m', s', rfl, rfl, hk15, hd.1, hr'⟩, (by omega : 150 - ((k : Int) + 1).toNat < 150 - (k : Int).toNat)⟩)
      · (refine gw ?_; refine IfB.ff (by simp; omega) ?_)
        obtain ⟨s', hr', d1⟩ := hpDoI hr hm okM
        have d2 := do17_told hm okM
        have hd := doF_ok hm okM
        generalize doF m ⟨1, 0, ((1 + z % m.c.N : Nat) : Int), 0, 0, 0⟩ = D at *
        obtain ⟨m', an'⟩ := D
        (refine gw ?_; refine Choice.mk ⟨false, Choice.mk ⟨false, _, _, d2, ?_⟩⟩)
        (refine gw ?_; refine Choice.mk ⟨false, Choice.mk ⟨false, _, _, d1, ?_⟩⟩)
        (refine gw ?_; refine ⟨[], [0,1,2,3,4], rfl, ⟨k + 1, m', s', rfl, rfl, hk15, hd.1, hr'⟩, (by omega : 150 - ((k : Int) + 1).toNat < 150 - (k : Int).toNat)⟩)
  · have s2 := sameBlocksR m.bs hbm.1
    have b2 := hpBlocksI hr hm
    (refine gw ?_; refine IfB.ff (by simp; omega) ?_)
    (refine gw ?_; refine Choice.mk ⟨false, Choice.mk ⟨true, _, _, b2, Need.mk rfl ?_⟩⟩)
    (refine gw ?_; refine Choice.mk ⟨false, Choice.mk ⟨false, _, _, s2, ?_⟩⟩)
    (refine gw ?_; exact RetN.mk ⟨[], rfl, rfl, rfl⟩)
theorem heapLongs {x0 x1 : AV} (h0 : Shp T 8 ts_uint8 x0) (h1 : Shp T 8 ts_uint8 x1) : Told P T law18_HeapLongs [] [x0, x1] (.bool true) [] := by
  obtain ⟨a, rfl, ha, hla⟩ := shp_bytes h0
  obtain ⟨b, rfl, hb, hlb⟩ := shp_bytes h1
  exact heapLongs_told ha hla hb hlb
end Go.Ev.W
