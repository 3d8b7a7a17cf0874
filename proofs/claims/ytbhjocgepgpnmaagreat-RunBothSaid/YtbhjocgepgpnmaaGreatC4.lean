/- Words and lemmas, part 4, for laws of this seat (a part of their proofs). -/
import Derived.Test.YtbhjocgepgpnmaaGreatC3
set_option linter.unusedVariables false
set_option linter.unusedSimpArgs false
namespace Go.Ev.W
open Go.Ev Go.Ev.N

/-- Where a class's place is free. -/
theorem Hb.free {c : Cf} {l : List Bk} {b : Nat → Bool} {m : List M} {ds : List Bk} {met : List Int} (hc : c.Ok) (ha : ApB c.H l) (hz : ∀ x ∈ l, SzB c x) (h : Hb c l b m ds met) {k i : Nat} (hk : k ≤ c.L) (hi : i < c.H / c.G / 2 ^ k) : upB b k i = false ↔ freeAt l (c.G * 2 ^ k : Nat) ((i * (c.G * 2 ^ k) : Nat) : Int) = true := by
  have hg := hc.gpos
  have hgG := hc.gG
  have hsz := (hc.sl.sz (k := k) (by omega)).2.2
  have hp : 0 < 2 ^ k := Nat.two_pow_pos k
  have hin : ∀ x, x / 2 ^ k = i → x < c.H / c.G := fun x hx => by
    rw [Nat.div_eq_iff hp] at hx
    have : (i + 1) * 2 ^ k ≤ c.H / c.G / 2 ^ k * 2 ^ k := Nat.mul_le_mul_right _ (by omega)
    rw [hsz, Nat.add_mul] at this
    omega
  rw [← Bool.not_eq_true, upB_true, freeAt_iff]
  have hn : i * (c.G * 2 ^ k) = i * 2 ^ k * c.G := by rw [Nat.mul_assoc, Nat.mul_comm c.G]
  rw [hn]
  constructor
  · intro hu x hx hq
    refine hu ?_
    obtain ⟨j, hj, hj2, hj3, _⟩ := hz x hx
    have hb := ha.b x hx
    obtain ⟨t, ht⟩ := Int.dvd_of_emod_eq_zero hj3
    have ht0 : 0 ≤ t := by
      rcases Int.lt_or_le t 0 with h' | h'
      · have : x.c * t ≤ x.c * (-1) := Int.mul_le_mul_of_nonneg_left (by omega) (by omega)
        omega
      · exact h'
    obtain ⟨t, rfl⟩ : ∃ n : Nat, t = n := ⟨t.toNat, by omega⟩
    have hA : x.a = ((t * 2 ^ j * c.G : Nat) : Int) := by
      rw [ht, hj2, ← Int.natCast_mul, Nat.mul_comm (c.G * 2 ^ j), Nat.mul_comm c.G, Nat.mul_assoc]
    have hC : x.c = ((2 ^ j * c.G : Nat) : Int) := by rw [hj2, Nat.mul_comm]
    have hp2 : 0 < 2 ^ j := Nat.two_pow_pos j
    have hnn : c.G * 2 ^ k = 2 ^ k * c.G := Nat.mul_comm _ _
    rw [hnn, hA, hC] at hq
    have q1 : i * 2 ^ k < t * 2 ^ j + 2 ^ j := by
      have : i * 2 ^ k * c.G < (t * 2 ^ j + 2 ^ j) * c.G := by rw [Nat.add_mul]; omega
      exact Nat.lt_of_mul_lt_mul_right this
    have q2 : t * 2 ^ j < i * 2 ^ k + 2 ^ k := by
      have : t * 2 ^ j * c.G < (i * 2 ^ k + 2 ^ k) * c.G := by rw [Nat.add_mul]; omega
      exact Nat.lt_of_mul_lt_mul_right this
    have e1 : max (t * 2 ^ j) (i * 2 ^ k) / 2 ^ k = i := by rw [Nat.div_eq_iff hp]; omega
    refine ⟨_, e1, ?_⟩
    rw [h.b _ (hin _ e1), cov_iff]
    refine ⟨x, hx, ?_, ?_⟩
    · rw [hA]
      have : t * 2 ^ j * c.G ≤ max (t * 2 ^ j) (i * 2 ^ k) * c.G := Nat.mul_le_mul_right _ (Nat.le_max_left _ _)
      omega
    · rw [hA, hC, ← Int.natCast_add, ← Nat.add_mul]
      have : max (t * 2 ^ j) (i * 2 ^ k) * c.G < (t * 2 ^ j + 2 ^ j) * c.G := Nat.mul_lt_mul_of_pos_right (by omega) (by omega)
      omega
  · rintro hf ⟨x, hx, hbx⟩
    rw [h.b _ (hin _ hx), cov_iff] at hbx
    obtain ⟨z, hz1, hz2, hz3⟩ := hbx
    rw [Nat.div_eq_iff hp] at hx
    refine hf z hz1 ?_
    have q1 : i * 2 ^ k * c.G ≤ x * c.G := Nat.mul_le_mul_right _ (by omega)
    have q2 : x * c.G < (i * 2 ^ k + 2 ^ k) * c.G := Nat.mul_lt_mul_of_pos_right (by omega) (by omega)
    rw [Nat.add_mul, Nat.mul_comm (2 ^ k) c.G] at q2
    omega
theorem lowGo_none {l : List Bk} {n : Nat} : ∀ (f k : Nat), (∀ j, k ≤ j → j < k + f → freeAt l n ((j * n : Nat) : Int) = false) → lowGo l n f k = (0, false)
  | 0, _, _ => rfl
  | f + 1, k, h => by
    unfold lowGo
    rw [if_neg (by rw [h k (Nat.le_refl _) (by omega)]; simp)]
    exact lowGo_none f (k + 1) fun j h1 h2 => h j (by omega) (by omega)
theorem lowGo_some {l : List Bk} {n : Nat} : ∀ (f k i : Nat), k ≤ i → i < k + f → (∀ j, k ≤ j → j < i → freeAt l n ((j * n : Nat) : Int) = false) → freeAt l n ((i * n : Nat) : Int) = true → lowGo l n f k = (i * n, true)
  | 0, k, i, h1, h2, _, _ => by omega
  | f + 1, k, i, h1, h2, h3, h4 => by
    unfold lowGo
    by_cases e : k = i
    · subst e; rw [if_pos h4]
    · rw [if_neg (by rw [h3 k (Nat.le_refl _) (by omega)]; simp)]
      exact lowGo_some f (k + 1) i (by omega) (by omega) (fun j a b => h3 j (by omega) b) h4
/-- The lowest place is the plain one's. -/
theorem Hb.low {c : Cf} {l : List Bk} {b : Nat → Bool} {m : List M} {ds : List Bk} {met : List Int} (hc : c.Ok) (ha : ApB c.H l) (hz : ∀ x ∈ l, SzB c x) (h : Hb c l b m ds met) {k : Nat} (hk : k ≤ c.L) :
    lowF c l (c.G * 2 ^ k) = match lowS (c.H / c.G) (c.L + 1) b k with | some i => (i * (c.G * 2 ^ k), true) | none => (0, false) := by
  have hdd : c.H / (c.G * 2 ^ k) = c.H / c.G / 2 ^ k := (Nat.div_div_eq_div_mul _ _ _).symm
  have hsz := hc.sl.sz (k := k) (by omega)
  have hfr := fun i (hi : i < c.H / c.G / 2 ^ k) => h.free hc ha hz hk hi
  unfold lowS lowF
  rw [if_pos (by omega), Int.toNat_natCast, hdd]
  rcases firI_spec (n := c.H / c.G / 2 ^ k) (b := upB b k) (f := 0) (by omega) with ⟨h2, h3⟩ | ⟨i, h2, _, h4, h5, h6⟩
  · have h2 : firI (c.H / c.G / 2 ^ k) (upB b k) 0 = none := h2
    rw [h2]
    refine lowGo_none _ _ fun j _ hj => ?_
    rw [← Bool.not_eq_true, ← hfr j (by omega), h3 j (by omega) (by omega)]; simp
  · have h2 : firI (c.H / c.G / 2 ^ k) (upB b k) 0 = some i := h2
    rw [h2]
    refine lowGo_some _ _ i (by omega) (by omega) (fun j _ hj => ?_) ((hfr i h4).1 h5)
    rw [← Bool.not_eq_true, ← hfr j (by omega), h6 j (by omega) hj]; simp
theorem ovr_pg {pg i y n : Nat} (hp : 1 ≤ pg) (hn : 1 ≤ n) : ovr (i * pg : Nat) pg y n = decide (y / pg ≤ i ∧ i < (y + n - 1) / pg + 1) := by
  unfold ovr
  refine decide_eq_decide.2 ?_
  have h1 := Nat.div_le_iff_le_mul_add_pred (a := y) (c := i) (b := pg) (by omega)
  have h2 := Nat.le_div_iff_mul_le (k := pg) (x := i) (y := y + n - 1) (by omega)
  rw [h1]
  have h3 : i < (y + n - 1) / pg + 1 ↔ i * pg ≤ y + n - 1 := by rw [← h2]; omega
  rw [h3, Nat.mul_comm pg i]
  constructor
  · rintro ⟨a, b⟩; omega
  · rintro ⟨a, b⟩; omega
theorem metA_rel {c : Cf} {l l' : List Bk} (hc : c.Ok) {y n : Nat} {v : Int} (hn : 1 ≤ n) (h : ∀ i, nmet c.Pg l' i = nmet c.Pg l i + if ovr (i * c.Pg : Nat) c.Pg y n = true then v else 0) :
    metA ((List.range (c.H / c.Pg)).map (nmet c.Pg l)) (y / c.Pg) ((y + n - 1) / c.Pg + 1) v = (List.range (c.H / c.Pg)).map (nmet c.Pg l') := by
  apply List.ext_getElem (by simp [metA])
  intro i h1 h2
  have hi : i < c.H / c.Pg := by simpa using h2
  simp only [metA, List.getElem_map, List.getElem_range]
  have hg : ((List.range (c.H / c.Pg)).map (nmet c.Pg l)).getD i 0 = nmet c.Pg l i := by rw [List.getD_eq_getElem?_getD, List.getElem?_eq_getElem (by simpa using hi)]; simp
  rw [hg, h i, ovr_pg hc.pgpos hn]
  by_cases hq : y / c.Pg ≤ i ∧ i < (y + n - 1) / c.Pg + 1
  · rw [if_pos hq, if_pos (by rw [decide_eq_true hq])]
  · rw [if_neg hq, if_neg (by rw [decide_eq_false hq]; simp)]; omega
theorem nmet_put (pg : Nat) (l : List Bk) (x : Bk) (i : Nat) : nmet pg (putB l x) i = nmet pg l i + if ovr (i * pg : Nat) pg x.a x.c = true then 1 else 0 := by
  unfold nmet putB
  conv => rhs; rw [show l = l.take (lowB x.a l) ++ l.drop (lowB x.a l) from (List.take_append_drop _ _).symm]
  simp only [List.countP_append, List.countP_cons]
  split <;> omega
theorem nmet_drop (pg : Nat) {l : List Bk} {j : Nat} (hj : j < l.length) (i : Nat) : nmet pg (dropB l j) i = nmet pg l i + if ovr (i * pg : Nat) pg l[j].a l[j].c = true then -1 else 0 := by
  unfold nmet dropB
  have e : l = l.take j ++ (l[j] :: l.drop (j + 1)) := by rw [← List.drop_eq_getElem_cons hj, List.take_append_drop]
  have e2 : l.countP (fun k => ovr (i * pg : Nat) pg k.a k.c) = (l.take j ++ (l[j] :: l.drop (j + 1))).countP (fun k => ovr (i * pg : Nat) pg k.a k.c) := by rw [← e]
  rw [e2]
  simp only [List.countP_append, List.countP_cons]
  split <;> omega
/-- A block is placed. -/
theorem Hb.put {c : Cf} {l : List Bk} {b : Nat → Bool} {m : List M} {ds : List Bk} {met : List Int} (hc : c.Ok) (ha : ApB c.H l) (hz : ∀ x ∈ l, SzB c x) (h : Hb c l b m ds met) {k i : Nat} (hk : k ≤ c.L) (hi : lowS (c.H / c.G) (c.L + 1) b k = some i) (q : Int) :
    Hb c (putB l ⟨(i * (c.G * 2 ^ k) : Nat), (c.G * 2 ^ k : Nat), q⟩) (placeB (c.H / c.G) (c.L + 1) b k) (placeL c.G (c.H / c.G) (c.L + 1) b m k) (setS ⟨(i * (c.G * 2 ^ k) : Nat), (c.G * 2 ^ k : Nat), q⟩ ds) (metA met ((i * (c.G * 2 ^ k)) / c.Pg) ((i * (c.G * 2 ^ k) + c.G * 2 ^ k - 1) / c.Pg + 1) 1) := by
  obtain ⟨k', ek, hkc, hik, hup, _⟩ := lowS_lt hc.sl hi
  have ek : k' = k := by omega
  subst ek
  have hg := hc.gpos
  have hgG := hc.gG
  have hH := hc.h2
  have hp : 0 < 2 ^ k' := Nat.two_pow_pos _
  have hf := (h.free hc ha hz (by omega) hik).1 hup
  have hbd := sz_bound hc.sl (G := c.G) (by rw [hgG]; exact hH) hkc hik
  have hn : i * (c.G * 2 ^ k') = i * 2 ^ k' * c.G := by rw [Nat.mul_assoc, Nat.mul_comm c.G]
  have hn1 : 1 ≤ c.G * 2 ^ k' := Nat.mul_pos (by omega) (by omega)
  have hnH : i * (c.G * 2 ^ k') + c.G * 2 ^ k' ≤ c.H := by
    have : (i * 2 ^ k' + 2 ^ k') * c.G ≤ c.H / c.G * c.G := Nat.mul_le_mul_right _ hbd.1
    rw [hgG, Nat.add_mul, Nat.mul_comm (2 ^ k')] at this
    omega
  obtain ⟨p1, p2, p3, p4⟩ := putB_ok ha (b := ⟨(i * (c.G * 2 ^ k') : Nat), (c.G * 2 ^ k' : Nat), q⟩) hf ⟨by simp only; omega, by simp only; omega, by simp only; omega⟩
  rw [freeAt_iff] at hf
  refine ⟨fun x hx => ?_, ?_, fun y => ?_, setS_nd _ h.nd, ?_⟩
  · unfold placeB
    rw [hi]
    simp only [Int.toNat_natCast]
    rw [setZc]
    apply Bool.eq_iff_iff.2
    rw [cov_iff]
    have hcell : x / 2 ^ k' = i ↔ (((i * (c.G * 2 ^ k') : Nat) : Int) ≤ ((x * c.G : Nat) : Int) ∧ ((x * c.G : Nat) : Int) < ((i * (c.G * 2 ^ k') : Nat) : Int) + ((c.G * 2 ^ k' : Nat) : Int)) := by
      rw [Nat.div_eq_iff hp, hn]
      have a1 : i * 2 ^ k' ≤ x ↔ i * 2 ^ k' * c.G ≤ x * c.G := ⟨fun h => Nat.mul_le_mul_right _ h, fun h => Nat.le_of_mul_le_mul_right h (by omega)⟩
      have a2 : x < i * 2 ^ k' + 2 ^ k' ↔ x * c.G < (i * 2 ^ k' + 2 ^ k') * c.G := ⟨fun h => Nat.mul_lt_mul_of_pos_right h (by omega), fun h => Nat.lt_of_mul_lt_mul_right h⟩
      rw [Nat.add_mul, Nat.mul_comm (2 ^ k') c.G] at a2
      omega
    by_cases e : x / 2 ^ k' = i
    · rw [if_pos e]
      exact ⟨fun _ => ⟨_, (p2 _).2 (.inl rfl), hcell.1 e⟩, fun _ => rfl⟩
    · rw [if_neg e, h.b x hx, cov_iff]
      constructor
      · rintro ⟨z, h1, h2⟩
        exact ⟨z, (p2 z).2 (.inr h1), h2⟩
      · rintro ⟨z, h1, h2⟩
        rcases (p2 z).1 h1 with rfl | h1
        · exact absurd (hcell.2 h2) e
        · exact ⟨z, h1, h2⟩
  · have hr : Rise m := by rw [h.m]; exact ha.rise
    unfold placeL
    rw [hi]
    simp only [Int.toNat_natCast]
    refine riseE (rise_put hr _) p1.rise fun w => ?_
    rw [mem_putM hr]
    have hnew : mkM c.G ⟨((i * (c.G * 2 ^ k') : Nat) : Int), ((c.G * 2 ^ k' : Nat) : Int), q⟩ = ⟨((i * 2 ^ k' * c.G : Nat) : Int), (k' : Nat)⟩ := by
      unfold mkM
      simp only [Int.toNat_natCast]
      rw [Nat.mul_div_cancel_left _ (by omega), Nat.log2_two_pow, hn]
    constructor
    · rintro (rfl | ⟨h1, h2⟩)
      · exact List.mem_map.2 ⟨_, (p2 _).2 (.inl rfl), hnew⟩
      · rw [h.m] at h1
        obtain ⟨z, hz1, rfl⟩ := List.mem_map.1 h1
        exact List.mem_map.2 ⟨z, (p2 z).2 (.inr hz1), rfl⟩
    · intro hw
      obtain ⟨z, hz1, rfl⟩ := List.mem_map.1 hw
      rcases (p2 z).1 hz1 with rfl | hz1
      · exact .inl hnew
      · refine .inr ⟨by rw [h.m]; exact List.mem_map.2 ⟨z, hz1, rfl⟩, fun e => ?_⟩
        have e : z.a = ((i * 2 ^ k' * c.G : Nat) : Int) := e
        have hb := ha.b z hz1
        refine hf z hz1 ⟨?_, ?_⟩
        · rw [e, hn]; omega
        · rw [e, hn]; omega
  · rw [getS_set, h.ds]
    simp only
    split
    · rename_i e
      exact (getS_of p1.inj ((p2 _).2 (.inl rfl)) e.symm).symm
    · rename_i e
      refine getS_ext p1.inj (fun x hx => ?_) ha.inj
      rw [p2]
      constructor
      · exact fun h => .inr h
      · rintro (rfl | h)
        · exact absurd hx.symm e
        · exact h
  · rw [h.met]
    refine metA_rel hc hn1 fun i' => ?_
    exact nmet_put _ _ _ _
theorem mem_dropB {l : List Bk} {j : Nat} (hj : j < l.length) (hp : ∀ x ∈ l, ∀ z ∈ l, x.a = z.a → x = z) (hn : l.Pairwise fun x z => x.a ≠ z.a) (x : Bk) : x ∈ dropB l j ↔ x ∈ l ∧ x.a ≠ l[j].a := by
  have e : l = l.take j ++ (l[j] :: l.drop (j + 1)) := by rw [← List.drop_eq_getElem_cons hj, List.take_append_drop]
  have e2 : x ∈ l ↔ x ∈ l.take j ∨ x = l[j] ∨ x ∈ l.drop (j + 1) := by
    conv => lhs; rw [e]
    rw [List.mem_append, List.mem_cons]
  have hn2 := hn
  rw [e] at hn2
  obtain ⟨n1, n2, n3⟩ := List.pairwise_append.1 hn2
  unfold dropB
  rw [List.mem_append, e2]
  constructor
  · rintro (h | h)
    · exact ⟨.inl h, n3 x h l[j] (List.mem_cons.2 (.inl rfl))⟩
    · exact ⟨.inr (.inr h), fun q => (List.pairwise_cons.1 n2).1 x h q.symm⟩
  · rintro ⟨h | h | h, h2⟩
    · exact .inl h
    · rw [h] at h2; exact absurd rfl h2
    · exact .inr h
theorem ApB.ne {H : Nat} {l : List Bk} (h : ApB H l) : l.Pairwise fun x z => x.a ≠ z.a := by
  refine List.Pairwise.imp_of_mem ?_ h.p
  intro x z hx hz e
  have := h.b x hx
  omega
/-- A block goes. -/
theorem Hb.drop {c : Cf} {l : List Bk} {b : Nat → Bool} {m : List M} {ds : List Bk} {met : List Int} (hc : c.Ok) (ha : ApB c.H l) (hz : ∀ x ∈ l, SzB c x) (h : Hb c l b m ds met) {j : Nat} (hj : j < l.length) {y n : Nat} (hy : l[j].a = y) (hn : l[j].c = n) :
    Hb c (dropB l j) (relB c.G b m y) (relL m y) (delS y ds) (metA met (y / c.Pg) ((y + n - 1) / c.Pg + 1) (-1)) := by
  have hr : Rise m := by rw [h.m]; exact ha.rise
  have hg := hc.gpos
  have hx := List.getElem_mem hj
  obtain ⟨k, hk, hk2, hk3, _⟩ := hz _ hx
  have hb := ha.b _ hx
  have hcl : mkM c.G l[j] = ⟨(y : Int), (k : Nat)⟩ := by
    unfold mkM
    rw [hy, hk2, Int.toNat_natCast, Nat.mul_div_cancel_left _ (by omega), Nat.log2_two_pow]
  have hmem : (⟨(y : Int), (k : Nat)⟩ : M) ∈ m := by rw [h.m, ← hcl]; exact List.mem_map.2 ⟨_, hx, rfl⟩
  obtain ⟨q1, q2⟩ := (cls_mem hr).2 hmem
  have hnk : n = c.G * 2 ^ k := by rw [hn] at hk2; exact_mod_cast hk2
  have hp : 0 < 2 ^ k := Nat.two_pow_pos _
  have hdv : y = y / c.G * c.G := by
    have hd : (y : Int) % ((n : Nat) : Int) = 0 := by rw [← hy, ← hn]; exact hk3
    have hd : y % n = 0 := by exact_mod_cast hd
    have : c.G ∣ y := Nat.dvd_trans ⟨2 ^ k, hnk⟩ (Nat.dvd_of_mod_eq_zero hd)
    exact (Nat.div_mul_cancel this).symm
  have hmd := mem_dropB hj ha.inj ha.ne
  rw [hy] at hmd
  refine ⟨fun x hxg => ?_, ?_, fun z => ?_, delS_nd _ h.nd, ?_⟩
  · unfold relB
    rw [q1, if_pos rfl, q2]
    simp only [Int.toNat_natCast]
    unfold setZ
    generalize y / c.G = u at *
    have hcell : (0 ≤ ((u : Nat) : Int) ∧ ((u : Nat) : Int) ≤ x ∧ (x : Int) < ((u : Nat) : Int) + ((2 ^ k : Nat) : Int)) ↔ ((y : Int) ≤ ((x * c.G : Nat) : Int) ∧ ((x * c.G : Nat) : Int) < (y : Int) + (n : Int)) := by
      have a1 : u ≤ x ↔ u * c.G ≤ x * c.G := ⟨fun h => Nat.mul_le_mul_right _ h, fun h => Nat.le_of_mul_le_mul_right h (by omega)⟩
      have a2 : x < u + 2 ^ k ↔ x * c.G < (u + 2 ^ k) * c.G := ⟨fun h => Nat.mul_lt_mul_of_pos_right h (by omega), fun h => Nat.lt_of_mul_lt_mul_right h⟩
      rw [← hdv] at a1
      rw [Nat.add_mul, ← hdv, Nat.mul_comm (2 ^ k) c.G, ← hnk] at a2
      omega
    apply Bool.eq_iff_iff.2
    rw [cov_iff]
    by_cases e : (0 ≤ ((u : Nat) : Int) ∧ ((u : Nat) : Int) ≤ x ∧ (x : Int) < ((u : Nat) : Int) + ((2 ^ k : Nat) : Int))
    · rw [if_pos e]
      refine ⟨fun q => (by cases q), ?_⟩
      rintro ⟨z, hz1, hz2, hz3⟩
      obtain ⟨hz1, hz4⟩ := (hmd z).1 hz1
      have := hcell.1 e
      have hzb := ha.b z hz1
      rcases ha.apart z hz1 _ hx (fun q => hz4 (by rw [q, hy])) with q | q <;> omega
    · rw [if_neg e, h.b x hxg, cov_iff]
      constructor
      · rintro ⟨z, hz1, hz2⟩
        refine ⟨z, (hmd z).2 ⟨hz1, fun q => e (hcell.2 ?_)⟩, hz2⟩
        have : z = l[j] := ha.inj z hz1 _ hx (by rw [q, hy])
        rw [this, hy, hn] at hz2
        exact hz2
      · rintro ⟨z, hz1, hz2⟩
        exact ⟨z, ((hmd z).1 hz1).1, hz2⟩
  · unfold relL
    rw [q1, if_pos rfl]
    refine riseE (rise_take hr _) (ha.sub (dropB_sub l j)).rise fun w => ?_
    rw [mem_takeM hr q1, h.m]
    constructor
    · rintro ⟨h1, h2⟩
      obtain ⟨z, hz1, rfl⟩ := List.mem_map.1 h1
      exact List.mem_map.2 ⟨z, (hmd z).2 ⟨hz1, h2⟩, rfl⟩
    · intro hw
      obtain ⟨z, hz1, rfl⟩ := List.mem_map.1 hw
      have := (hmd z).1 hz1
      exact ⟨List.mem_map.2 ⟨z, this.1, rfl⟩, this.2⟩
  · rw [getS_del _ _ h.nd, h.ds]
    split
    · rename_i e
      cases e2 : getS z (dropB l j) with
      | none => rfl
      | some w =>
        have := getS_mem e2
        exact absurd (by rw [this.2, e]) ((hmd w).1 this.1).2
    · rename_i e
      refine getS_ext (ha.sub (dropB_sub l j)).inj (fun x hx => ?_) ha.inj
      rw [hmd]
      exact ⟨fun h => ⟨h, by rw [hx]; exact e⟩, fun h => h.1⟩
  · rw [h.met]
    refine metA_rel hc (by omega) fun i' => ?_
    rw [nmet_drop _ hj, hy, hn]
/-- What went is back again. -/
theorem Hb.undo {c : Cf} {l : List Bk} {b : Nat → Bool} {m : List M} {ds : List Bk} {met : List Int} (hc : c.Ok) (ha : ApB c.H l) (h : Hb c l b m ds met) {j : Nat} (hj : j < l.length) {y n : Nat} {q : Int} (hy : l[j] = ⟨y, n, q⟩) (hn : 1 ≤ n) :
    Hb c l b m (setS ⟨y, n, q⟩ (delS y ds)) (metA (metA met (y / c.Pg) ((y + n - 1) / c.Pg + 1) (-1)) (y / c.Pg) ((y + n - 1) / c.Pg + 1) 1) := by
  refine ⟨h.b, h.m, fun z => ?_, setS_nd _ (delS_nd _ h.nd), ?_⟩
  · rw [getS_set, getS_del _ _ h.nd, h.ds]
    simp only
    split
    · rename_i e
      exact (getS_of ha.inj (by rw [← hy]; exact List.getElem_mem hj) e.symm).symm
    · rfl
  · rw [h.met, metA_rel (l' := dropB l j) hc hn fun i' => by rw [nmet_drop _ hj, hy]]
    refine metA_rel hc hn fun i' => ?_
    rw [nmet_drop _ hj, hy]
    split <;> omega
end Go.Ev.W
namespace Go.Ev.W
open Go.Ev Go.Ev.N

def newH (c : Cf) : Hs := ⟨offB, [], 0, 0, 0, List.replicate (c.H / c.Pg) false, [], List.replicate (c.H / c.Pg) 0, List.replicate c.H 0⟩
set_option maxRecDepth 20000 in
set_option maxHeartbeats 4000000 in
theorem hpNewE_told (r : Rw) (h : (ofF r).2 ≠ 0) : Told P T heap_New [] [eR r] (.tup [.npt, i64 ((ofF r).2 : Nat)]) [] := by
  have c1 := confOf_told r
  unfold eR eC at *
  refine told_of_ev (fn := heap_New_fn) tabOk mixed (by kernel_rfl) (by kernel_rfl) (by kernel_rfl) (by kernel_rfl) ?_
  (refine gw ?_; refine Choice.mk ⟨false, Choice.mk ⟨false, _, _, c1, ?_⟩⟩)
  (refine gw ?_; refine IfB.tt (by simp; omega) ?_)
  (refine gw ?_; exact RetN.mk ⟨[], rfl, rfl, rfl⟩)
set_option maxRecDepth 20000 in
set_option maxHeartbeats 4000000 in
theorem hpNew_told (r : Rw) (h : (ofF r).2 = 0) : Told P T heap_New [] [eR r] (.tup [.ptr 0 0 0, i64 0]) (hsL (ofF r).1 ((ofF r).1.H / (ofF r).1.G) ((ofF r).1.L + 1) (newH (ofF r).1) ++ [.fz t_bool ((List.replicate ((ofF r).1.H / (ofF r).1.Pg) false).map .bool)]) := by
  have c1 := confOf_told r
  have hok := (ofF_ok h).1
  have hH := hok.h2
  have hg := hok.gpos
  have hp := hok.pgpos
  have hdiv : (((ofF r).1.H : Nat) : Int).tdiv ((ofF r).1.Pg : Nat) = (((ofF r).1.H / (ofF r).1.Pg : Nat) : Int) := Int.ofNat_tdiv _ _
  have hdiv2 : (((ofF r).1.H : Nat) : Int).tdiv ((ofF r).1.G : Nat) = (((ofF r).1.H / (ofF r).1.G : Nat) : Int) := Int.ofNat_tdiv _ _
  have hle := Nat.div_le_self (ofF r).1.H (ofF r).1.Pg
  have hle2 := Nat.div_le_self (ofF r).1.H (ofF r).1.G
  have hL := hok.lL
  have hGH : (ofF r).1.G ≤ (ofF r).1.H := by
    have h1 := hok.n; have h2 := hok.nM; have h3 := hok.h
    have : (ofF r).1.G * 1 ≤ (ofF r).1.G * 2 ^ (ofF r).1.L := Nat.mul_le_mul_left _ (Nat.one_le_two_pow)
    omega
  have c2 := plNew_told (ofF r).1.G (((ofF r).1.H / (ofF r).1.G : Nat) : Int) (((ofF r).1.L : Nat) + 1) (by omega) (by generalize (ofF r).1.H / (ofF r).1.G = u at *; omega) (by omega)
  have hnw : NwOk ((ofF r).1.G : Nat) (((ofF r).1.H / (ofF r).1.G : Nat) : Int) (((ofF r).1.L : Nat) + 1) := by
    have hsl := hok.sl.int
    obtain ⟨a, ha⟩ := hok.g
    refine ⟨⟨by omega, by omega, ?_⟩, hsl, ?_⟩
    · rw [Int.toNat_natCast, ha, Nat.log2_two_pow]
    · rw [Int.toNat_natCast]
      have : (ofF r).1.H / (ofF r).1.G ≤ 65536 / (ofF r).1.G := Nat.div_le_div_right hH
      omega
  rw [show nwE ((ofF r).1.G : Nat) (((ofF r).1.H / (ofF r).1.G : Nat) : Int) (((ofF r).1.L : Nat) + 1) = eE (ofF r).1.G ((ofF r).1.H / (ofF r).1.G) ((ofF r).1.L + 1) offB [] by unfold nwE; rw [if_pos hnw]; simp only [Int.toNat_natCast]; rfl, decide_eq_true hnw] at c2
  have hz1 : ∀ n : Nat, List.replicate ((n : Nat) : Int).toNat (zeroE T t_int) = (List.replicate n (0 : Int)).map i64 := fun n => by rw [Int.toNat_natCast, List.map_replicate]; rfl
  have hz2 : ∀ n : Nat, List.replicate ((n : Nat) : Int).toNat (zeroE T t_bool) = (List.replicate n false).map AV.bool := fun n => by rw [Int.toNat_natCast, List.map_replicate]; rfl
  have hz3 : ∀ n : Nat, List.replicate ((n : Nat) : Int).toNat (zeroE T t_uint8) = (List.replicate n 0).map u8 := fun n => by rw [Int.toNat_natCast, List.map_replicate]; rfl
  rw [h] at c1
  unfold hsL newH
  generalize (ofF r).1 = c at *
  generalize c.H / c.G = g at *
  generalize hnp : c.H / c.Pg = np at *
  refine Told.cell (b := 0) (j := 16) (L' := [.var (.agg [i64 c.G, i64 c.N, i64 c.M, i64 c.L, i64 c.Pg, i64 c.P, i64 c.H, i64 c.Sd, i64 c.G, .lst t_api_Tree (tL g (c.L + 1) offB), .lst t_api_Mark [], .mp 1, i64 0, i64 0, i64 0, .ref 2, .ref 4, .ref 3]), .map t_heap_start [], .row t_int ((List.replicate np (0 : Int)).map i64), .row t_uint8 ((List.replicate c.H 0).map u8), .row t_bool ((List.replicate np false).map .bool)]) ?_ ?_
  · unfold eR eC eE at *
    refine told_of_ev (fn := heap_New_fn) tabOk mixed (by kernel_rfl) (by kernel_rfl) (by kernel_rfl) (by kernel_rfl) ?_
    (refine gw ?_; refine Choice.mk ⟨false, Choice.mk ⟨false, _, _, c1, ?_⟩⟩)
    (refine gw ?_)
    rw [hdiv]
    refine Room.mk (by omega) ?_
    (refine gw ?_)
    refine Room.mk (by omega) ?_
    (refine gw ?_)
    refine Room.mk (by omega) ?_
    rw [← hdiv2] at c2
    (refine gw ?_)
    (refine gw ?_; refine Choice.mk ⟨false, Choice.mk ⟨false, _, _, c2, ?_⟩⟩)
    (refine gw ?_)
    rw [← hz1 np, show (List.replicate np false).map AV.bool = List.replicate ((c.H : Int).tdiv (c.Pg : Nat)).toNat (zeroE T t_bool) by rw [hdiv]; exact (hz2 np).symm, ← hz3 c.H]
    exact RetN.mk ⟨[6, 2, 3, 5, 4], rfl, rfl, rfl⟩
  · intro k
    match k with
    | 0 => rfl
    | 1 => rfl
    | 2 => rfl
    | 3 => rfl
    | 4 => rfl
    | k + 5 => rfl
end Go.Ev.W
namespace Go.Ev.W
open Go.Ev Go.Ev.N

/-- A heap lies as the plain one says. -/
structure Hr (m : Mo) (s : Hs) : Prop where
  b : Hb m.c m.bs s.b s.m s.ds s.met
  live : s.live = m.live
  peak : s.peak = m.peak
  mark : s.mark = m.mark
  on : s.on = m.on
  mem : s.mem = m.mem
theorem Hr.ok {m : Mo} {s : Hs} (h : Hr m s) (hm : MoOk m) : HsOk m.c (m.c.H / m.c.G) (m.c.L + 1) s := by
  have hl := hm.l
  have hlM := hm.lM
  have ht := totalB_nonneg hm.a
  have hMH : m.c.M ≤ m.c.H := by have := hm.c.h; omega
  have hH := hm.c.h2
  exact h.b.ok hm.c hm.a hm.z (by rw [h.on]; exact hm.o) (by rw [h.mem]; exact hm.mm) (by rw [h.live]; omega)
theorem pagesF_met {c : Cf} {l : List Bk} {b : Nat → Bool} {m : List M} {ds : List Bk} {met : List Int} (h : Hb c l b m ds met) : pagesF met = metF c.Pg c.H l := by
  rw [h.met]
  unfold pagesF metF
  rw [List.map_map]
  refine List.map_congr_left fun i _ => ?_
  show decide (nmet c.Pg l i > 0) = _
  unfold nmet
  apply Bool.eq_iff_iff.2
  rw [decide_eq_true_eq, List.any_eq_true]
  have : (((l.countP fun k => ovr (i * c.Pg : Nat) c.Pg k.a k.c : Nat) : Int) > 0) ↔ 0 < l.countP fun k => ovr (i * c.Pg : Nat) c.Pg k.a k.c := by omega
  rw [this, List.countP_pos_iff]
theorem puts_rel {m : Mo} {l : List Bk} {s : Hs} (hc : m.c.Ok) (ha : ApB m.c.H l) (hz : ∀ x ∈ l, SzB m.c x) (hb : Hb m.c l s.b s.m s.ds s.met) (h1 : s.live = totalB l) (h2 : s.peak = m.peak) (h3 : s.mark = m.mark) (h4 : s.on = m.on) (h5 : s.mem = m.mem) {k : Nat} (hk : k ≤ m.c.L) (q : Int) :
    (putsF m.c (m.c.H / m.c.G) (m.c.L + 1) s k q).2 = (placeF m l (m.c.G * 2 ^ k) q).2 ∧ ((placeF m l (m.c.G * 2 ^ k) q).2.2 = 0 → Hr (placeF m l (m.c.G * 2 ^ k) q).1 (putsF m.c (m.c.H / m.c.G) (m.c.L + 1) s k q).1) := by
  have hlow := hb.low hc ha hz hk
  have hpm := pagesF_met hb
  unfold putsF placeF
  rw [hlow]
  cases hi : lowS (m.c.H / m.c.G) (m.c.L + 1) s.b k with
  | none => exact ⟨rfl, fun h => by simp at h⟩
  | some i =>
    have hput := hb.put hc ha hz hk hi q
    obtain ⟨k', ek, hkc, hik, hup, _⟩ := lowS_lt hc.sl hi
    have ek : k' = k := by omega
    subst ek
    have hn : i * 2 ^ k' * m.c.G = i * (m.c.G * 2 ^ k') := by rw [Nat.mul_assoc, Nat.mul_comm m.c.G]
    have hf := (hb.free hc ha hz hk hik).1 hup
    have hg := hc.gpos
    have hn1 : 1 ≤ m.c.G * 2 ^ k' := Nat.mul_pos (by omega) (Nat.two_pow_pos _)
    have hbd := sz_bound hc.sl (G := m.c.G) (by rw [hc.gG]; exact hc.h2) hkc hik
    have hnH : i * (m.c.G * 2 ^ k') + m.c.G * 2 ^ k' ≤ m.c.H := by
      have : (i * 2 ^ k' + 2 ^ k') * m.c.G ≤ m.c.H / m.c.G * m.c.G := Nat.mul_le_mul_right _ hbd.1
      rw [hc.gG, Nat.add_mul, Nat.mul_comm (2 ^ k'), hn] at this
      omega
    obtain ⟨_, _, p3, _⟩ := putB_ok ha (b := ⟨(i * (m.c.G * 2 ^ k') : Nat), (m.c.G * 2 ^ k' : Nat), q⟩) hf ⟨by simp only; omega, by simp only; omega, by simp only; omega⟩
    simp only
    rw [hn, hpm, h4]
    rw [if_neg (show ¬ (true = false) by decide)]
    generalize commitF m.on (metF m.c.Pg m.c.H l) (i * (m.c.G * 2 ^ k') / m.c.Pg) ((i * (m.c.G * 2 ^ k') + m.c.G * 2 ^ k' - 1) / m.c.Pg + 1) m.c.P = co at *
    by_cases hco : co.2.2 = false
    · rw [if_pos hco, if_pos hco]
      exact ⟨rfl, fun h => by simp at h⟩
    · rw [if_neg hco, if_neg hco]
      refine ⟨rfl, fun _ => ⟨hput, ?_, ?_, ?_, rfl, ?_⟩⟩
      · show s.live + _ = totalB (putB l _)
        rw [p3, h1]
      · show max s.peak (s.live + _) = max m.peak (totalB (putB l _))
        rw [p3, h1, h2]
      · show max s.mark _ = max m.mark _
        rw [h3]; congr 1
      · show co.2.1.foldl _ s.mem = co.2.1.foldl _ m.mem
        rw [h5]
theorem log_ch {c : Cf} (hc : c.Ok) {ch k : Nat} (h : ch = c.G * 2 ^ k) : Nat.log2 (ch / c.G) = k := by
  have := hc.gpos
  rw [h, Nat.mul_div_cancel_left _ (by omega), Nat.log2_two_pow]
/-- Something new, or moved. -/
theorem giv_rel {m : Mo} {l : List Bk} {s : Hs} (hc : m.c.Ok) (ha : ApB m.c.H l) (hz : ∀ x ∈ l, SzB m.c x) (hb : Hb m.c l s.b s.m s.ds s.met) (h1 : s.live = totalB l) (h2 : s.peak = m.peak) (h3 : s.mark = m.mark) (h4 : s.on = m.on) (h5 : s.mem = m.mem) {ch : Nat} (hch : ∃ k, k ≤ m.c.L ∧ ch = m.c.G * 2 ^ k) (q : Int) :
    (givH m.c (m.c.H / m.c.G) (m.c.L + 1) s (ch, 0) q).2 = (if (placeF m l ch q).2.2 ≠ 0 then anE (placeF m l ch q).2.2 else { an0 with at' := (placeF m l ch q).2.1 }) ∧ ((placeF m l ch q).2.2 = 0 → Hr (placeF m l ch q).1 (givH m.c (m.c.H / m.c.G) (m.c.L + 1) s (ch, 0) q).1) ∧ ((placeF m l ch q).2.2 ≠ 0 → (givH m.c (m.c.H / m.c.G) (m.c.L + 1) s (ch, 0) q).1 = s) := by
  obtain ⟨k, hk, rfl⟩ := hch
  have h := puts_rel hc ha hz hb h1 h2 h3 h4 h5 hk q
  have hno := putsF_no (c := m.c) (g := m.c.H / m.c.G) (cl := m.c.L + 1) (s := s) (k := k) (q := q)
  have h0 : (placeF m l (m.c.G * 2 ^ k) q).2.2 ≠ 0 → (placeF m l (m.c.G * 2 ^ k) q).2.1 = 0 := by
    unfold placeF
    simp only
    split
    · exact fun _ => rfl
    · split
      · exact fun _ => rfl
      · exact fun h => absurd rfl h
  unfold givH
  rw [if_neg (by simp)]
  simp only
  rw [log_ch hc rfl]
  obtain ⟨e, h⟩ := h
  rw [e] at hno ⊢
  refine ⟨?_, h, hno⟩
  by_cases hp : (placeF m l (m.c.G * 2 ^ k) q).2.2 = 0
  · rw [if_neg (by simpa using hp), hp]; rfl
  · rw [if_pos hp, h0 hp]; rfl
theorem findB_getS {l : List Bk} {y : Int} : getS y l = (findB l y).map fun i => l.getD i bk0 := by
  induction l with
  | nil => rfl
  | cons x l ih =>
    have e : findB (x :: l) y = if x.a = y then some 0 else (findB l y).map (· + 1) := by
      unfold findB
      rw [List.findIdx?_cons]
      by_cases h : x.a = y
      · rw [if_pos h, decide_eq_true h]; rfl
      · rw [if_neg h, decide_eq_false h]; rfl
    rw [e]
    show (if y = x.a then some x else getS y l) = _
    by_cases h : x.a = y
    · rw [if_pos h, if_pos h.symm]; rfl
    · rw [if_neg h, if_neg fun q => h q.symm, ih]
      cases findB l y <;> rfl
theorem drop_rel {m : Mo} {s : Hs} (hm : MoOk m) (h : Hr m s) {i : Nat} (hi : i < m.bs.length) {y n : Nat} (hy : m.bs[i].a = y) (hn : m.bs[i].c = n) :
    Hb m.c (dropB m.bs i) (goneF m.c s y n).b (goneF m.c s y n).m (goneF m.c s y n).ds (goneF m.c s y n).met ∧ (goneF m.c s y n).live = totalB (dropB m.bs i) ∧ HsOk m.c (m.c.H / m.c.G) (m.c.L + 1) (goneF m.c s y n) := by
  have hds := dropB_sub m.bs i
  have had := hm.a.sub hds
  have hdt := dropB_tot hi
  have hdn := totalB_nonneg had
  have hb := h.b.drop hm.c hm.a hm.z hi hy hn
  have hl : (goneF m.c s y n).live = totalB (dropB m.bs i) := by
    show s.live - n = _
    rw [h.live, hm.l, hdt, hn]
  refine ⟨hb, hl, hb.ok hm.c had (fun x hx => hm.z x (hds.subset hx)) ?_ ?_ ?_⟩
  · show s.on.length = _
    rw [h.on]; exact hm.o
  · show s.mem.length = _
    rw [h.mem]; exact hm.mm
  · rw [hl]
    have := had.tot
    have := hm.c.h2
    omega
theorem Hr.do_ok {m : Mo} {s : Hs} (h : Hr m s) (hm : MoOk m) {o : X.O} (ho : OpOk o) : DoOk m.c (m.c.H / m.c.G) (m.c.L + 1) s o := by
  have hH := hm.c.h2
  refine ⟨h.ok hm, fun r hr he => ?_, fun x hx => ?_⟩
  · rw [h.live] at hr ⊢
    by_cases hM : (manyF m.c m.live o.n o.s).2 = 0
    · obtain ⟨m1, m2, m3, m4, m5⟩ := manyF_ok hm.c hM
      have hp := prodF_ok (c := m.c) (n := o.n) (s := o.s) (by
        unfold manyF at hM
        split at hM
        · rename_i h1; exact absurd hM h1
        · rename_i h1; simpa using h1)
      have hg := giv_rel (m := m) hm.c hm.a hm.z h.b (by rw [h.live, hm.l]) h.peak h.mark h.on h.mem m1 (prodF m.c o.n o.s).1
      have hpair : ((manyF m.c m.live o.n o.s).1, 0) = manyF m.c m.live o.n o.s := Prod.ext rfl hM.symm
      rw [hpair, ← hr] at hg
      obtain ⟨g1, g2, _⟩ := hg
      have hp0 : (placeF m m.bs (manyF m.c m.live o.n o.s).1 ((prodF m.c o.n o.s).1 : Nat)).2.2 = 0 := by
        apply Decidable.byContradiction
        intro hp0
        rw [if_pos hp0] at g1
        rw [g1] at he
        exact hp0 he
      have hq : ((prodF m.c o.n o.s).1 : Int) = o.n * o.s := hp.2.2.2
      have hput := placeF_ok hm hm.a hm.z m1 (q := ((prodF m.c o.n o.s).1 : Nat)) (by rw [hq]; exact ⟨m2, m3⟩) (by rw [← hm.l]; exact m4) hm.k.1 hp0
      rw [if_neg (by simpa using hp0)] at g1
      have e1 : r.2.at' = (placeF m m.bs (manyF m.c m.live o.n o.s).1 ((prodF m.c o.n o.s).1 : Nat)).2.1 := by rw [g1]
      have e2 := (g2 hp0).mem
      have e3 := hput.ml
      have e4 := hput.y0
      have e5 := hput.yH
      have e6 := hm.mm
      rw [e1, e2]
      exact ⟨by omega, by omega, by omega⟩
    · unfold givH at hr
      rw [if_pos hM] at hr
      rw [hr] at he
      exact absurd he hM
  · rw [h.b.ds, findB_getS] at hx
    cases hf : findB m.bs o.p with
    | none => rw [hf] at hx; cases hx
    | some i =>
      rw [hf] at hx
      obtain ⟨hi, hia⟩ := findB_lt hf
      have hgd : m.bs.getD i bk0 = m.bs[i] := by simp [List.getD_eq_getElem?_getD, hi]
      have hx : m.bs.getD i bk0 = x := by simpa using hx
      rw [hgd] at hx
      have hb := hm.a.b _ (List.getElem_mem hi)
      have hdt := dropB_tot hi
      have hds := dropB_sub m.bs i
      have had := hm.a.sub hds
      have hdn := totalB_nonneg had
      obtain ⟨d1, d2, d3⟩ := drop_rel hm h hi (y := m.bs[i].a.toNat) (n := m.bs[i].c.toNat) (by omega) (by omega)
      have hl := hm.l
      refine ⟨m.bs[i].a.toNat, m.bs[i].c.toNat, ?_, d3, by omega, by omega, by rw [h.live]; omega, fun hN r hr he => ?_⟩
      · rw [show ((m.bs[i].a.toNat : Nat) : Int) = m.bs[i].a by omega, show ((m.bs[i].c.toNat : Nat) : Int) = m.bs[i].c by omega, hx]
      · have hlc : s.live - ((m.bs[i].c.toNat : Nat) : Int) = m.live - m.bs[i].c := by rw [h.live]; omega
        rw [hlc] at hr hN ⊢
        obtain ⟨m1, m2, m3, m4⟩ := newF_ok hm.c hN
        have hg := giv_rel (m := m) hm.c had (fun x hx => hm.z x (hds.subset hx)) d1 d2 h.peak h.mark h.on h.mem m1 o.s
        rw [← hr] at hg
        obtain ⟨g1, g2, _⟩ := hg
        have hp0 : (placeF m (dropB m.bs i) (newF m.c (m.live - m.bs[i].c) o.s 1).1 o.s).2.2 = 0 := by
          apply Decidable.byContradiction
          intro hp0
          rw [if_pos hp0] at g1
          rw [g1] at he
          exact hp0 he
        have hput := placeF_ok hm had (fun x hx => hm.z x (hds.subset hx)) m1 (q := o.s) ⟨m2, m3⟩ (by rw [hdt, ← hl]; exact m4) (fun x hx => hm.k.1 x (hds.subset hx)) hp0
        rw [if_neg (by simpa using hp0)] at g1
        have e1 : r.2.at' = (placeF m (dropB m.bs i) (newF m.c (m.live - m.bs[i].c) o.s 1).1 o.s).2.1 := by rw [g1]
        have e2 := (g2 hp0).mem
        have e3 := hput.ml
        have e4 := hput.y0
        have e5 := hput.yH
        have e6 := hm.mm
        rw [e1, e2]
        exact ⟨by omega, by omega, by omega⟩
end Go.Ev.W
namespace Go.Ev.W
open Go.Ev Go.Ev.N

theorem Hr.refl2 {m : Mo} {s : Hs} (h : Hr m s) {m' : Mo} {s' : Hs} (hm : m' = m) (hs : s' = s) : Hr m' s' := by rw [hm, hs]; exact h
/-- Each call is told what the plain one is, and a heap lies on as it says. -/
theorem Hr.do {m : Mo} {s : Hs} (h : Hr m s) (hm : MoOk m) {o : X.O} (ho : OpOk o) :
    (doH m.c (m.c.H / m.c.G) (m.c.L + 1) s o).2 = (doF m o).2 ∧ Hr (doF m o).1 (doH m.c (m.c.H / m.c.G) (m.c.L + 1) s o).1 := by
  have new : ∀ a : Int, (givH m.c (m.c.H / m.c.G) (m.c.L + 1) s (newF m.c s.live o.s a) o.s).2 = (if (newF m.c m.live o.s a).2 ≠ 0 then (m, anE (newF m.c m.live o.s a).2) else if (placeF m m.bs (newF m.c m.live o.s a).1 o.s).2.2 ≠ 0 then (m, anE (placeF m m.bs (newF m.c m.live o.s a).1 o.s).2.2) else ((placeF m m.bs (newF m.c m.live o.s a).1 o.s).1, { an0 with at' := (placeF m m.bs (newF m.c m.live o.s a).1 o.s).2.1 })).2 ∧
      Hr (if (newF m.c m.live o.s a).2 ≠ 0 then (m, anE (newF m.c m.live o.s a).2) else if (placeF m m.bs (newF m.c m.live o.s a).1 o.s).2.2 ≠ 0 then (m, anE (placeF m m.bs (newF m.c m.live o.s a).1 o.s).2.2) else ((placeF m m.bs (newF m.c m.live o.s a).1 o.s).1, { an0 with at' := (placeF m m.bs (newF m.c m.live o.s a).1 o.s).2.1 })).1 (givH m.c (m.c.H / m.c.G) (m.c.L + 1) s (newF m.c s.live o.s a) o.s).1 := by
    intro a
    rw [h.live]
    by_cases hN : (newF m.c m.live o.s a).2 = 0
    · obtain ⟨m1, _⟩ := newF_ok hm.c hN
      have hg := giv_rel (m := m) hm.c hm.a hm.z h.b (by rw [h.live, hm.l]) h.peak h.mark h.on h.mem m1 o.s
      have hpair : ((newF m.c m.live o.s a).1, 0) = newF m.c m.live o.s a := Prod.ext rfl hN.symm
      rw [hpair] at hg
      obtain ⟨g1, g2, g3⟩ := hg
      rw [if_neg (by simpa using hN)]
      by_cases hp : (placeF m m.bs (newF m.c m.live o.s a).1 o.s).2.2 = 0
      · rw [if_neg (by simpa using hp)] at g1 ⊢
        exact ⟨g1, g2 hp⟩
      · rw [if_pos hp] at g1 ⊢
        rw [g3 hp]
        exact ⟨g1, h⟩
    · rw [if_pos hN]
      unfold givH
      rw [if_pos hN]
      exact ⟨rfl, h⟩
  by_cases h1 : o.k = 1
  · have := new 1
    have e : (doF m o) = (if (newF m.c m.live o.s 1).2 ≠ 0 then (m, anE (newF m.c m.live o.s 1).2) else if (placeF m m.bs (newF m.c m.live o.s 1).1 o.s).2.2 ≠ 0 then (m, anE (placeF m m.bs (newF m.c m.live o.s 1).1 o.s).2.2) else ((placeF m m.bs (newF m.c m.live o.s 1).1 o.s).1, { an0 with at' := (placeF m m.bs (newF m.c m.live o.s 1).1 o.s).2.1 })) := by
      unfold doF giveF
      rw [if_pos (.inl h1)]
      simp only [h1, if_neg (show ¬ (1 : Int) = 2 by decide), if_neg (show ¬ (1 : Int) = 3 by decide)]
    unfold doH
    rw [if_pos h1, e]
    exact this
  by_cases h2 : o.k = 2
  · unfold doH doF giveF
    rw [if_neg h1, if_pos h2, if_pos (.inr (.inr h2))]
    simp only [h2, if_true]
    unfold callH
    rw [h.live]
    by_cases hM : (manyF m.c m.live o.n o.s).2 = 0
    · obtain ⟨m1, _⟩ := manyF_ok hm.c hM
      have hq := prodF_ok (c := m.c) (n := o.n) (s := o.s) (by
        unfold manyF at hM
        split at hM
        · rename_i h1; exact absurd hM h1
        · rename_i h1; simpa using h1)
      have hg := giv_rel (m := m) hm.c hm.a hm.z h.b (by rw [h.live, hm.l]) h.peak h.mark h.on h.mem m1 (prodF m.c o.n o.s).1
      have hpair : ((manyF m.c m.live o.n o.s).1, 0) = manyF m.c m.live o.n o.s := Prod.ext rfl hM.symm
      rw [hpair, hq.2.2.2] at hg
      obtain ⟨g1, g2, g3⟩ := hg
      rw [if_neg (show ¬ (manyF m.c m.live o.n o.s).2 ≠ 0 by simpa using hM), hq.2.2.2]
      generalize hR : givH m.c (m.c.H / m.c.G) (m.c.L + 1) s (manyF m.c m.live o.n o.s) (o.n * o.s) = R at *
      by_cases hp : (placeF m m.bs (manyF m.c m.live o.n o.s).1 (o.n * o.s)).2.2 = 0
      · have hp' : ¬ (placeF m m.bs (manyF m.c m.live o.n o.s).1 (o.n * o.s)).2.2 ≠ 0 := by simpa using hp
        rw [if_neg hp'] at g1 ⊢
        have g2 := g2 hp
        rw [if_pos (show R.2.e = 0 by rw [g1]; rfl), g1]
        refine ⟨rfl, g2.b, g2.live, g2.peak, g2.mark, g2.on, ?_⟩
        show zeroF R.1.mem _ _ = zeroF _ _ _
        rw [g2.mem]
      · rw [if_pos hp] at g1 ⊢
        rw [if_neg (show ¬ R.2.e = 0 by rw [g1]; exact hp)]
        exact ⟨g1, by rw [g3 hp]; exact h⟩
    · rw [if_pos hM]
      unfold givH
      rw [if_pos hM]
      rw [if_neg (show ¬ ((s, anE (manyF m.c m.live o.n o.s).2) : Hs × An).2.e = 0 from hM)]
      exact ⟨rfl, h⟩
  by_cases h3 : o.k = 3
  · have := new o.a
    have e : (doF m o) = (if (newF m.c m.live o.s o.a).2 ≠ 0 then (m, anE (newF m.c m.live o.s o.a).2) else if (placeF m m.bs (newF m.c m.live o.s o.a).1 o.s).2.2 ≠ 0 then (m, anE (placeF m m.bs (newF m.c m.live o.s o.a).1 o.s).2.2) else ((placeF m m.bs (newF m.c m.live o.s o.a).1 o.s).1, { an0 with at' := (placeF m m.bs (newF m.c m.live o.s o.a).1 o.s).2.1 })) := by
      unfold doF giveF
      rw [if_pos (.inr (.inl h3))]
      simp only [h3, if_neg (show ¬ (3 : Int) = 2 by decide), if_true]
    unfold doH
    rw [if_neg h1, if_neg h2, if_pos h3, e]
    exact this
  by_cases hb : o.k = 4 ∨ o.k = 5 ∨ o.k = 6 ∨ o.k = 7 ∨ o.k = 8
  · unfold doH doF
    rw [if_neg h1, if_neg h2, if_neg h3, if_pos hb, if_neg (by omega), if_neg (by omega), if_neg (by omega), if_pos hb, h.b.ds, findB_getS]
    cases hf : findB m.bs o.p with
    | none => exact ⟨rfl, h⟩
    | some i =>
      obtain ⟨hi, hia⟩ := findB_lt hf
      have hgd : m.bs.getD i bk0 = m.bs[i] := by simp [List.getD_eq_getElem?_getD, hi]
      have hbd := hm.a.b _ (List.getElem_mem hi)
      have hdt := dropB_tot hi
      have hds := dropB_sub m.bs i
      have had := hm.a.sub hds
      have hdn := totalB_nonneg had
      have hl := hm.l
      obtain ⟨y, hy⟩ : ∃ y : Nat, m.bs[i].a = y := ⟨m.bs[i].a.toNat, by omega⟩
      obtain ⟨n, hn⟩ : ∃ n : Nat, m.bs[i].c = n := ⟨m.bs[i].c.toNat, by omega⟩
      obtain ⟨d1, d2, d3⟩ := drop_rel hm h hi hy hn
      simp only [Option.map_some]
      unfold ofB onH
      rw [hgd]
      simp only
      rw [hy, hn]
      simp only [Int.toNat_natCast]
      by_cases h4 : o.k = 4
      · rw [if_pos h4, if_pos h4]
        unfold realH
        rw [h.live]
        by_cases hN : (newF m.c (m.live - n) o.s 1).2 = 0
        · obtain ⟨m1, m2, m3, m4⟩ := newF_ok hm.c hN
          simp only [hN, ne_eq, not_true_eq_false, if_false]
          have hg := giv_rel (m := m) hm.c had (fun x hx => hm.z x (hds.subset hx)) d1 d2 h.peak h.mark h.on h.mem m1 o.s
          obtain ⟨g1, g2, g3⟩ := hg
          have hput := placeF_ok hm had (fun x hx => hm.z x (hds.subset hx)) m1 (q := o.s) ⟨m2, m3⟩ (by rw [hdt, ← hl, hn]; exact m4) (fun x hx => hm.k.1 x (hds.subset hx))
          generalize givH m.c (m.c.H / m.c.G) (m.c.L + 1) (goneF m.c s y n) ((newF m.c (m.live - n) o.s 1).1, 0) o.s = R at *
          by_cases hp : (placeF m (dropB m.bs i) (newF m.c (m.live - n) o.s 1).1 o.s).2.2 = 0
          · rw [if_neg (by simpa using hp)] at g1
            have g2 := g2 hp
            have hput := hput hp
            have hy0 := hput.y0
            simp only [hp, not_true_eq_false, if_false]
            rw [if_neg (show ¬ ¬ R.2.e = 0 by rw [g1]; simp [an0])]
            refine ⟨g1, g2.b, g2.live, g2.peak, g2.mark, g2.on, ?_⟩
            show R.1.mem.take _ ++ _ ++ R.1.mem.drop _ = _
            simp only
            rw [g2.mem, h.mem, g1]
            simp only
            have e1 : (placeF m (dropB m.bs i) (newF m.c (m.live - n) o.s 1).1 o.s).2.1.toNat + min n (newF m.c (m.live - n) o.s 1).1 = ((placeF m (dropB m.bs i) (newF m.c (m.live - n) o.s 1).1 o.s).2.1 + min (((newF m.c (m.live - n) o.s 1).1 : Nat) : Int) n).toNat := by omega
            have e2 : ((y : Int) + min (((newF m.c (m.live - n) o.s 1).1 : Nat) : Int) n).toNat = y + min n (newF m.c (m.live - n) o.s 1).1 := by omega
            rw [e1, e2, List.drop_take, Nat.add_sub_cancel_left]
          · rw [if_pos hp] at g1
            simp only [hp, not_false_eq_true, if_true]
            rw [if_pos (show ¬ R.2.e = 0 by rw [g1]; exact hp)]
            refine ⟨g1, ?_, ?_, h.peak, h.mark, h.on, h.mem⟩
            · have hel : m.bs[i] = ⟨(y : Nat), (n : Nat), m.bs[i].q⟩ := by rw [← hy, ← hn]
              exact h.b.undo hm.c hm.a hi hel (by omega)
            · show s.live - n + n = m.live
              rw [h.live]; omega
        · simp only [ne_eq, hN, not_false_eq_true, if_true]
          exact ⟨trivial, h⟩
      rw [if_neg h4, if_neg h4]
      by_cases h5 : o.k = 5
      · rw [if_pos h5, if_pos h5]
        exact ⟨rfl, d1, by show s.live - n = m.live - n; rw [h.live], h.peak, h.mark, h.on, h.mem⟩
      rw [if_neg h5, if_neg h5]
      by_cases h6 : o.k = 6
      · rw [if_pos h6, if_pos h6]
        exact ⟨rfl, h⟩
      rw [if_neg h6, if_neg h6]
      by_cases hbn : o.n < 0 ∨ o.n ≥ n
      · rw [if_pos hbn, if_pos hbn]
        exact ⟨rfl, h⟩
      rw [if_neg hbn, if_neg hbn]
      have e1 : ((y : Int) + o.n).toNat = y + o.n.toNat := by omega
      rw [e1, h.mem]
      by_cases h7 : o.k = 7
      · rw [if_pos h7, if_pos h7]
        exact ⟨rfl, h⟩
      · rw [if_neg h7, if_neg h7]
        exact ⟨rfl, h.b, h.live, h.peak, h.mark, h.on, rfl⟩
  · unfold doH doF
    rw [if_neg h1, if_neg h2, if_neg h3, if_neg hb, if_neg (show ¬ (o.k = 1 ∨ o.k = 3 ∨ o.k = 2) by omega)]
    by_cases h9 : o.k = 9
    · rw [if_pos h9, if_pos h9, pagesF_met h.b, h.on]
      exact ⟨rfl, h.b, h.live, h.peak, h.mark, rfl, h.mem⟩
    · rw [if_neg h9, if_neg h9]
      by_cases h10 : o.k = 10
      · rw [if_pos h10, if_pos h10, h.live, h.peak, h.mark, h.on]
        exact ⟨rfl, h⟩
      · rw [if_neg h10, if_neg h10, if_neg hb]
        exact ⟨rfl, h⟩
theorem newH_rel {r : Rw} (h : (ofF r).2 = 0) : Hr (newM r).1 (newH (ofF r).1) := by
  have hc := (ofF_ok h).1
  unfold newM
  rw [if_neg (by simpa using h)]
  refine ⟨⟨fun x _ => rfl, rfl, fun y => rfl, List.nodup_nil, ?_⟩, rfl, rfl, rfl, rfl, rfl⟩
  show List.replicate _ _ = _
  apply List.ext_getElem (by simp)
  intro i h1 h2
  simp [nmet]
/-- A heap that lies as the plain one says. -/
def hpI (m : Mo) (L : List Blk) : Prop := ∃ s, Hr m s ∧ L = hsL m.c (m.c.H / m.c.G) (m.c.L + 1) s
theorem hpDoI {m : Mo} {s : Hs} (h : Hr m s) (hm : MoOk m) {o : X.O} (ho : OpOk o) : ∃ s', Hr (doF m o).1 s' ∧ Told P T heap_Heap_Do (hsL m.c (m.c.H / m.c.G) (m.c.L + 1) s) [.ptr 0 0 0, X.encO o] (eA (doF m o).2) (hsL (doF m o).1.c ((doF m o).1.c.H / (doF m o).1.c.G) ((doF m o).1.c.L + 1) s') := by
  have h1 := h.do hm ho
  have h2 := hpDo_told (h.do_ok hm ho) ho
  rw [(doF_ok hm ho).2]
  rw [h1.1] at h2
  exact ⟨_, h1.2, h2⟩
end Go.Ev.W
namespace Go.Ev.W
open Go.Ev Go.Ev.N

def rawF (p : Pk) (bg : Bool) : Rw × Pk :=
  let p1 := p.next 9
  let p2 := p1.next 12
  let p3 := p2.next 150
  let p4 := p3.next 30
  let p5 := p4.next 200
  (⟨1 + p.num 9, (1 + p.num 9) * (1 + p1.num 12), 1 + p2.num 150, 1 + p3.num 30, if bg = true then 5000 else 1 + p5.num 20, p4.num 200⟩, p5.next 20)
theorem rawF_ok {p : Pk} (h : p.Ok) (bg : Bool) : (rawF p bg).2.Ok := by
  have e : (rawF p bg).2 = ((((((p.next 9).next 12).next 150).next 30).next 200).next 20) := by simp only [rawF]
  rw [e]
  exact Pk.Ok.next (Pk.Ok.next (Pk.Ok.next (Pk.Ok.next (Pk.Ok.next (Pk.Ok.next h 9) 12) 150) 30) 200) 20
structure RwS (r : Rw) : Prop where
  g : 1 ≤ r.g ∧ r.g ≤ 9
  l : r.g ≤ r.l ∧ r.l ≤ 108
  m : 1 ≤ r.m ∧ r.m ≤ 150
  p : 1 ≤ r.p ∧ r.p ≤ 30
  b : 1 ≤ r.b ∧ r.b ≤ 5000
  s : 0 ≤ r.s ∧ r.s ≤ 199
theorem rawF_s (p : Pk) (bg : Bool) : RwS (rawF p bg).1 := by
  have a := p.num_lt (m := 9) (by omega)
  have b := (p.next 9).num_lt (m := 12) (by omega)
  have c := ((p.next 9).next 12).num_lt (m := 150) (by omega)
  have d := (((p.next 9).next 12).next 150).num_lt (m := 30) (by omega)
  have e := ((((p.next 9).next 12).next 150).next 30).num_lt (m := 200) (by omega)
  have f := (((((p.next 9).next 12).next 150).next 30).next 200).num_lt (m := 20) (by omega)
  have g1 : (1 + p.num 9) * 1 ≤ (1 + p.num 9) * (1 + (p.next 9).num 12) := Nat.mul_le_mul_left _ (by omega)
  have g2 : (1 + p.num 9) * (1 + (p.next 9).num 12) ≤ 9 * 12 := Nat.mul_le_mul (by omega) (by omega)
  have e1 : ((1 : Int) + (p.num 9 : Nat)) * (1 + ((p.next 9).num 12 : Nat)) = (((1 + p.num 9) * (1 + (p.next 9).num 12) : Nat) : Int) := by
    rw [Int.natCast_mul, Int.natCast_add, Int.natCast_add]; rfl
  unfold rawF
  refine ⟨⟨?_, ?_⟩, ⟨?_, ?_⟩, ⟨?_, ?_⟩, ⟨?_, ?_⟩, ?_, ⟨?_, ?_⟩⟩
  all_goals simp only
  all_goals try rw [e1]
  all_goals first | omega | (split <;> omega)
theorem upN_le' {v k : Nat} (h : v ≤ 2 ^ k) : upN v ≤ 2 ^ k := upN_le h
/-- There is always something of small ones. -/
theorem small_of {r : Rw} (h : RwS r) : (ofF r).2 = 0 ∧ (ofF r).1 = cfOf r ∧ (cfOf r).Ok ∧ (cfOf r).N ≤ 128 ∧ (cfOf r).M ≤ 405 ∧ (cfOf r).L ≤ 7 ∧ (cfOf r).G ≤ 16 ∧ (cfOf r).Pg ≤ 32 := by
  have g := upN_le (v := r.g.toNat) (k := 4) (by have := h.g; omega)
  have g0 := upN_pos r.g.toNat
  have n := upN_le (v := max r.l.toNat (upN r.g.toNat)) (k := 7) (by have := h.l; omega)
  have pg := upN_le (v := max r.p.toNat (upN r.g.toNat)) (k := 5) (by have := h.p; omega)
  have n1 := upN_pos (max r.l.toNat (upN r.g.toNat))
  obtain ⟨q, q1, q2, q3⟩ := rnd_spec (v := r.m.toNat) (t := 2 * max (upN (max r.l.toNat (upN r.g.toNat))) (upN (max r.p.toNat (upN r.g.toNat)))) (by omega)
  have hm := h.m
  obtain ⟨k, hk⟩ := pow_up (v := r.l.toNat) (upN_pow r.g.toNat)
  have hL := log_of g0 hk
  have k7 : k ≤ 7 := by
    have : 1 * 2 ^ k ≤ upN r.g.toNat * 2 ^ k := Nat.mul_le_mul_right _ g0
    have : 2 ^ k ≤ 2 ^ 7 := by omega
    exact (Nat.pow_le_pow_iff_right (a := 2) (by omega)).1 this
  have hM : (cfOf r).M ≤ 405 := by show rnd _ _ ≤ 405; omega
  have hLL : (cfOf r).L ≤ 7 := by show Nat.log2 _ ≤ 7; rw [hL]; exact k7
  have hH : (cfOf r).H ≤ 65536 := by
    show (cfOf r).M + (cfOf r).L * ((cfOf r).M / 2) ≤ 65536
    have : (cfOf r).L * ((cfOf r).M / 2) ≤ 7 * 405 := Nat.mul_le_mul hLL (by omega)
    omega
  have hok : r.ok = true := by
    simp only [Rw.ok, inR, Bool.and_eq_true, decide_eq_true_eq]
    have := h.g; have := h.l; have := h.m; have := h.p; have := h.b; have := h.s
    omega
  have e : ofF r = (cfOf r, 0) := by unfold ofF; rw [if_pos ⟨hok, hH⟩]
  have h0 : (ofF r).2 = 0 := by rw [e]
  refine ⟨h0, by rw [e], ?_, n, hM, hLL, g, pg⟩
  have := (ofF_ok h0).1
  rw [e] at this; exact this

set_option maxHeartbeats 2000000 in
theorem raw_told (p : Pk) (ok : p.Ok) (bg : Bool) : Told P T mk_Picks_Raw [pkB p] [.ptr 0 0 0, .bool bg] (eR (rawF p bg).1) [pkB (rawF p bg).2] := by
  have k1 := ok.next 9
  have k2 := k1.next 12
  have k3 := k2.next 150
  have k4 := k3.next 30
  have k5 := k4.next 200
  have b1 := p.num_lt (m := 9) (by omega)
  have b2 := (p.next 9).num_lt (m := 12) (by omega)
  have b3 := ((p.next 9).next 12).num_lt (m := 150) (by omega)
  have b4 := (((p.next 9).next 12).next 150).num_lt (m := 30) (by omega)
  have b5 := ((((p.next 9).next 12).next 150).next 30).num_lt (m := 200) (by omega)
  have b6 := (((((p.next 9).next 12).next 150).next 30).next 200).num_lt (m := 20) (by omega)
  have g2 : (1 + p.num 9) * (1 + (p.next 9).num 12) ≤ 9 * 12 := Nat.mul_le_mul (by omega) (by omega)
  have e1 : ((1 : Int) + (p.num 9 : Nat)) * (1 + ((p.next 9).num 12 : Nat)) = (((1 + p.num 9) * (1 + (p.next 9).num 12) : Nat) : Int) := by
    rw [Int.natCast_mul, Int.natCast_add, Int.natCast_add]; rfl
  refine told_of_ev (fn := mk_Picks_Raw_fn) tabOk mixed (by kernel_rfl) (by kernel_rfl) (by kernel_rfl) (by kernel_rfl) ?_
  (refine gw ?_; refine Choice.mk ⟨true, Choice.mk ⟨false, _, _, num_told p ok 9 (by omega), ?_⟩⟩)
  (refine gw ?_; refine Choice.mk ⟨true, Choice.mk ⟨false, _, _, num_told _ k1 12 (by omega), ?_⟩⟩)
  (refine gw ?_; refine Choice.mk ⟨true, Choice.mk ⟨false, _, _, num_told _ k2 150 (by omega), ?_⟩⟩)
  (refine gw ?_; refine Choice.mk ⟨true, Choice.mk ⟨false, _, _, num_told _ k3 30 (by omega), ?_⟩⟩)
  (refine gw ?_; refine Choice.mk ⟨true, Choice.mk ⟨false, _, _, num_told _ k4 200 (by omega), ?_⟩⟩)
  (refine gw ?_; refine Choice.mk ⟨true, Choice.mk ⟨false, _, _, num_told _ k5 20 (by omega), ?_⟩⟩)
  cases bg with
  | true => (refine gw ?_; exact RetN.mk ⟨[], rfl, rfl, rfl⟩)
  | false => (refine gw ?_; exact RetN.mk ⟨[], rfl, rfl, rfl⟩)
end Go.Ev.W
namespace Go.Ev.W
open Go.Ev Go.Ev.N

/-- An operation as it is picked. -/
structure OpG (c : Cf) (o : X.O) : Prop where
  k : 1 ≤ o.k ∧ o.k ≤ 10
  p : -3 ≤ o.p ∧ o.p ≤ 65536
  s : -1 ≤ o.s ∧ o.s ≤ (c.N : Int) + 2
  a : 0 ≤ o.a ∧ o.a ≤ 16
  n : 0 ≤ o.n ∧ o.n ≤ 8
  b : 0 ≤ o.b ∧ o.b < 256
  p0 : (4 ≤ o.k ∧ o.k ≤ 8) ∨ o.p = 0
  s0 : o.k ≤ 4 ∨ o.s = 0
  a0 : o.k = 3 ∨ o.a = 0
  n0 : (o.k = 2 ∨ o.k = 7 ∨ o.k = 8) ∨ o.n = 0
  b0 : o.k = 8 ∨ o.b = 0
theorem OpG.ok {c : Cf} (hc : c.Ok) {o : X.O} (h : OpG c o) : OpOk o := by
  have hN := hc.nM
  have hM := hc.mH
  have := h.k; have := h.p; have := h.s; have := h.a; have := h.n
  exact ⟨by omega, by omega, by omega, by omega, by omega, h.b⟩
set_option maxHeartbeats 4000000 in
theorem size_told {c : Cf} (hc : c.Ok) (p : Pk) (ok : p.Ok) : ∃ (v : Int) (p' : Pk), Told P T mk_Picks_Size [pkB p] [.ptr 0 0 0, eC c] (i64 v) [pkB p'] ∧ p'.Ok ∧ -1 ≤ v ∧ v ≤ (c.N : Int) + 2 := by
  have hN := hc.nM
  have hM := hc.mH
  have hL := hc.lL
  have hG := hc.gpos
  have k1 := ok.next 12
  have b1 := p.num_lt (m := 12) (by omega)
  have t1 := num_told p ok 12 (by omega)
  have t2 := num_told _ k1 3 (by omega)
  have b2 := (p.next 12).num_lt (m := 3) (by omega)
  have emax : ∀ a b : Int, max a b = if b > a then b else a := fun a b => by split <;> omega
  generalize hx : p.num 12 = x at *
  rcases (by omega : x = 0 ∨ x = 1 ∨ x = 2 ∨ 3 ≤ x) with h | h | h | h
  · subst h
    refine ⟨0, p.next 12, ?_, k1, by omega, by omega⟩
    refine told_of_ev (fn := mk_Picks_Size_fn) tabOk mixed (by kernel_rfl) (by kernel_rfl) (by kernel_rfl) (by kernel_rfl) ?_
    (refine gw ?_; refine Choice.mk ⟨true, Choice.mk ⟨false, _, _, t1, ?_⟩⟩)
    (refine gw ?_; exact RetN.mk ⟨[], rfl, rfl, rfl⟩)
  · subst h
    refine ⟨(c.N : Int) + ((p.next 12).num 3 : Nat), (p.next 12).next 3, ?_, k1.next 3, by omega, by omega⟩
    refine told_of_ev (fn := mk_Picks_Size_fn) tabOk mixed (by kernel_rfl) (by kernel_rfl) (by kernel_rfl) (by kernel_rfl) ?_
    (refine gw ?_; refine Choice.mk ⟨true, Choice.mk ⟨false, _, _, t1, ?_⟩⟩)
    (refine gw ?_; refine Choice.mk ⟨true, Choice.mk ⟨false, _, _, t2, ?_⟩⟩)
    (refine gw ?_; exact RetN.mk ⟨[], rfl, rfl, rfl⟩)
  · subst h
    refine ⟨-1, p.next 12, ?_, k1, by omega, by omega⟩
    refine told_of_ev (fn := mk_Picks_Size_fn) tabOk mixed (by kernel_rfl) (by kernel_rfl) (by kernel_rfl) (by kernel_rfl) ?_
    (refine gw ?_; refine Choice.mk ⟨true, Choice.mk ⟨false, _, _, t1, ?_⟩⟩)
    (refine gw ?_; exact RetN.mk ⟨[], rfl, rfl, rfl⟩)
  · have b3 := (p.next 12).num_lt (m := c.L + 1) (by omega)
    have k2 := k1.next (c.L + 1)
    have t3 := num_told _ k1 (c.L + 1) (by omega)
    have t4 := num_told _ k2 3 (by omega)
    have b4 := ((p.next 12).next (c.L + 1)).num_lt (m := 3) (by omega)
    have hGN : c.G ≤ 65536 := by have := hc.n; have := Nat.le_mul_of_pos_right c.G (Nat.two_pow_pos c.L); omega
    have t5 := refSize_told c ((p.next 12).num (c.L + 1)) (by omega) hGN
    have hsz : c.G * 2 ^ (p.next 12).num (c.L + 1) ≤ c.N := by
      rw [hc.n]; exact Nat.mul_le_mul_left _ (Nat.pow_le_pow_right (by omega) (by omega))
    generalize c.G * 2 ^ (p.next 12).num (c.L + 1) = z at *
    generalize (p.next 12).num (c.L + 1) = y at *
    refine ⟨max 1 ((z : Int) - (((p.next 12).next (c.L + 1)).num 3 : Nat)), ((p.next 12).next (c.L + 1)).next 3, ?_, k2.next 3, by omega, by omega⟩
    rw [emax]
    refine told_of_ev (fn := mk_Picks_Size_fn) tabOk mixed (by kernel_rfl) (by kernel_rfl) (by kernel_rfl) (by kernel_rfl) ?_
    (refine gw ?_; refine Choice.mk ⟨true, Choice.mk ⟨false, _, _, t1, ?_⟩⟩)
    (refine gw ?_; refine IfB.ff (by simp; omega) ?_)
    (refine gw ?_; refine IfB.ff (by simp; omega) ?_)
    (refine gw ?_; refine IfB.ff (by simp; omega) ?_)
    (refine gw ?_; refine Choice.mk ⟨true, Choice.mk ⟨false, _, _, t3, ?_⟩⟩)
    (refine gw ?_; refine Choice.mk ⟨false, Choice.mk ⟨true, _, _, t5, ?_⟩⟩)
    (refine gw ?_; refine Choice.mk ⟨true, Choice.mk ⟨false, _, _, t4, ?_⟩⟩)
    (refine gw ?_; exact RetN.mk ⟨[], rfl, rfl, rfl⟩)
set_option maxHeartbeats 4000000 in
theorem block_told {H : Nat} (hH : H ≤ 65536) {l : List Bk} (ha : ApB H l) (p : Pk) (ok : p.Ok) : ∃ (v : Int) (p' : Pk), Told P T mk_Picks_Block [pkB p] [.ptr 0 0 0, lK l] (i64 v) [pkB p'] ∧ p'.Ok ∧ -3 ≤ v ∧ v ≤ 65536 := by
  have hml : (l.map eB).length = l.length := by simp
  have hlen := ha.len
  by_cases h0 : l.length = 0
  · have b1 := p.num_lt (m := 200) (by omega)
    refine ⟨(p.num 200 : Nat) - 3, p.next 200, ?_, ok.next 200, by omega, by omega⟩
    refine told_of_ev (fn := mk_Picks_Block_fn) tabOk mixed (by kernel_rfl) (by kernel_rfl) (by kernel_rfl) (by kernel_rfl) ?_
    (refine gw ?_; refine IfB.tt (by rw [hml, h0]; simp) ?_)
    (refine gw ?_; refine Choice.mk ⟨true, Choice.mk ⟨false, _, _, num_told p ok 200 (by omega), ?_⟩⟩)
    (refine gw ?_; exact RetN.mk ⟨[], rfl, rfl, rfl⟩)
  · have k1 := ok.next 12
    by_cases h1 : p.num 12 = 0
    · have b1 := (p.next 12).num_lt (m := 200) (by omega)
      refine ⟨((p.next 12).num 200 : Nat) - 3, (p.next 12).next 200, ?_, k1.next 200, by omega, by omega⟩
      refine told_of_ev (fn := mk_Picks_Block_fn) tabOk mixed (by kernel_rfl) (by kernel_rfl) (by kernel_rfl) (by kernel_rfl) ?_
      (refine gw ?_; refine IfB.ff (by rw [hml]; exact decide_eq_false (by omega)) ?_)
      (refine gw ?_; refine Choice.mk ⟨true, Choice.mk ⟨false, _, _, num_told p ok 12 (by omega), ?_⟩⟩)
      (refine gw ?_; refine IfB.tt (by simp [h1]) ?_)
      (refine gw ?_; refine Choice.mk ⟨true, Choice.mk ⟨false, _, _, num_told _ k1 200 (by omega), ?_⟩⟩)
      (refine gw ?_; exact RetN.mk ⟨[], rfl, rfl, rfl⟩)
    · have b1 := (p.next 12).num_lt (m := l.length) (by omega)
      have hx := ha.b _ (List.getElem_mem b1)
      refine ⟨l[(p.next 12).num l.length].a, (p.next 12).next l.length, ?_, k1.next l.length, by omega, by omega⟩
      have t2 := num_told _ k1 l.length (by omega)
      refine told_of_ev (fn := mk_Picks_Block_fn) tabOk mixed (by kernel_rfl) (by kernel_rfl) (by kernel_rfl) (by kernel_rfl) ?_
      (refine gw ?_; refine IfB.ff (by rw [hml]; exact decide_eq_false (by omega)) ?_)
      (refine gw ?_; refine Choice.mk ⟨true, Choice.mk ⟨false, _, _, num_told p ok 12 (by omega), ?_⟩⟩)
      (refine gw ?_; refine IfB.ff (by simp; omega) ?_)
      (refine gw ?_)
      rw [hml]
      (refine gw ?_; refine Choice.mk ⟨true, Choice.mk ⟨false, _, _, t2, ?_⟩⟩)
      (refine gw ?_; refine idx_map (b1) ?_)
      (refine gw ?_; exact RetN.mk ⟨[], rfl, rfl, rfl⟩)
end Go.Ev.W
namespace Go.Ev.W
open Go.Ev Go.Ev.N

set_option maxRecDepth 20000 in
set_option maxHeartbeats 8000000 in
theorem op_told {c : Cf} (hc : c.Ok) {l : List Bk} (ha : ApB c.H l) (p : Pk) (ok : p.Ok) : ∃ (o : X.O) (p' : Pk), Told P T mk_Picks_Op [pkB p] [.ptr 0 0 0, eC c, lK l] (X.encO o) [pkB p'] ∧ p'.Ok ∧ OpG c o := by
  have hH := hc.h2
  have k1 := ok.next 20
  have b1 := p.num_lt (m := 20) (by omega)
  have t1 := num_told p ok 20 (by omega)
  generalize p.next 20 = p1 at *
  generalize p.num 20 = x at *
  rcases (by omega : x < 6 ∨ x = 6 ∨ x = 7 ∨ (8 ≤ x ∧ x < 11) ∨ (11 ≤ x ∧ x < 14) ∨ x = 14 ∨ (15 ≤ x ∧ x < 17) ∨ x = 17 ∨ x = 18 ∨ x = 19) with h | h | h | h | h | h | h | h | h | h
  · obtain ⟨v, p2, t2, k2, b2⟩ := size_told hc p1 k1
    refine ⟨⟨1, 0, v, 0, 0, 0⟩, p2, ?_, k2, ⟨by simp, by simp, b2, by simp, by simp, by simp, by simp, by simp, by simp, by simp, by simp⟩⟩
    refine told_of_ev (fn := mk_Picks_Op_fn) tabOk mixed (by kernel_rfl) (by kernel_rfl) (by kernel_rfl) (by kernel_rfl) ?_
    (refine gw ?_; refine Choice.mk ⟨true, Choice.mk ⟨false, _, _, t1, ?_⟩⟩)
    (refine gw ?_; refine IfB.tt (by simp; omega) ?_)
    (refine gw ?_; refine Choice.mk ⟨true, Choice.mk ⟨false, _, _, t2, ?_⟩⟩)
    (refine gw ?_; exact RetN.mk ⟨[], rfl, rfl, rfl⟩)
  · obtain ⟨v, p2, t2, k2, b2⟩ := size_told hc (p1.next 4) (k1.next 4)
    have t3 := num_told p1 k1 4 (by omega)
    have b3 := p1.num_lt (m := 4) (by omega)
    subst h
    refine ⟨⟨2, 0, v, 0, (p1.num 4 : Nat), 0⟩, p2, ?_, k2, ⟨by simp, by simp, b2, by simp, by simp only; omega, by simp, by simp, by simp, by simp, by simp, by simp⟩⟩
    refine told_of_ev (fn := mk_Picks_Op_fn) tabOk mixed (by kernel_rfl) (by kernel_rfl) (by kernel_rfl) (by kernel_rfl) ?_
    (refine gw ?_; refine Choice.mk ⟨true, Choice.mk ⟨false, _, _, t1, ?_⟩⟩)
    (refine gw ?_; refine Choice.mk ⟨true, Choice.mk ⟨false, _, _, t3, ?_⟩⟩)
    (refine gw ?_; refine Choice.mk ⟨true, Choice.mk ⟨false, _, _, t2, ?_⟩⟩)
    (refine gw ?_; exact RetN.mk ⟨[], rfl, rfl, rfl⟩)
  · obtain ⟨v, p2, t2, k2, b2⟩ := size_told hc p1 k1
    have t3 := num_told p2 k2 7 (by omega)
    have b3 := p2.num_lt (m := 7) (by omega)
    subst h
    obtain ⟨j, hj⟩ : ∃ j, p2.num 7 = j := ⟨_, rfl⟩
    rw [hj] at t3 b3
    rcases (by omega : j = 0 ∨ j = 1 ∨ j = 2 ∨ j = 3 ∨ j = 4 ∨ j = 5 ∨ j = 6) with h | h | h | h | h | h | h
    · subst h
      refine ⟨⟨3, 0, v, 1, 0, 0⟩, p2.next 7, ?_, k2.next 7, ⟨by simp, by simp, b2, by simp, by simp, by simp, by simp, by simp, by simp, by simp, by simp⟩⟩
      refine told_of_ev (fn := mk_Picks_Op_fn) tabOk mixed (by kernel_rfl) (by kernel_rfl) (by kernel_rfl) (by kernel_rfl) ?_
      (refine gw ?_; refine Choice.mk ⟨true, Choice.mk ⟨false, _, _, t1, ?_⟩⟩)
      (refine gw ?_; refine Choice.mk ⟨true, Choice.mk ⟨false, _, _, t2, ?_⟩⟩)
      (refine gw ?_; refine Choice.mk ⟨true, Choice.mk ⟨false, _, _, t3, ?_⟩⟩)
      (refine gw ?_)
      refine InB.mk (by simp) (by simp) ?_
      (refine gw ?_)
      first | (refine At.mk ⟨_, rfl, ?_⟩) | skip
      (refine gw ?_; exact RetN.mk ⟨[], rfl, rfl, rfl⟩)
    · subst h
      refine ⟨⟨3, 0, v, 2, 0, 0⟩, p2.next 7, ?_, k2.next 7, ⟨by simp, by simp, b2, by simp, by simp, by simp, by simp, by simp, by simp, by simp, by simp⟩⟩
      refine told_of_ev (fn := mk_Picks_Op_fn) tabOk mixed (by kernel_rfl) (by kernel_rfl) (by kernel_rfl) (by kernel_rfl) ?_
      (refine gw ?_; refine Choice.mk ⟨true, Choice.mk ⟨false, _, _, t1, ?_⟩⟩)
      (refine gw ?_; refine Choice.mk ⟨true, Choice.mk ⟨false, _, _, t2, ?_⟩⟩)
      (refine gw ?_; refine Choice.mk ⟨true, Choice.mk ⟨false, _, _, t3, ?_⟩⟩)
      (refine gw ?_)
      refine InB.mk (by simp) (by simp) ?_
      (refine gw ?_)
      first | (refine At.mk ⟨_, rfl, ?_⟩) | skip
      (refine gw ?_; exact RetN.mk ⟨[], rfl, rfl, rfl⟩)
    · subst h
      refine ⟨⟨3, 0, v, 4, 0, 0⟩, p2.next 7, ?_, k2.next 7, ⟨by simp, by simp, b2, by simp, by simp, by simp, by simp, by simp, by simp, by simp, by simp⟩⟩
      refine told_of_ev (fn := mk_Picks_Op_fn) tabOk mixed (by kernel_rfl) (by kernel_rfl) (by kernel_rfl) (by kernel_rfl) ?_
      (refine gw ?_; refine Choice.mk ⟨true, Choice.mk ⟨false, _, _, t1, ?_⟩⟩)
      (refine gw ?_; refine Choice.mk ⟨true, Choice.mk ⟨false, _, _, t2, ?_⟩⟩)
      (refine gw ?_; refine Choice.mk ⟨true, Choice.mk ⟨false, _, _, t3, ?_⟩⟩)
      (refine gw ?_)
      refine InB.mk (by simp) (by simp) ?_
      (refine gw ?_)
      first | (refine At.mk ⟨_, rfl, ?_⟩) | skip
      (refine gw ?_; exact RetN.mk ⟨[], rfl, rfl, rfl⟩)
    · subst h
      refine ⟨⟨3, 0, v, 3, 0, 0⟩, p2.next 7, ?_, k2.next 7, ⟨by simp, by simp, b2, by simp, by simp, by simp, by simp, by simp, by simp, by simp, by simp⟩⟩
      refine told_of_ev (fn := mk_Picks_Op_fn) tabOk mixed (by kernel_rfl) (by kernel_rfl) (by kernel_rfl) (by kernel_rfl) ?_
      (refine gw ?_; refine Choice.mk ⟨true, Choice.mk ⟨false, _, _, t1, ?_⟩⟩)
      (refine gw ?_; refine Choice.mk ⟨true, Choice.mk ⟨false, _, _, t2, ?_⟩⟩)
      (refine gw ?_; refine Choice.mk ⟨true, Choice.mk ⟨false, _, _, t3, ?_⟩⟩)
      (refine gw ?_)
      refine InB.mk (by simp) (by simp) ?_
      (refine gw ?_)
      first | (refine At.mk ⟨_, rfl, ?_⟩) | skip
      (refine gw ?_; exact RetN.mk ⟨[], rfl, rfl, rfl⟩)
    · subst h
      refine ⟨⟨3, 0, v, 0, 0, 0⟩, p2.next 7, ?_, k2.next 7, ⟨by simp, by simp, b2, by simp, by simp, by simp, by simp, by simp, by simp, by simp, by simp⟩⟩
      refine told_of_ev (fn := mk_Picks_Op_fn) tabOk mixed (by kernel_rfl) (by kernel_rfl) (by kernel_rfl) (by kernel_rfl) ?_
      (refine gw ?_; refine Choice.mk ⟨true, Choice.mk ⟨false, _, _, t1, ?_⟩⟩)
      (refine gw ?_; refine Choice.mk ⟨true, Choice.mk ⟨false, _, _, t2, ?_⟩⟩)
      (refine gw ?_; refine Choice.mk ⟨true, Choice.mk ⟨false, _, _, t3, ?_⟩⟩)
      (refine gw ?_)
      refine InB.mk (by simp) (by simp) ?_
      (refine gw ?_)
      first | (refine At.mk ⟨_, rfl, ?_⟩) | skip
      (refine gw ?_; exact RetN.mk ⟨[], rfl, rfl, rfl⟩)
    · subst h
      refine ⟨⟨3, 0, v, 8, 0, 0⟩, p2.next 7, ?_, k2.next 7, ⟨by simp, by simp, b2, by simp, by simp, by simp, by simp, by simp, by simp, by simp, by simp⟩⟩
      refine told_of_ev (fn := mk_Picks_Op_fn) tabOk mixed (by kernel_rfl) (by kernel_rfl) (by kernel_rfl) (by kernel_rfl) ?_
      (refine gw ?_; refine Choice.mk ⟨true, Choice.mk ⟨false, _, _, t1, ?_⟩⟩)
      (refine gw ?_; refine Choice.mk ⟨true, Choice.mk ⟨false, _, _, t2, ?_⟩⟩)
      (refine gw ?_; refine Choice.mk ⟨true, Choice.mk ⟨false, _, _, t3, ?_⟩⟩)
      (refine gw ?_)
      refine InB.mk (by simp) (by simp) ?_
      (refine gw ?_)
      first | (refine At.mk ⟨_, rfl, ?_⟩) | skip
      (refine gw ?_; exact RetN.mk ⟨[], rfl, rfl, rfl⟩)
    · subst h
      refine ⟨⟨3, 0, v, 16, 0, 0⟩, p2.next 7, ?_, k2.next 7, ⟨by simp, by simp, b2, by simp, by simp, by simp, by simp, by simp, by simp, by simp, by simp⟩⟩
      refine told_of_ev (fn := mk_Picks_Op_fn) tabOk mixed (by kernel_rfl) (by kernel_rfl) (by kernel_rfl) (by kernel_rfl) ?_
      (refine gw ?_; refine Choice.mk ⟨true, Choice.mk ⟨false, _, _, t1, ?_⟩⟩)
      (refine gw ?_; refine Choice.mk ⟨true, Choice.mk ⟨false, _, _, t2, ?_⟩⟩)
      (refine gw ?_; refine Choice.mk ⟨true, Choice.mk ⟨false, _, _, t3, ?_⟩⟩)
      (refine gw ?_)
      refine InB.mk (by simp) (by simp) ?_
      (refine gw ?_)
      first | (refine At.mk ⟨_, rfl, ?_⟩) | skip
      (refine gw ?_; exact RetN.mk ⟨[], rfl, rfl, rfl⟩)
  · obtain ⟨v, p2, t2, k2, b2⟩ := block_told hH ha p1 k1
    obtain ⟨w, p3, t3, k3, b3⟩ := size_told hc p2 k2
    refine ⟨⟨4, v, w, 0, 0, 0⟩, p3, ?_, k3, ⟨by simp, b2, b3, by simp, by simp, by simp, by simp, by simp, by simp, by simp, by simp⟩⟩
    refine told_of_ev (fn := mk_Picks_Op_fn) tabOk mixed (by kernel_rfl) (by kernel_rfl) (by kernel_rfl) (by kernel_rfl) ?_
    (refine gw ?_; refine Choice.mk ⟨true, Choice.mk ⟨false, _, _, t1, ?_⟩⟩)
    (refine gw ?_; refine IfB.ff (by simp; omega) ?_)
    (refine gw ?_; refine IfB.ff (by simp; omega) ?_)
    (refine gw ?_; refine IfB.ff (by simp; omega) ?_)
    (refine gw ?_; refine IfB.tt (by simp; omega) ?_)
    (refine gw ?_; refine Choice.mk ⟨true, Choice.mk ⟨false, _, _, t2, ?_⟩⟩)
    (refine gw ?_; refine Choice.mk ⟨true, Choice.mk ⟨false, _, _, t3, ?_⟩⟩)
    (refine gw ?_; exact RetN.mk ⟨[], rfl, rfl, rfl⟩)
  · obtain ⟨v, p2, t2, k2, b2⟩ := block_told hH ha p1 k1
    refine ⟨⟨5, v, 0, 0, 0, 0⟩, p2, ?_, k2, ⟨by simp, b2, by simp; omega, by simp, by simp, by simp, by simp, by simp, by simp, by simp, by simp⟩⟩
    refine told_of_ev (fn := mk_Picks_Op_fn) tabOk mixed (by kernel_rfl) (by kernel_rfl) (by kernel_rfl) (by kernel_rfl) ?_
    (refine gw ?_; refine Choice.mk ⟨true, Choice.mk ⟨false, _, _, t1, ?_⟩⟩)
    (refine gw ?_; refine IfB.ff (by simp; omega) ?_)
    (refine gw ?_; refine IfB.ff (by simp; omega) ?_)
    (refine gw ?_; refine IfB.ff (by simp; omega) ?_)
    (refine gw ?_; refine IfB.ff (by simp; omega) ?_)
    (refine gw ?_; refine IfB.tt (by simp; omega) ?_)
    (refine gw ?_; refine Choice.mk ⟨true, Choice.mk ⟨false, _, _, t2, ?_⟩⟩)
    (refine gw ?_; exact RetN.mk ⟨[], rfl, rfl, rfl⟩)
  · obtain ⟨v, p2, t2, k2, b2⟩ := block_told hH ha p1 k1
    subst h
    refine ⟨⟨6, v, 0, 0, 0, 0⟩, p2, ?_, k2, ⟨by simp, b2, by simp; omega, by simp, by simp, by simp, by simp, by simp, by simp, by simp, by simp⟩⟩
    refine told_of_ev (fn := mk_Picks_Op_fn) tabOk mixed (by kernel_rfl) (by kernel_rfl) (by kernel_rfl) (by kernel_rfl) ?_
    (refine gw ?_; refine Choice.mk ⟨true, Choice.mk ⟨false, _, _, t1, ?_⟩⟩)
    (refine gw ?_; refine Choice.mk ⟨true, Choice.mk ⟨false, _, _, t2, ?_⟩⟩)
    (refine gw ?_; exact RetN.mk ⟨[], rfl, rfl, rfl⟩)
  · obtain ⟨v, p2, t2, k2, b2⟩ := block_told hH ha p1 k1
    have t3 := num_told p2 k2 9 (by omega)
    have b3 := p2.num_lt (m := 9) (by omega)
    refine ⟨⟨7, v, 0, 0, (p2.num 9 : Nat), 0⟩, p2.next 9, ?_, k2.next 9, ⟨by simp, b2, by simp; omega, by simp, by simp only; omega, by simp, by simp, by simp, by simp, by simp, by simp⟩⟩
    refine told_of_ev (fn := mk_Picks_Op_fn) tabOk mixed (by kernel_rfl) (by kernel_rfl) (by kernel_rfl) (by kernel_rfl) ?_
    (refine gw ?_; refine Choice.mk ⟨true, Choice.mk ⟨false, _, _, t1, ?_⟩⟩)
    (refine gw ?_; refine IfB.ff (by simp; omega) ?_)
    (refine gw ?_; refine IfB.ff (by simp; omega) ?_)
    (refine gw ?_; refine IfB.ff (by simp; omega) ?_)
    (refine gw ?_; refine IfB.ff (by simp; omega) ?_)
    (refine gw ?_; refine IfB.ff (by simp; omega) ?_)
    (refine gw ?_; refine IfB.ff (by simp; omega) ?_)
    (refine gw ?_; refine IfB.tt (by simp; omega) ?_)
    (refine gw ?_; refine Choice.mk ⟨true, Choice.mk ⟨false, _, _, t2, ?_⟩⟩)
    (refine gw ?_; refine Choice.mk ⟨true, Choice.mk ⟨false, _, _, t3, ?_⟩⟩)
    (refine gw ?_; exact RetN.mk ⟨[], rfl, rfl, rfl⟩)
  · subst h
    refine ⟨⟨9, 0, 0, 0, 0, 0⟩, p1, ?_, k1, ⟨by simp, by simp, by simp; omega, by simp, by simp, by simp, by simp, by simp, by simp, by simp, by simp⟩⟩
    refine told_of_ev (fn := mk_Picks_Op_fn) tabOk mixed (by kernel_rfl) (by kernel_rfl) (by kernel_rfl) (by kernel_rfl) ?_
    (refine gw ?_; refine Choice.mk ⟨true, Choice.mk ⟨false, _, _, t1, ?_⟩⟩)
    (refine gw ?_; exact RetN.mk ⟨[], rfl, rfl, rfl⟩)
  · subst h
    refine ⟨⟨10, 0, 0, 0, 0, 0⟩, p1, ?_, k1, ⟨by simp, by simp, by simp; omega, by simp, by simp, by simp, by simp, by simp, by simp, by simp, by simp⟩⟩
    refine told_of_ev (fn := mk_Picks_Op_fn) tabOk mixed (by kernel_rfl) (by kernel_rfl) (by kernel_rfl) (by kernel_rfl) ?_
    (refine gw ?_; refine Choice.mk ⟨true, Choice.mk ⟨false, _, _, t1, ?_⟩⟩)
    (refine gw ?_; exact RetN.mk ⟨[], rfl, rfl, rfl⟩)
  · obtain ⟨v, p2, t2, k2, b2⟩ := block_told hH ha p1 k1
    have t3 := num_told p2 k2 9 (by omega)
    have b3 := p2.num_lt (m := 9) (by omega)
    have t4 := num_told _ (k2.next 9) 256 (by omega)
    have b4 := (p2.next 9).num_lt (m := 256) (by omega)
    subst h
    refine ⟨⟨8, v, 0, 0, (p2.num 9 : Nat), ((p2.next 9).num 256 : Nat)⟩, (p2.next 9).next 256, ?_, (k2.next 9).next 256, ⟨by simp, b2, by simp; omega, by simp, by simp only; omega, by simp only; omega, by simp, by simp, by simp, by simp, by simp⟩⟩
    refine told_of_ev (fn := mk_Picks_Op_fn) tabOk mixed (by kernel_rfl) (by kernel_rfl) (by kernel_rfl) (by kernel_rfl) ?_
    (refine gw ?_; refine Choice.mk ⟨true, Choice.mk ⟨false, _, _, t1, ?_⟩⟩)
    (refine gw ?_; refine Choice.mk ⟨true, Choice.mk ⟨false, _, _, t2, ?_⟩⟩)
    (refine gw ?_; refine Choice.mk ⟨true, Choice.mk ⟨false, _, _, t3, ?_⟩⟩)
    (refine gw ?_; refine Choice.mk ⟨true, Choice.mk ⟨false, _, _, t4, ?_⟩⟩)
    (refine gw ?_)
    refine fits (by rw [IntKind.wrap_u8]; omega) ?_
    (refine gw ?_; exact RetN.mk ⟨[], rfl, rfl, rfl⟩)
end Go.Ev.W
namespace Go.Ev.W
open Go.Ev Go.Ev.N

set_option maxRecDepth 20000 in
set_option maxHeartbeats 4000000 in
theorem new17_told (r : Rw) : Told P T ref17_New [] [eR r] (.tup [eM (newM r).1, i64 ((newM r).2 : Nat)]) [] := by
  have c1 := refOf_told r
  have hok := ofF_ok (r := r)
  unfold newM
  generalize ofF r = R at *
  obtain ⟨c, e⟩ := R
  by_cases he : e = 0
  · subst he
    have hc : c.Ok := (hok rfl).1
    have hH := hc.h2
    have hpg := hc.pgpos
    have d1 : ((c.H : Nat) : Int).tdiv ((c.Pg : Nat) : Int) = ((c.H / c.Pg : Nat) : Int) := (Int.ofNat_tdiv c.H c.Pg).symm
    have d2 := Nat.div_le_self c.H c.Pg
    simp only [ne_eq, not_true_eq_false, if_false]
    generalize hD : c.H / c.Pg = D at *
    have c1 : Told P T ref1_Of [] [eR r] (.tup [eC c, i64 ((0 : Nat) : Int)]) [] := c1
    refine told_of_ev (fn := ref17_New_fn) tabOk mixed (by kernel_rfl) (by kernel_rfl) (by kernel_rfl) (by kernel_rfl) ?_
    (refine gw ?_; refine Choice.mk ⟨false, Choice.mk ⟨false, _, _, c1, ?_⟩⟩)
    (refine gw ?_)
    rw [d1]
    (refine gw ?_; refine Room.mk (by first | omega | (simp; omega) | (simp <;> fail)) ?_)
    (refine gw ?_; refine Room.mk (by first | omega | (simp; omega) | (simp <;> fail)) ?_)
    (refine gw ?_; refine RetN.fz ⟨[true, true], [], rfl, ?_, rfl⟩)
    have hr1 : lT (List.replicate D false) = .lst t_bool (List.replicate D (.bool false)) := by unfold lT; rw [List.map_replicate]
    have hr2 : lU (List.replicate c.H 0) = .lst t_uint8 (List.replicate c.H (u8 0)) := by unfold lU; rw [List.map_replicate]
    refine Eq.trans ?_ (congrArg (fun z => AV.tup [z, i64 0]) (show AV.agg [i64 c.G, i64 c.N, i64 c.M, i64 c.L, i64 c.Pg, i64 c.P, i64 c.H, i64 c.Sd, lK [], i64 0, i64 0, i64 0, .lst t_bool (List.replicate ((D : Nat) : Int).toNat (.bool false)), .lst t_uint8 (List.replicate ((c.H : Nat) : Int).toNat (u8 0))] = eM ⟨c, [], 0, 0, 0, List.replicate D false, List.replicate c.H 0⟩ by
      rw [Int.toNat_natCast, Int.toNat_natCast, ← hr1, ← hr2]; rfl))
    rfl
  · simp only [ne_eq, he, not_false_eq_true, if_true]
    refine told_of_ev (fn := ref17_New_fn) tabOk mixed (by kernel_rfl) (by kernel_rfl) (by kernel_rfl) (by kernel_rfl) ?_
    have c1 : Told P T ref1_Of [] [eR r] (.tup [eC c, i64 ((e : Nat) : Int)]) [] := c1
    (refine gw ?_; refine Choice.mk ⟨false, Choice.mk ⟨false, _, _, c1, ?_⟩⟩)
    (refine gw ?_; refine IfB.tt (by simpa using he) ?_)
    (refine gw ?_; exact RetN.fz ⟨[true, true], [], rfl, rfl, rfl⟩)
theorem newM_ok {r : Rw} (h : (newM r).2 = 0) : MoOk (newM r).1 := by
  have hok := ofF_ok (r := r)
  unfold newM at h ⊢
  split at h
  · rename_i h1; exact absurd h h1
  · rename_i h1
    rw [if_neg h1]
    have hc := (hok (Decidable.of_not_not h1)).1
    refine ⟨hc, ApB.nil _, by simp, by simp [totalB], by simp, by simp, by simp, by simp, ?_, by simp, ?_⟩
    · show cntB (List.replicate _ false) ≤ _
      unfold cntB
      rw [List.filter_eq_nil_iff.2 (by intro a ha; rw [List.eq_of_mem_replicate ha]; simp)]
      simp
    · intro x hx
      rw [List.eq_of_mem_replicate hx]; omega
end Go.Ev.W
namespace Go.Ev.W
open Go.Ev Go.Ev.N

theorem newM_of (r : Rw) : (newM r).2 = (ofF r).2 := by
  unfold newM
  split <;> simp_all
theorem hpNewI {r : Rw} (h : (newM r).2 = 0) : ∃ s, Hr (newM r).1 s ∧ Told P T heap_New [] [eR r] (.tup [.ptr 0 0 0, i64 0]) (hsL (newM r).1.c ((newM r).1.c.H / (newM r).1.c.G) ((newM r).1.c.L + 1) s ++ [.fz t_bool ((newM r).1.on.map .bool)]) := by
  have h2 : (ofF r).2 = 0 := by rw [← newM_of]; exact h
  refine ⟨_, newH_rel h2, ?_⟩
  have := hpNew_told r h2
  unfold newM
  rw [if_neg (by simpa using h2)]
  exact this
theorem hpNewE {r : Rw} (h : (newM r).2 ≠ 0) : Told P T heap_New [] [eR r] (.tup [.npt, i64 ((newM r).2 : Nat)]) [] := by
  rw [newM_of] at h ⊢
  exact hpNewE_told r h
abbrev hI (m : Mo) (s : Hs) : List Blk := hsL m.c (m.c.H / m.c.G) (m.c.L + 1) s
end Go.Ev.W
namespace Go.Ev.W
open Go.Ev Go.Ev.N

theorem memWithin_told {mem : List Nat} (hl : mem.length ≤ 65536) {a n : Nat} (h : a + n ≤ mem.length) : Told P T mem_within [] [lU mem, i64 a, i64 n] (.bool true) [] := by
  have hmu : (mem.map u8).length = mem.length := by simp
  refine told_of_ev (fn := mem_within_fn) tabOk mixed (by kernel_rfl) (by kernel_rfl) (by kernel_rfl) (by kernel_rfl) ?_
  (refine gw ?_; refine IfB.tt (by simp; omega) ?_)
  (refine gw ?_; refine RetN.mk ⟨[], rfl, ?_, rfl⟩)
  rw [hmu]
  refine congrArg AV.bool (decide_eq_true ?_)
  omega
end Go.Ev.W
namespace Go.Ev.W
open Go.Ev Go.Ev.N

theorem clone_Block (es : List AV) (hl : es.length ≤ 1000000) : Told P T slices_Clone_api_Block_api_Block [] [.lst t_api_Block es] (.ref 0) [.row t_api_Block es] := by
  refine told_of_ev (fn := slices_Clone_api_Block_api_Block_fn) tabOk mixed (by kernel_rfl) (by kernel_rfl) (by kernel_rfl) (by kernel_rfl) ?_
  refine AnyB.mk (fun b hb => ?_)
  refine IfB.mk (fun h1 => ?_) (fun h1 => ?_)
  · obtain rfl := hb h1
    exact RetN.mk ⟨[1], rfl, rfl, rfl⟩
  · refine Room.mk (by first | omega | (simp; omega) | (simp; done)) ?_
    exact RetN.mk ⟨[2], rfl, rfl, rfl⟩
theorem zero_list {mem : List Nat} {a n : Nat} (h : a + n ≤ mem.length) : (zeroF mem a n).map u8 = (mem.map u8).take a ++ (List.replicate n (.int .u8 0) ++ (mem.map u8).drop (a + n)) := by
  refine List.ext_getElem (by simp [zeroF]; omega) fun i h1 h2 => ?_
  have hi : i < mem.length := by simpa [zeroF] using h1
  have hz : ∀ (hx : i < (zeroF mem a n).length), (zeroF mem a n)[i] = if a ≤ i ∧ i < a + n then 0 else mem.getD i 0 := fun hx => by simp [zeroF]
  rw [List.getElem_map, hz, List.getElem_append]
  have hg : mem.getD i 0 = mem[i] := by simp [List.getD_eq_getElem?_getD, hi]
  have hta : ((mem.map u8).take a).length = a := by simp; omega
  by_cases h3 : i < a
  · rw [dif_pos (by omega), if_neg (by omega), List.getElem_take, List.getElem_map, hg]
  · rw [dif_neg (by omega), List.getElem_append]
    by_cases h4 : i < a + n
    · rw [dif_pos (by rw [List.length_replicate]; omega), if_pos (by omega), List.getElem_replicate]; rfl
    · rw [dif_neg (by rw [List.length_replicate]; omega), if_neg (by omega), List.getElem_drop, List.getElem_map, hg]
      congr 2
      simp only [hta, List.length_replicate]; omega
set_option maxHeartbeats 4000000 in
theorem memPut_told {mem : List Nat} (hl : mem.length ≤ 65536) {a : Nat} {b : Int} (h : a + 1 ≤ mem.length) : Told P T mem_Put [] [lU mem, i64 a, .int .u8 b] (.tup [.lst t_uint8 ((mem.map u8).set a (.int .u8 b)), .bool true]) [] := by
  have hmu : (mem.map u8).length = mem.length := by simp
  have c1 := clone_byte (mem.map u8) (by omega)
  have c2 := memWithin_told hl h
  refine told_of_ev (fn := mem_Put_fn) tabOk mixed (by kernel_rfl) (by kernel_rfl) (by kernel_rfl) (by kernel_rfl) ?_
  (refine gw ?_; refine Choice.mk ⟨false, Choice.mk ⟨false, _, _, c1, ?_⟩⟩)
  (refine gw ?_; refine Choice.mk ⟨false, Choice.mk ⟨true, _, _, c2, ?_⟩⟩)
  (refine gw ?_)
  (refine gw ?_; refine RetN.fz ⟨[true, true], [], rfl, ?_, rfl⟩)
  rfl
set_option maxHeartbeats 4000000 in
theorem memGet_told {mem : List Nat} (hl : mem.length ≤ 65536) {a : Nat} (h : a + 1 ≤ mem.length) : Told P T mem_Get [] [lU mem, i64 a] (.tup [u8 (mem.getD a 0), .bool true]) [] := by
  have hmu : (mem.map u8).length = mem.length := by simp
  have c2 := memWithin_told hl h
  have ha : a < mem.length := by omega
  have hg : mem.getD a 0 = mem[a] := by simp [List.getD_eq_getElem?_getD, ha]
  rw [hg]
  refine told_of_ev (fn := mem_Get_fn) tabOk mixed (by kernel_rfl) (by kernel_rfl) (by kernel_rfl) (by kernel_rfl) ?_
  (refine gw ?_; refine Choice.mk ⟨false, Choice.mk ⟨true, _, _, c2, ?_⟩⟩)
  (refine gw ?_; refine idx_map (ha) ?_)
  (refine gw ?_; exact RetN.mk ⟨[], rfl, rfl, rfl⟩)
set_option maxHeartbeats 4000000 in
theorem memZero_told {mem : List Nat} (hl : mem.length ≤ 65536) {a n : Nat} (h : a + n ≤ mem.length) : Told P T mem_Zero [] [lU mem, i64 a, i64 n] (.tup [lU (zeroF mem a n), .bool true]) [] := by
  have hmu : (mem.map u8).length = mem.length := by simp
  have c1 := clone_byte (mem.map u8) (by omega)
  have c2 := memWithin_told hl h
  refine told_of_ev (fn := mem_Zero_fn) tabOk mixed (by kernel_rfl) (by kernel_rfl) (by kernel_rfl) (by kernel_rfl) ?_
  (refine gw ?_; refine Choice.mk ⟨false, Choice.mk ⟨false, _, _, c1, ?_⟩⟩)
  (refine gw ?_; refine Choice.mk ⟨false, Choice.mk ⟨true, _, _, c2, ?_⟩⟩)
  (refine gw ?_; refine Cut.mk (by first | omega | (simp; omega) | (simp <;> fail)) (by first | omega | (simp; omega) | (simp <;> fail)) (by first | omega | (simp; omega) | (simp <;> fail)) ?_)
  have e : (zeroF mem a n).map u8 = (mem.map u8).take ((a : Nat) : Int).toNat ++ (List.replicate ((((a : Nat) : Int) + ((n : Nat) : Int)).toNat - ((a : Nat) : Int).toNat) (.int .u8 0) ++ (mem.map u8).drop (((a : Nat) : Int).toNat + ((((a : Nat) : Int) + ((n : Nat) : Int)).toNat - ((a : Nat) : Int).toNat))) := by
    rw [show (((a : Nat) : Int) + ((n : Nat) : Int)).toNat - ((a : Nat) : Int).toNat = n by omega, Int.toNat_natCast]
    exact zero_list h
  (refine gw ?_; refine RetN.fz ⟨[true, true], [], rfl, ?_, rfl⟩)
  refine Eq.trans ?_ (congrArg (fun z => AV.tup [.lst t_uint8 z, .bool true]) e.symm)
  rfl
end Go.Ev.W
namespace Go.Ev.W
open Go.Ev Go.Ev.N

set_option maxHeartbeats 4000000 in
theorem junkFillR_told {mem : List Nat} (hl : mem.length ≤ 65536) {seed page size : Nat} (hs : 0 < size) (hp : (page + 1) * size ≤ mem.length) : Told P T junk_Fill [] [lU mem, i64 seed, i64 page, i64 size] (.ref 0) [.row t_uint8 ((fillF mem seed page size).map u8)] := by
  have hmu : (mem.map u8).length = mem.length := by simp
  obtain ⟨D, hD⟩ : ∃ D, mem.length = D := ⟨_, rfl⟩
  have c1 := clone_byte (mem.map u8) (by omega)
  have d1 : ((D : Nat) : Int).tdiv ((size : Nat) : Int) = ((D / size : Nat) : Int) := (Int.ofNat_tdiv D size).symm
  have hmul : (page + 1) * size = page * size + size := by rw [Nat.succ_mul]
  have hdv : page + 1 ≤ D / size := (Nat.le_div_iff_mul_le hs).2 (by omega)
  have hdl := Nat.div_le_self D size
  have eps : ((page : Nat) : Int) * ((size : Nat) : Int) = ((page * size : Nat) : Int) := by rw [Int.natCast_mul]
  have hfs : ∀ k, k < size → fAt mem seed page size (page * size + k) = byteF seed page k := fun k hk => by
    have e1 : (page * size + k) / size = page := by rw [Nat.mul_comm, Nat.mul_add_div hs, Nat.div_eq_of_lt hk]; rfl
    have e2 : (page * size + k) % size = k := by rw [Nat.mul_comm, Nat.mul_add_mod, Nat.mod_eq_of_lt hk]
    unfold fAt; rw [if_pos e1, e2]
  have hfo : ∀ j, ¬ (page * size ≤ j ∧ j < page * size + size) → fAt mem seed page size j = mem.getD j 0 := fun j hj => by
    unfold fAt
    rw [if_neg]
    intro e
    apply hj
    have h1 := Nat.div_mul_le_self j size
    have h2 := Nat.lt_mul_div_succ j hs
    rw [e] at h1 h2
    rw [Nat.mul_comm, Nat.succ_mul] at h2
    omega
  rw [hD] at hmu hp
  generalize D / size = q at *
  generalize page * size = ps at *
  have hg := fun k => tabF_len D (fun j => u8 (if ps ≤ j ∧ j < ps + k then fAt mem seed page size j else mem.getD j 0))
  refine told_of_ev (fn := junk_Fill_fn) tabOk mixed (by kernel_rfl) (by kernel_rfl) (by kernel_rfl) (by kernel_rfl) ?_
  (refine gw ?_; refine Choice.mk ⟨false, Choice.mk ⟨false, _, _, c1, ?_⟩⟩)
  (refine gw ?_; refine IfB.ff (by simp; omega) ?_)
  (refine gw ?_)
  rw [hmu, d1]
  (refine gw ?_; refine IfB.ff (by simp; omega) ?_)
  (refine gw ?_; refine LoopN.mk ⟨[0,1,2,3,9], fun vs L => ∃ k : Nat, vs = [.ref 0, i64 seed, i64 page, i64 size, i64 k] ∧ L = [.row t_uint8 (tabF D fun j => u8 (if ps ≤ j ∧ j < ps + k then fAt mem seed page size j else mem.getD j 0))] ∧ k ≤ size, fun vs L => match vs with | [_, _, _, _, .int _ i] => size - i.toNat | _ => 0, [], [1], rfl, ⟨0, rfl, ?_, by omega⟩, ?_⟩)
  · show [Blk.row t_uint8 (mem.map u8)] = _
    rw [lU_tab, hD]
    exact congrArg (fun z => [Blk.row t_uint8 z]) (tabF_congr fun j _ => by rw [if_neg (by omega)])
  rintro vs L ⟨k, rfl, rfl, hk⟩
  have hgk := hg k
  by_cases hks : k < size
  · have hset : (tabF D fun j => u8 (if ps ≤ j ∧ j < ps + k then fAt mem seed page size j else mem.getD j 0)).set (((ps : Nat) : Int) + ((k : Nat) : Int)).toNat (u8 (byteF seed page k)) = tabF D fun j => u8 (if ps ≤ j ∧ j < ps + (k + 1) then fAt mem seed page size j else mem.getD j 0) := by
      rw [show (((ps : Nat) : Int) + ((k : Nat) : Int)).toNat = ps + k by omega]
      refine tabF_set (by omega) fun j hj => ?_
      by_cases e : j = ps + k
      · subst e; rw [if_pos rfl, if_pos (by omega), hfs k hks]
      · rw [if_neg e]
        by_cases e2 : ps ≤ j ∧ j < ps + k
        · rw [if_pos e2, if_pos (by omega)]
        · rw [if_neg e2, if_neg (by omega)]
    (refine gw ?_; refine IfB.tt (by simp; omega) ?_)
    (refine gw ?_)
    rw [eps]
    (refine gw ?_)
    rw [hgk]
    (refine gw ?_; refine IfB.tt (by simp; omega) ?_)
    (refine gw ?_; refine Choice.mk ⟨false, Choice.mk ⟨true, _, _, junkByte_told seed page k, ?_⟩⟩)
    (refine gw ?_)
    rw [eps]
    (refine gw ?_; refine ⟨[], [0], rfl, ⟨k + 1, rfl, by rw [← hset]; rfl, by omega⟩, (by omega : size - ((k : Int) + 1).toNat < size - (k : Int).toNat)⟩)
  · have e : k = size := by omega
    subst e
    have f1 : (tabF D fun j => u8 (if ps ≤ j ∧ j < ps + k then fAt mem seed page k j else mem.getD j 0)) = (fillF mem seed page k).map u8 := by
      rw [fillF_eq, hD, ← tabF_of]
      refine tabF_congr fun j hj => ?_
      by_cases e2 : ps ≤ j ∧ j < ps + k
      · rw [if_pos e2]
      · rw [if_neg e2, hfo j e2]
    rw [f1]
    (refine gw ?_; exact RetN.mk ⟨[0], rfl, rfl, rfl⟩)
theorem junkFill_told {mem : List Nat} (hl : mem.length ≤ 65536) {seed page size : Nat} (hs : 0 < size) (hp : (page + 1) * size ≤ mem.length) : Told P T junk_Fill [] [lU mem, i64 seed, i64 page, i64 size] (lU (fillF mem seed page size)) [] :=
  (junkFillR_told hl hs hp).fz
end Go.Ev.W
namespace Go.Ev.W
open Go.Ev Go.Ev.N

set_option maxHeartbeats 8000000 in
theorem pinMetR_told {pg size : Nat} (hp : 1 ≤ pg) (hs : size ≤ 65536) (hps : pg ≤ size) {l : List Bk} (hl : l.length ≤ 1000000) (hb : ∀ x ∈ l, 0 ≤ x.a ∧ 1 ≤ x.c ∧ x.a + x.c ≤ size) : Told P T pin_Met [] [i64 pg, i64 size, lK l] (.ref 0) [.row t_bool ((metF pg size l).map .bool)] := by
  have hml : (l.map eB).length = l.length := by simp
  have e1 : ((size : Nat) : Int).tdiv (pg : Nat) = ((size / pg : Nat) : Int) := by rw [Int.tdiv_eq_ediv_of_nonneg (by omega)]; omega
  have d1 := Nat.div_le_self size pg
  have d2 : 1 ≤ size / pg := (Nat.le_div_iff_mul_le (by omega)).2 (by omega)
  obtain ⟨D, hD⟩ : ∃ D, size / pg = D := ⟨_, rfl⟩
  have hmet : metF pg size l = (List.range D).map fun i => anyK l pg i l.length := by
    unfold metF; rw [hD]
    refine List.map_congr_left fun i _ => ?_
    unfold anyK; rw [List.take_length]
  rw [hD] at e1 d1 d2
  have hlen : ∀ f : Nat → AV, (tabF D f).length = D := tabF_len D
  rw [hmet]
  refine told_of_ev (fn := pin_Met_fn) tabOk mixed (by kernel_rfl) (by kernel_rfl) (by kernel_rfl) (by kernel_rfl) ?_
  (refine gw ?_; refine IfB.ff (by simp; omega) ?_)
  (refine gw ?_; refine IfB.ff (by simp; omega) ?_)
  (refine gw ?_)
  rw [e1]
  (refine gw ?_; refine IfB.ff (by simp; omega) ?_)
  (refine gw ?_)
  rw [e1]
  (refine gw ?_; refine Room.mk (by first | omega | (simp; omega) | (simp <;> fail)) ?_)
  (refine gw ?_; refine LoopN.mk ⟨[0,1,7,33,34,35], fun vs L => ∃ k : Nat, vs = [i64 pg, i64 size, .ref 0, lK l, i64 (l.map eB).length, i64 k] ∧ L = [.row t_bool (tabF D fun j => .bool (anyK l pg j k))] ∧ k ≤ l.length, fun vs L => match vs with | [_, _, _, _, _, .int _ i] => l.length - i.toNat | _ => 0, [], [1], rfl, ⟨0, rfl, ?_, by omega⟩, ?_⟩)
  · show [Blk.row t_bool (List.replicate ((D : Nat) : Int).toNat (AV.bool false))] = _
    rw [Int.toNat_natCast, tabF_rep]; rfl
  rintro vs L ⟨k, rfl, rfl, hk⟩
  (refine gw ?_; first | refine IfB.dec (fun g1 => ?_) (fun g1 => ?_) | refine IfB.eq (fun g1 => ?_) (fun g1 => ?_) | refine IfB.ne (fun g1 => ?_) (fun g1 => ?_) | refine IfB.mk (fun g1 => ?_) (fun g1 => ?_))
  · have hkl : k < l.length := by omega
    have hx := hb _ (List.getElem_mem hkl)
    have hsu := fun i => anyK_succ (pg := pg) (i := i) hkl
    have emax : ∀ a b : Int, (if b > a then b else a) = max a b := fun a b => by split <;> omega
    (refine gw ?_; refine idx_map (hkl) ?_)
    generalize l[k] = x at *
    obtain ⟨a, ha⟩ : ∃ a : Nat, x.a = (a : Nat) := ⟨x.a.toNat, by omega⟩
    obtain ⟨c, hc⟩ : ∃ c : Nat, x.c = (c : Nat) := ⟨x.c.toNat, by omega⟩
    have hx1 := hx.2.1
    have hx2 := hx.2.2
    rw [hc] at hx1
    rw [ha, hc] at hx2
    have em : (if (0 : Int) > x.a then 0 else x.a) = ((a : Nat) : Int) := by rw [if_neg (by omega), ha]
    have f1 : ((a : Nat) : Int).tdiv (pg : Nat) = ((a / pg : Nat) : Int) := (Int.ofNat_tdiv a pg).symm
    have f2 : (((a + c - 1 : Nat)) : Int).tdiv (pg : Nat) = (((a + c - 1) / pg : Nat) : Int) := (Int.ofNat_tdiv _ pg).symm
    have f0 : ((a + c : Nat) : Int) - 1 = ((a + c - 1 : Nat) : Int) := by omega
    have q1 := Nat.div_le_self a pg
    have q2 := Nat.div_le_self (a + c - 1) pg
    have q3 : a / pg ≤ (a + c - 1) / pg := Nat.div_le_div_right (by omega)
    have hov : ∀ i, ovr (i * pg : Nat) pg a c = (decide (a / pg ≤ i) && decide (i ≤ (a + c - 1) / pg)) := fun i => by
      unfold ovr
      rw [← Bool.decide_and]
      refine decide_eq_decide.2 ?_
      rw [Nat.le_div_iff_mul_le (by omega), ← Nat.lt_succ_iff (m := a / pg), Nat.div_lt_iff_lt_mul (by omega), Nat.succ_mul]
      omega
    have hs' : ∀ i, anyK l pg i (k + 1) = (anyK l pg i k || (decide (a / pg ≤ i) && decide (i ≤ (a + c - 1) / pg))) := fun i => by rw [hsu, ha, hc, hov]
    clear hsu hov
    generalize a / pg = A at *
    generalize (a + c - 1) / pg = C at *
    by_cases hlt : x.c < (size : Int) - x.a
    · have eu : (if (size : Int) < x.a + x.c then (size : Int) else x.a + x.c) = ((a + c : Nat) : Int) := by rw [if_neg (by omega)]; omega
      (refine gw ?_; refine IfB.tt (by simp; omega) ?_)
      (refine gw ?_)
      rw [em]
      (refine gw ?_; refine IfB.ff (by simp; omega) ?_)
      (refine gw ?_)
      rw [eu]
      (refine gw ?_; refine IfB.ff (by simp; omega) ?_)
      (refine gw ?_)
      rw [f1]
      (refine gw ?_; refine LoopN.mk ⟨[0,1,7,11,12,33,34,35], fun vs L => ∃ p : Nat, vs = [i64 pg, i64 size, .ref 0, i64 (a + c : Nat), i64 p, lK l, i64 (l.map eB).length, i64 k] ∧ L = [.row t_bool (tabF D fun j => .bool (or (anyK l pg j k) (decide (A ≤ j) && decide (j < p))))] ∧ A ≤ p ∧ p ≤ C + 1, fun vs L => match vs with | [_, _, _, _, .int _ i, _, _, _] => C + 1 - i.toNat | _ => 0, [], [0], rfl, ⟨A, by rw [← eu]; rfl, ?_, by omega, by omega⟩, ?_⟩)
      · refine congrArg (fun z => [Blk.row t_bool z]) (tabF_congr fun j _ => ?_)
        have : (decide (A ≤ j) && decide (j < A)) = false := by rw [Bool.and_eq_false_iff]; by_cases h : A ≤ j <;> simp [h]
        rw [this, Bool.or_false]
      rintro vs L ⟨p, rfl, rfl, hp1, hp2⟩
      have hlp := hlen fun j => .bool (or (anyK l pg j k) (decide (A ≤ j) && decide (j < p)))
      have hend : ¬ (p ≤ C ∧ p < D) → (tabF D fun j => AV.bool (or (anyK l pg j k) (decide (A ≤ j) && decide (j < p)))) = tabF D fun j => AV.bool (anyK l pg j (k + 1)) := fun hn => by
        refine tabF_congr fun j hj => ?_
        rw [hs']
        have : decide (j < p) = decide (j ≤ C) := decide_eq_decide.2 (by omega)
        rw [this]
      (refine gw ?_)
      rw [f0]
      (refine gw ?_)
      rw [f2]
      by_cases hpC : p ≤ C
      · (refine gw ?_; refine IfB.tt (by simp; omega) ?_)
        (refine gw ?_)
        rw [hlp]
        by_cases hpD : p < D
        · have hset : (tabF D fun j => AV.bool (or (anyK l pg j k) (decide (A ≤ j) && decide (j < p)))).set ((p : Nat) : Int).toNat (.bool true) = tabF D fun j => AV.bool (or (anyK l pg j k) (decide (A ≤ j) && decide (j < p + 1))) := by
            rw [Int.toNat_natCast]
            refine tabF_set hpD fun j hj => ?_
            by_cases e : j = p
            · subst e; rw [if_pos rfl, decide_eq_true hp1, decide_eq_true (show j < j + 1 by omega)]; simp
            · rw [if_neg e]
              have : decide (j < p + 1) = decide (j < p) := decide_eq_decide.2 (by omega)
              rw [this]
          (refine gw ?_; refine IfB.tt (by simp; omega) ?_)
          (refine gw ?_; refine ⟨[], [0], rfl, ⟨p + 1, rfl, by rw [← hset]; rfl, by omega, by omega⟩, (by omega : C + 1 - ((p : Int) + 1).toNat < C + 1 - (p : Int).toNat)⟩)
        · (refine gw ?_; refine IfB.ff (by simp; omega) ?_)
          (refine gw ?_; refine ⟨[], [0], rfl, ⟨k + 1, rfl, by rw [← hend (by omega)]; rfl, hkl⟩, (by omega : l.length - ((k : Int) + 1).toNat < l.length - (k : Int).toNat)⟩)
      · (refine gw ?_; refine IfB.ff (by simp; omega) ?_)
        (refine gw ?_; refine ⟨[], [0], rfl, ⟨k + 1, rfl, by rw [← hend (by omega)]; rfl, hkl⟩, (by omega : l.length - ((k : Int) + 1).toNat < l.length - (k : Int).toNat)⟩)
    · have eu : (size : Int) = ((a + c : Nat) : Int) := by omega
      (refine gw ?_; refine IfB.ff (by simp; omega) ?_)
      (refine gw ?_; refine IfB.ff (by simp; omega) ?_)
      (refine gw ?_)
      rw [em]
      (refine gw ?_; refine IfB.ff (by simp; omega) ?_)
      (refine gw ?_; refine IfB.ff (by simp; omega) ?_)
      (refine gw ?_)
      rw [f1]
      (refine gw ?_; refine LoopN.mk ⟨[0,1,7,11,12,33,34,35], fun vs L => ∃ p : Nat, vs = [i64 pg, i64 size, .ref 0, i64 (a + c : Nat), i64 p, lK l, i64 (l.map eB).length, i64 k] ∧ L = [.row t_bool (tabF D fun j => .bool (or (anyK l pg j k) (decide (A ≤ j) && decide (j < p))))] ∧ A ≤ p ∧ p ≤ C + 1, fun vs L => match vs with | [_, _, _, _, .int _ i, _, _, _] => C + 1 - i.toNat | _ => 0, [], [0], rfl, ⟨A, by rw [← eu]; rfl, ?_, by omega, by omega⟩, ?_⟩)
      · refine congrArg (fun z => [Blk.row t_bool z]) (tabF_congr fun j _ => ?_)
        have : (decide (A ≤ j) && decide (j < A)) = false := by rw [Bool.and_eq_false_iff]; by_cases h : A ≤ j <;> simp [h]
        rw [this, Bool.or_false]
      rintro vs L ⟨p, rfl, rfl, hp1, hp2⟩
      have hlp := hlen fun j => .bool (or (anyK l pg j k) (decide (A ≤ j) && decide (j < p)))
      have hend : ¬ (p ≤ C ∧ p < D) → (tabF D fun j => AV.bool (or (anyK l pg j k) (decide (A ≤ j) && decide (j < p)))) = tabF D fun j => AV.bool (anyK l pg j (k + 1)) := fun hn => by
        refine tabF_congr fun j hj => ?_
        rw [hs']
        have : decide (j < p) = decide (j ≤ C) := decide_eq_decide.2 (by omega)
        rw [this]
      (refine gw ?_)
      rw [f0]
      (refine gw ?_)
      rw [f2]
      by_cases hpC : p ≤ C
      · (refine gw ?_; refine IfB.tt (by simp; omega) ?_)
        (refine gw ?_)
        rw [hlp]
        by_cases hpD : p < D
        · have hset : (tabF D fun j => AV.bool (or (anyK l pg j k) (decide (A ≤ j) && decide (j < p)))).set ((p : Nat) : Int).toNat (.bool true) = tabF D fun j => AV.bool (or (anyK l pg j k) (decide (A ≤ j) && decide (j < p + 1))) := by
            rw [Int.toNat_natCast]
            refine tabF_set hpD fun j hj => ?_
            by_cases e : j = p
            · subst e; rw [if_pos rfl, decide_eq_true hp1, decide_eq_true (show j < j + 1 by omega)]; simp
            · rw [if_neg e]
              have : decide (j < p + 1) = decide (j < p) := decide_eq_decide.2 (by omega)
              rw [this]
          (refine gw ?_; refine IfB.tt (by simp; omega) ?_)
          (refine gw ?_; refine ⟨[], [0], rfl, ⟨p + 1, rfl, by rw [← hset]; rfl, by omega, by omega⟩, (by omega : C + 1 - ((p : Int) + 1).toNat < C + 1 - (p : Int).toNat)⟩)
        · (refine gw ?_; refine IfB.ff (by simp; omega) ?_)
          (refine gw ?_; refine ⟨[], [0], rfl, ⟨k + 1, rfl, by rw [← hend (by omega)]; rfl, hkl⟩, (by omega : l.length - ((k : Int) + 1).toNat < l.length - (k : Int).toNat)⟩)
      · (refine gw ?_; refine IfB.ff (by simp; omega) ?_)
        (refine gw ?_; refine ⟨[], [0], rfl, ⟨k + 1, rfl, by rw [← hend (by omega)]; rfl, hkl⟩, (by omega : l.length - ((k : Int) + 1).toNat < l.length - (k : Int).toNat)⟩)
  · have e : k = l.length := by omega
    subst e
    have f0 : (tabF D fun j => AV.bool (anyK l pg j l.length)) = ((List.range D).map fun j => anyK l pg j l.length).map AV.bool := by rw [← tabF_of]
    rw [f0]
    (refine gw ?_; exact RetN.mk ⟨[0], rfl, rfl, rfl⟩)
theorem pinMet_told {pg size : Nat} (hp : 1 ≤ pg) (hs : size ≤ 65536) (hps : pg ≤ size) {l : List Bk} (hl : l.length ≤ 1000000) (hb : ∀ x ∈ l, 0 ≤ x.a ∧ 1 ≤ x.c ∧ x.a + x.c ≤ size) : Told P T pin_Met [] [i64 pg, i64 size, lK l] (lT (metF pg size l)) [] :=
  (pinMetR_told hp hs hps hl hb).fz
end Go.Ev.W
namespace Go.Ev.W
open Go.Ev Go.Ev.N

set_option maxRecDepth 20000 in
set_option maxHeartbeats 4000000 in
theorem plainNew_told (r : Rw) : Told P T plain_New [] [eR r] (.tup [eM (newM r).1, i64 ((newM r).2 : Nat)]) [] := by
  have c1 := confOf_told r
  have hok := ofF_ok (r := r)
  unfold newM
  generalize ofF r = R at *
  obtain ⟨c, e⟩ := R
  by_cases he : e = 0
  · subst he
    have hc : c.Ok := (hok rfl).1
    have hH := hc.h2
    have hpg := hc.pgpos
    have d1 : ((c.H : Nat) : Int).tdiv ((c.Pg : Nat) : Int) = ((c.H / c.Pg : Nat) : Int) := (Int.ofNat_tdiv c.H c.Pg).symm
    have d2 := Nat.div_le_self c.H c.Pg
    simp only [ne_eq, not_true_eq_false, if_false]
    generalize hD : c.H / c.Pg = D at *
    have c1 : Told P T conf_Of [] [eR r] (.tup [eC c, i64 ((0 : Nat) : Int)]) [] := c1
    refine told_of_ev (fn := plain_New_fn) tabOk mixed (by kernel_rfl) (by kernel_rfl) (by kernel_rfl) (by kernel_rfl) ?_
    (refine gw ?_; refine Choice.mk ⟨false, Choice.mk ⟨false, _, _, c1, ?_⟩⟩)
    (refine gw ?_)
    rw [d1]
    (refine gw ?_; refine Room.mk (by first | omega | (simp; omega) | (simp <;> fail)) ?_)
    (refine gw ?_; refine Room.mk (by first | omega | (simp; omega) | (simp <;> fail)) ?_)
    (refine gw ?_; refine RetN.fz ⟨[true, true], [], rfl, ?_, rfl⟩)
    have hr1 : lT (List.replicate D false) = .lst t_bool (List.replicate D (.bool false)) := by unfold lT; rw [List.map_replicate]
    have hr2 : lU (List.replicate c.H 0) = .lst t_uint8 (List.replicate c.H (u8 0)) := by unfold lU; rw [List.map_replicate]
    refine Eq.trans ?_ (congrArg (fun z => AV.tup [z, i64 0]) (show AV.agg [i64 c.G, i64 c.N, i64 c.M, i64 c.L, i64 c.Pg, i64 c.P, i64 c.H, i64 c.Sd, lK [], i64 0, i64 0, i64 0, .lst t_bool (List.replicate ((D : Nat) : Int).toNat (.bool false)), .lst t_uint8 (List.replicate ((c.H : Nat) : Int).toNat (u8 0))] = eM ⟨c, [], 0, 0, 0, List.replicate D false, List.replicate c.H 0⟩ by
      rw [Int.toNat_natCast, Int.toNat_natCast, ← hr1, ← hr2]; rfl))
    rfl
  · simp only [ne_eq, he, not_false_eq_true, if_true]
    refine told_of_ev (fn := plain_New_fn) tabOk mixed (by kernel_rfl) (by kernel_rfl) (by kernel_rfl) (by kernel_rfl) ?_
    have c1 : Told P T conf_Of [] [eR r] (.tup [eC c, i64 ((e : Nat) : Int)]) [] := c1
    (refine gw ?_; refine Choice.mk ⟨false, Choice.mk ⟨false, _, _, c1, ?_⟩⟩)
    (refine gw ?_; refine IfB.tt (by simpa using he) ?_)
    (refine gw ?_; exact RetN.fz ⟨[true, true], [], rfl, rfl, rfl⟩)
end Go.Ev.W
namespace Go.Ev.W
open Go.Ev Go.Ev.N

theorem findB1_told (x : Bk) (y : Int) : Told P T plain_find_1 [] [eB x, .eptr (i64 y) 0] (.bool (decide (x.a = y))) [] := by
  refine told_of_ev (fn := plain_find_1_fn) tabOk mixed (by kernel_rfl) (by kernel_rfl) (by kernel_rfl) (by kernel_rfl) ?_
  refine gw ?_
  (refine gw ?_; refine RetN.mk ⟨[], rfl, ?_, rfl⟩)
  refine congrArg AV.bool ?_
  by_cases h : x.a = y
  · simp [h]
  · simp [h]
theorem indexFuncB_told (l : List Bk) (hl : l.length ≤ 1000000) (y : Int) : Told P T slices_IndexFunc_api_Block_api_Block [] [lK l, .fn plain_find_1 [.eptr (i64 y) 0]] (i64 (match findB l y with | some i => ((i : Nat) : Int) | none => -1)) [] := by
  have hml : (l.map eB).length = l.length := by simp
  refine told_of_ev (fn := slices_IndexFunc_api_Block_api_Block_fn) tabOk mixed (by kernel_rfl) (by kernel_rfl) (by kernel_rfl) (by kernel_rfl) ?_
  (refine gw ?_; refine LoopN.mk ⟨[0,1,7,8], fun vs L => ∃ i : Nat, vs = [lK l, .fn plain_find_1 [.eptr (i64 y) 0], i64 (l.map eB).length, i64 i] ∧ L = [] ∧ i ≤ l.length ∧ ∀ j (h : j < l.length), j < i → l[j].a ≠ y, fun vs L => match vs with | [_, _, _, .int _ i] => l.length - i.toNat | _ => 0, [], [], rfl, ⟨0, rfl, rfl, by omega, fun j _ h => by omega⟩, ?_⟩)
  rintro vs L ⟨i, rfl, rfl, hi, hn⟩
  (refine gw ?_; first | refine IfB.dec (fun h1 => ?_) (fun h1 => ?_) | refine IfB.eq (fun h1 => ?_) (fun h1 => ?_) | refine IfB.ne (fun h1 => ?_) (fun h1 => ?_) | refine IfB.mk (fun h1 => ?_) (fun h1 => ?_))
  · have hlt : i < l.length := by omega
    (refine gw ?_; refine idx_map (hlt) ?_)
    (refine gw ?_; refine Choice.mk ⟨false, Choice.mk ⟨true, _, _, findB1_told l[i] y, ?_⟩⟩)
    by_cases h2 : l[i].a = y
    · rw [decide_eq_true h2, findB_some hlt hn h2]
      (refine gw ?_; exact RetN.mk ⟨[], rfl, rfl, rfl⟩)
    · rw [decide_eq_false h2]
      (refine gw ?_; refine ⟨[], [], rfl, ⟨i + 1, rfl, rfl, hlt, fun j h hj => ?_⟩, (by omega : l.length - ((i : Int) + 1).toNat < l.length - (i : Int).toNat)⟩)
      rcases Nat.lt_or_ge j i with h' | h'
      · exact hn j h h'
      · have : j = i := by omega
        subst this; exact h2
  · rw [findB_none fun j hj => hn j hj (by omega)]
    (refine gw ?_; exact RetN.mk ⟨[], rfl, rfl, rfl⟩)
theorem plainFind_told (m : Mo) (hl : m.bs.length ≤ 1000000) (y : Int) : Told P T plain_find [] [eM m, i64 y] (i64 (match findB m.bs y with | some i => ((i : Nat) : Int) | none => -1)) [] := by
  have c1 := indexFuncB_told m.bs hl y
  refine told_of_ev (fn := plain_find_fn) tabOk mixed (by kernel_rfl) (by kernel_rfl) (by kernel_rfl) (by kernel_rfl) ?_
  (refine gw ?_; refine Choice.mk ⟨false, Choice.mk ⟨true, _, _, c1, ?_⟩⟩)
  (refine gw ?_; exact RetN.mk ⟨[], rfl, rfl, rfl⟩)
/-- A place is free, if the first block that ends behind it begins behind what is asked for. -/
theorem free_scan {H : Nat} {l : List Bk} (ha : ApB H l) {y n : Int} {i : Nat} (hi : i ≤ l.length) (h1 : ∀ j (h : j < l.length), j < i → l[j].a + l[j].c ≤ y) (h2 : ∀ h : i < l.length, y < l[i].a + l[i].c) : freeAt l n y = (if h : i < l.length then decide (y + n ≤ l[i].a) else true) := by
  rw [Bool.eq_iff_iff, freeAt_iff]
  constructor
  · intro hf
    split
    · rename_i h
      have := hf _ (List.getElem_mem h)
      have := h2 h
      exact decide_eq_true (by omega)
    · rfl
  · intro hf x hx
    obtain ⟨j, hj, rfl⟩ := List.getElem_of_mem hx
    rcases Nat.lt_trichotomy j i with h | h | h
    · have := h1 j hj h; omega
    · subst h
      rw [dif_pos hj] at hf
      have := of_decide_eq_true hf
      omega
    · have hil : i < l.length := by omega
      rw [dif_pos hil] at hf
      have := of_decide_eq_true hf
      have := List.pairwise_iff_getElem.1 ha.p i j hil hj h
      have := ha.b _ (List.getElem_mem hil)
      omega
set_option maxHeartbeats 2000000 in
theorem plainLowest_told {m : Mo} (hc : m.c.Ok) (ha : ApB m.c.H m.bs) {n : Nat} (hn : 1 ≤ n) (hn2 : n ≤ 65536) : Told P T plain_lowest [] [eM m, i64 n] (.tup [i64 ((lowF m.c m.bs n).1 : Nat), .bool (lowF m.c m.bs n).2]) [] := by
  have hml : (m.bs.map eB).length = m.bs.length := by simp
  have hH := hc.h2
  have hd := Nat.div_mul_le_self m.c.H n
  have hdl := Nat.div_add_mod m.c.H n
  have hdm := Nat.mod_lt m.c.H hn
  have hlen := ha.len
  obtain ⟨R, hR⟩ : ∃ R, lowF m.c m.bs n = R := ⟨_, rfl⟩
  obtain ⟨D, hD⟩ : ∃ D, m.c.H / n = D := ⟨_, rfl⟩
  rw [hD] at hd hdl
  rw [hR]
  refine told_of_ev (fn := plain_lowest_fn) tabOk mixed (by kernel_rfl) (by kernel_rfl) (by kernel_rfl) (by kernel_rfl) ?_
  (refine gw ?_; refine IfB.ff (by simp; omega) ?_)
  (refine gw ?_; refine LoopN.mk ⟨[1,2,6,7], fun vs L => ∃ k i : Nat, vs = [i64 n, .ptr 0 0 0, i64 (k * n : Nat), i64 i] ∧ L = [.var (eM m)] ∧ k ≤ D ∧ i ≤ m.bs.length ∧ R = lowGo m.bs n (D - k) k ∧ ∀ j (h : j < m.bs.length), j < i → m.bs[j].a + m.bs[j].c ≤ (k * n : Nat), fun vs L => match vs with | [_, _, .int _ i, _] => m.c.H + n - i.toNat | _ => 0, [], [0], rfl, ⟨0, 0, by rw [Nat.zero_mul]; rfl, rfl, by omega, by omega, by rw [← hR, ← hD]; rfl, fun j _ h => by omega⟩, ?_⟩)
  rintro vs L ⟨k, i, rfl, rfl, hk, hi, he, hb⟩
  have hkn : k * n ≤ D * n := Nat.mul_le_mul_right _ hk
  have hsn : (k + 1) * n = k * n + n := by rw [Nat.succ_mul]
  have hlt : k * n + n ≤ m.c.H → k < D := fun h => by
    rcases Nat.lt_or_ge k D with h' | h'
    · exact h'
    · have : D * n ≤ k * n := Nat.mul_le_mul_right _ h'
      rw [Nat.mul_comm n D] at hdl
      omega
  have hge : k < D → k * n + n ≤ m.c.H := fun h => by
    have : (k + 1) * n ≤ D * n := Nat.mul_le_mul_right _ h
    omega
  obtain ⟨y, hy⟩ : ∃ y, k * n = y := ⟨_, rfl⟩
  rw [hy] at hkn hsn hlt hge hb ⊢
  (refine gw ?_; first | refine IfB.dec (fun h1 => ?_) (fun h1 => ?_) | refine IfB.eq (fun h1 => ?_) (fun h1 => ?_) | refine IfB.ne (fun h1 => ?_) (fun h1 => ?_) | refine IfB.mk (fun h1 => ?_) (fun h1 => ?_))
  · have hkD := hlt (by omega)
    have e1 : D - k = (D - (k + 1)) + 1 := by omega
    rw [e1, lowGo, hy] at he
    (refine gw ?_; refine LoopN.mk ⟨[1,2,6,7], fun vs L => ∃ i : Nat, vs = [i64 n, .ptr 0 0 0, i64 y, i64 i] ∧ L = [.var (eM m)] ∧ i ≤ m.bs.length ∧ ∀ j (h : j < m.bs.length), j < i → m.bs[j].a + m.bs[j].c ≤ (y : Nat), fun vs L => match vs with | [_, _, _, .int _ i] => m.bs.length - i.toNat | _ => 0, [], [0], rfl, ⟨i, rfl, rfl, hi, hb⟩, ?_⟩)
    rintro vs L ⟨i, rfl, rfl, hi, hb⟩
    by_cases g1 : i < m.bs.length
    · have hbi := ha.b _ (List.getElem_mem g1)
      (refine gw ?_; refine IfB.tt (by simp; omega) ?_)
      (refine gw ?_; refine idx_map (g1) ?_)
      (refine gw ?_; refine idx_map (g1) ?_)
      (refine gw ?_; first | refine IfB.dec (fun g2 => ?_) (fun g2 => ?_) | refine IfB.eq (fun g2 => ?_) (fun g2 => ?_) | refine IfB.ne (fun g2 => ?_) (fun g2 => ?_) | refine IfB.mk (fun g2 => ?_) (fun g2 => ?_))
      · (refine gw ?_; refine ⟨[], [0], rfl, ⟨i + 1, rfl, rfl, g1, fun j h hj => ?_⟩, (by omega : m.bs.length - ((i : Int) + 1).toNat < m.bs.length - (i : Int).toNat)⟩)
        rcases Nat.lt_or_ge j i with h' | h'
        · exact hb j h h'
        · have : j = i := by omega
          subst this; exact g2
      · have hfs := free_scan ha (y := y) (n := n) hi hb fun _ => by omega
        rw [dif_pos g1] at hfs
        (refine gw ?_; refine IfB.ff (by simp; omega) ?_)
        (refine gw ?_; refine idx_map (g1) ?_)
        (refine gw ?_; first | refine IfB.dec (fun g3 => ?_) (fun g3 => ?_) | refine IfB.eq (fun g3 => ?_) (fun g3 => ?_) | refine IfB.ne (fun g3 => ?_) (fun g3 => ?_) | refine IfB.mk (fun g3 => ?_) (fun g3 => ?_))
        · rw [decide_eq_true (by omega)] at hfs
          rw [hfs, if_pos rfl] at he
          rw [he]
          (refine gw ?_; exact RetN.mk ⟨[], rfl, rfl, rfl⟩)
        · rw [decide_eq_false (by omega)] at hfs
          rw [hfs, if_neg (by simp)] at he
          (refine gw ?_; refine ⟨[], [0], rfl, ⟨k + 1, i, by rw [hsn]; rfl, rfl, hkD, hi, he, fun j h hj => by have := hb j h hj; rw [hsn]; omega⟩, (by omega : m.c.H + n - ((y : Int) + (n : Int)).toNat < m.c.H + n - (y : Int).toNat)⟩)
    · have hfs := free_scan ha (y := y) (n := n) hi hb fun h => absurd h g1
      rw [dif_neg g1] at hfs
      rw [hfs, if_pos rfl] at he
      (refine gw ?_; refine IfB.ff (by simp; omega) ?_)
      (refine gw ?_; refine IfB.tt (by simp; omega) ?_)
      rw [he]
      (refine gw ?_; exact RetN.mk ⟨[], rfl, rfl, rfl⟩)
  · have hkD : k = D := by
      rcases Nat.lt_or_ge k D with h' | h'
      · have := hge h'; omega
      · omega
    rw [hkD, Nat.sub_self, lowGo] at he
    rw [he]
    (refine gw ?_; exact RetN.mk ⟨[], rfl, rfl, rfl⟩)
end Go.Ev.W
namespace Go.Ev.W
open Go.Ev Go.Ev.N

theorem overlaps_Block (xs es : List AV) (hx : 0 < xs.length) (i n : Nat) : Told P T slices_overlaps_api_Block [.row t_api_Block xs, .row t_api_Block es] [.ref 0, .sub 1 i n] (.bool false) [.row t_api_Block xs, .row t_api_Block es] :=
  told_overlaps (fn := slices_overlaps_api_Block_fn) (tS := ts_api_Block) (tR := t_bool) tabOk (by kernel_rfl) (by kernel_rfl) (by kernel_rfl) (by kernel_rfl) (by kernel_rfl) (by kernel_rfl) (by kernel_rfl) xs es hx i n

theorem ins_splice_Block (es : List AV) (x : AV) (i : Nat) (hi : i < es.length) :
    es.take i ++ (x :: es.drop i) = (es.take i ++ ([x] ++ es.drop i)) := by simp
set_option maxHeartbeats 4000000 in
theorem insert_Block (es : List AV) (x : AV) (i : Nat) (hi : i ≤ es.length) (hl : es.length ≤ 1000000) :
    Told P T slices_Insert_api_Block_api_Block [.row t_api_Block es, .row t_api_Block [x]] [.ref 0, .int .i64 (i : Nat), .ref 1] (.ref 2) [.dead, .row t_api_Block [x], .row t_api_Block (es.take i ++ (x :: es.drop i))] := by
  refine told_of_ev_drop (fn := slices_Insert_api_Block_api_Block_fn) tabOk mixed (by kernel_rfl) (by kernel_rfl) (by kernel_rfl) (by kernel_rfl) ?_
  refine Cut.mk (by omega) (by omega) (by omega) ?_
  refine IfB.ff rfl ?_
  refine IfB.mk (fun h1 => ?_) (fun h1 => ?_)
  · have hie : i = es.length := by have := of_decide_eq_true h1; omega
    refine Room.mk (by first | omega | (simp; omega) | (simp; done)) ?_
    refine RetN.mk ⟨[3], rfl, rfl, .inl rfl, .inl rfl, .inl ?_, trivial⟩
    subst hie
    show Blk.row t_api_Block (es.take es.length ++ (x :: es.drop es.length)) = Blk.row t_api_Block (es ++ [x])
    rw [List.take_length, List.drop_length]
  · have hlt : i < es.length := by have := of_decide_eq_false h1; omega
    refine fits (wrap64 (by first | omega | (simp; omega) | (simp; done)) (by first | omega | (simp; omega) | (simp; done))) ?_
    refine AnyN.mk (fun c hc => ?_)
    refine IfB.mk (fun h2 => ?_) (fun h2 => ?_)
    · have hcc : c < es.length + 1 := by have := of_decide_eq_true h2; simp at this; omega
      refine Choice.mk ⟨false, ?_⟩
      refine Cut.mk (Int.le_refl _) (by omega) (by omega) ?_
      refine fits (wrap64 (by first | omega | (simp; omega) | (simp; done)) (by first | omega | (simp; omega) | (simp; done))) ?_
      refine fits (wrap64 (by first | omega | (simp; omega) | (simp; done)) (by first | omega | (simp; omega) | (simp; done))) ?_
      refine Need.mk (by first | omega | (simp; omega) | (simp; done)) ?_
      refine Need.mk (by first | omega | (simp; omega) | (simp; done)) ?_
      refine Room.mk (by first | omega | (simp; omega) | (simp; done)) ?_
      refine Cut.mk (by omega) (by first | omega | (simp; omega) | (simp; done)) (by first | omega | (simp; omega) | (simp; done)) ?_
      refine fits (wrap64 (by first | omega | (simp; omega) | (simp; done)) (by first | omega | (simp; omega) | (simp; done))) ?_
      refine Cut.mk (by first | omega | (simp; omega) | (simp; done)) (by first | omega | (simp; omega) | (simp; done)) (by first | omega | (simp; omega) | (simp; done)) ?_
      refine Cut.mk (by omega) (by omega) (by omega) ?_
      refine Sure.mk (by kernel_rfl) ?_
      refine RetN.mk ⟨[3], rfl, rfl, .inr rfl, .inl rfl, .inl ?_, trivial⟩
      show Blk.row t_api_Block (es.take i ++ (x :: es.drop i)) = Blk.row t_api_Block _
      refine congrArg _ ?_
      have e1 : ((es.length : Int) + (([x] : List AV).length : Int) - (i : Int)).toNat = es.length + 1 - i := by first | (simp; done) | (simp; omega)
      have e2 : ((i : Int) + (([x] : List AV).length : Int)).toNat = i + 1 := by first | (simp; done) | (simp; omega)
      have e3 : min 1 (es.length + 1 - i) = 1 := by omega
      simp only [e1, e2, Int.toNat_natCast]
      have e4 : i + (1 + (es.length + 1 - i - 1)) - (i + 1) = es.length - i := by omega
      have e5 : i + 1 + (es.length - i) - i - 1 = es.length - i := by omega
      have e6 : es.length + 1 - i - 1 - (es.length - i) = 0 := by omega
      have e7 : (es.take i).length = i := by rw [List.length_take]; omega
      have d1 : ∀ k, i ≤ k → (es.take i).drop k = [] := fun k hk => List.drop_eq_nil_of_le (by omega)
      have d2 : ∀ k, 1 ≤ k → ([x] : List AV).drop k = [] := fun k hk => List.drop_eq_nil_of_le (by simpa using hk)
      have d3 : ([x] : List AV).take 1 = [x] := rfl
      have d4 : (es.drop i).take (es.length - i) = es.drop i := List.take_of_length_le (by simp)
      have e8 : i + 1 + (es.length - i) - i = 1 + (es.length - i) := by omega
      simp [List.take_append, List.drop_append, List.take_of_length_le, Nat.min_eq_left (Nat.le_of_lt hlt), e3, e4, e8, d3, d4, d2, d1, e6]
      have e9 : i + (es.length + 1 - i - 1 + 1) - (i + 1) = es.length - i := by omega
      have d5 : ∀ z : AV, (x :: List.replicate (es.length + 1 - i - 1) z).drop (i + 1 + (es.length - i) - i) = [] := fun z => List.drop_eq_nil_of_le (by rw [List.length_cons, List.length_replicate]; omega)
      rw [e9, Nat.min_self, d4, d1 _ (by omega), d5]
      simp
    · have hcc : es.length + 1 ≤ c := by have := of_decide_eq_false h2; simp at this; omega
      refine fits (wrap64 (by first | omega | (simp; omega) | (simp; done)) (by first | omega | (simp; omega) | (simp; done))) ?_
      refine Choice.mk ⟨true, ?_⟩
      refine Cut.mk (by omega) (by first | omega | (simp; omega) | (simp; done)) (by first | omega | (simp; omega) | (simp; done)) ?_
      refine fits (wrap64 (by first | omega | (simp; omega) | (simp; done)) (by first | omega | (simp; omega) | (simp; done))) ?_
      refine Cut.mk (by first | omega | (simp; omega) | (simp; done)) (by first | omega | (simp; omega) | (simp; done)) (by first | omega | (simp; omega) | (simp; done)) ?_
      refine Choice.mk ⟨true, Choice.mk ⟨false, _, _, overlaps_Block [x] _ (by simp) _ _, ?_⟩⟩
      refine IfB.tt rfl ?_
      refine fits (wrap64 (by first | omega | (simp; omega) | (simp; done)) (by first | omega | (simp; omega) | (simp; done))) ?_
      refine Cut.mk (by first | omega | (simp; omega) | (simp; done)) (by first | omega | (simp; omega) | (simp; done)) (by first | omega | (simp; omega) | (simp; done)) ?_
      refine Cut.mk (by simp) (by first | omega | (simp; omega) | (simp; done)) (by first | omega | (simp; omega) | (simp; done)) ?_
      refine Sure.mk (by kernel_rfl) ?_
      refine Cut.mk (by simp) (by first | omega | (simp; omega) | (simp; done)) (by first | omega | (simp; omega) | (simp; done)) ?_
      refine RetN.mk ⟨[3], rfl, rfl, .inl rfl, .inl rfl, .inl ?_, trivial⟩
      show Blk.row t_api_Block (es.take i ++ (x :: es.drop i)) = Blk.row t_api_Block _
      refine congrArg _ ?_
      have n1 : ((es.length : Int) + (([x] : List AV).length : Int)).toNat - es.length = 1 := by first | (simp; done) | (simp; omega)
      have n2 : ((i : Int) + (([x] : List AV).length : Int)).toNat = i + 1 := by first | (simp; done) | (simp; omega)
      have r := ins_room es x (junkE T t_api_Block) i hlt
      have m1 : min ([x] : List AV).length (es.length + 1 - i) = 1 := by first | (simp; done) | (simp; omega)
      simp only [n1, n2, Int.toNat_natCast, List.replicate_one]
      rw [r.2.2, m1, r.1, r.2.1]
      rfl

set_option maxHeartbeats 4000000 in
theorem delete_Block (es : List AV) (i : Nat) (hi : i < es.length) (hl : es.length ≤ 1000000) :
    Told P T slices_Delete_api_Block_api_Block [.row t_api_Block es] [.ref 0, .int .i64 (i : Nat), .int .i64 ((i : Nat) + 1)] (.sub 0 0 (es.length - 1)) [.row t_api_Block (es.take i ++ (es.drop (i + 1) ++ [zeroE T t_api_Block]))] := by
  refine told_of_ev (fn := slices_Delete_api_Block_api_Block_fn) tabOk mixed (by kernel_rfl) (by kernel_rfl) (by kernel_rfl) (by kernel_rfl) ?_
  refine Cut.mk (by omega) (by omega) (by omega) ?_
  refine Need.mk (by omega) ?_
  refine IfB.ff (by simp; omega) ?_
  refine Cut.mk (by omega) (by omega) (by omega) ?_
  refine Cut.mk (by omega) (by omega) (by omega) ?_
  refine Need.mk (by simp; omega) ?_
  refine Sure.mk (by kernel_rfl) ?_
  refine Cut.mk (by omega) (by simp; omega) (by simp; omega) ?_
  have f0 : Int.toNat 0 = 0 := rfl
  have f1 : (((i : Nat) : Int) + 1).toNat = i + 1 := by omega
  have f2 : (es.drop (i + 1)).take (es.length - (i + 1)) = es.drop (i + 1) := List.take_of_length_le (by simp)
  have f3 : (es.drop (i + 1)).length = es.length - (i + 1) := by simp
  have f4 : i + (es.length - (i + 1)) = es.length - 1 := by omega
  have f5 : es.length - (es.length - 1) = 1 := by omega
  have f6 : es.length - 1 + 1 = es.length := by omega
  refine RetN.mk ⟨[], rfl, ?_, ?_⟩
  · show AV.sub 0 0 _ = AV.sub 0 0 _
    congr 1
    simp only [Int.toNat_natCast, f1, f2, f3, f0, Nat.sub_zero]
    omega
  · show [Blk.row t_api_Block _] = [Blk.row t_api_Block _]
    congr 2
    simp only [Int.toNat_natCast, f1, f2, f3, f0, Nat.sub_zero, Nat.zero_add, f4, f5, f6]
    have g1 : (es.take i ++ es.drop (i + 1)).length = es.length - 1 := by rw [List.length_append, List.length_take, f3]; omega
    have R : es.take i ++ (es.drop (i + 1) ++ es.drop (es.length - 1)) = (es.take i ++ es.drop (i + 1)) ++ es.drop (es.length - 1) := by simp
    have g3 : ((es.take i ++ es.drop (i + 1)) ++ es.drop (es.length - 1)).drop es.length = [] := List.drop_eq_nil_of_le (by rw [List.length_append, g1, List.length_drop]; omega)
    rw [R, List.take_append_of_le_length (by omega), List.take_of_length_le (by omega), g3, List.append_nil, List.append_assoc]
    rfl

end Go.Ev.W
namespace Go.Ev.W
open Go.Ev Go.Ev.N

/-- All that there is, its rows in blocks. -/
def eMr (c : Cf) (x : AV) (live peak mark : Int) (y z : AV) : AV := .agg [i64 c.G, i64 c.N, i64 c.M, i64 c.L, i64 c.Pg, i64 c.P, i64 c.H, i64 c.Sd, x, i64 live, i64 peak, i64 mark, y, z]
theorem zero_blk : zeroE T t_api_Block = eB ⟨0, 0, 0⟩ := rfl
theorem deleteB_told (l : List Bk) (i : Nat) (hi : i < l.length) (hl : l.length ≤ 1000000) :
    Told P T slices_Delete_api_Block_api_Block [.row t_api_Block (l.map eB)] [.ref 0, i64 (i : Nat), i64 ((i : Nat) + 1)] (.ref 1) [.dead, .row t_api_Block ((dropB l i).map eB)] := by
  have t := delete_Block (l.map eB) i (by simpa using hi) (by simpa using hl)
  have t := t.trim 0 (l.length - 1) rfl (by simp; omega) (by simp; omega) (fun _ => ⟨rfl, by simp⟩)
  have e : List.take (l.length - 1) ((l.map eB).take i ++ ((l.map eB).drop (i + 1) ++ [zeroE T t_api_Block])) = (dropB l i).map eB := by
    unfold dropB
    rw [List.map_append, List.map_take, List.map_drop, ← List.append_assoc, List.take_left']
    simp; omega
  rw [e] at t
  exact t
set_option maxHeartbeats 2000000 in
theorem goes_told {c : Cf} {bs : List Bk} {live peak mark : Int} {on mem : List AV} (hl : bs.length ≤ 1000000) (hlv : 0 ≤ live ∧ live ≤ 1000000) (hb : ∀ x ∈ bs, 0 ≤ x.c ∧ x.c ≤ 1000000) {i : Nat} (hi : i < bs.length) :
    Told P T plain_goes [.row t_api_Block (bs.map eB), .row t_bool on, .row t_uint8 mem] [eMr c (.ref 0) live peak mark (.ref 1) (.ref 2), i64 i]
      (eMr c (.ref 3) (live - bs[i].c) peak mark (.ref 1) (.ref 2)) [.dead, .row t_bool on, .row t_uint8 mem, .row t_api_Block ((dropB bs i).map eB)] := by
  have hml : (bs.map eB).length = bs.length := by simp
  have c1 := deleteB_told bs i hi hl
  have hbi := hb _ (List.getElem_mem hi)
  refine told_of_ev (fn := plain_goes_fn) tabOk mixed (by kernel_rfl) (by kernel_rfl) (by kernel_rfl) (by kernel_rfl) ?_
  (refine gw ?_)
  refine at_map (k := i) hi ?_
  (refine gw ?_; refine Choice.mk ⟨true, Choice.mk ⟨false, _, _, c1, ?_⟩⟩)
  (refine gw ?_)
  exact RetN.mk ⟨[8], rfl, rfl, rfl⟩
set_option maxHeartbeats 2000000 in
theorem twin_told {c : Cf} {live peak mark : Int} {bs on mem : List AV} (h1 : bs.length ≤ 1000000) (h2 : on.length ≤ 1000000) (h3 : mem.length ≤ 1000000) :
    Told P T plain_twin [] [eMr c (.lst t_api_Block bs) live peak mark (.lst t_bool on) (.lst t_uint8 mem)] (eMr c (.ref 0) live peak mark (.ref 1) (.ref 2)) [.row t_api_Block bs, .row t_bool on, .row t_uint8 mem] := by
  have c1 := clone_Block bs h1
  have c2 := clone_bool on h2
  have c3 := clone_byte mem h3
  refine told_of_ev (fn := plain_twin_fn) tabOk mixed (by kernel_rfl) (by kernel_rfl) (by kernel_rfl) (by kernel_rfl) ?_
  (refine gw ?_; refine Choice.mk ⟨false, Choice.mk ⟨false, _, _, c1, ?_⟩⟩)
  (refine gw ?_; refine Choice.mk ⟨false, Choice.mk ⟨false, _, _, c2, ?_⟩⟩)
  (refine gw ?_; refine Choice.mk ⟨false, Choice.mk ⟨false, _, _, c3, ?_⟩⟩)
  (refine gw ?_)
  exact RetN.mk ⟨[5,6,7], rfl, rfl, rfl⟩
end Go.Ev.W
namespace Go.Ev.W
open Go.Ev Go.Ev.N

/-- Where a block is put: behind those that begin below. -/
theorem lowB_free {H : Nat} {l : List Bk} (ha : ApB H l) {y : Int} {n : Int} (hn : 1 ≤ n) (hf : freeAt l n y = true) : ∀ k (h : k < l.length), l[k].a < y ↔ k < lowB y l := by
  intro k h
  have hb := ha.b _ (List.getElem_mem h)
  have hx := (freeAt_iff.1 hf) _ (List.getElem_mem h)
  constructor
  · intro h1
    rcases Nat.lt_or_ge k (lowB y l) with h2 | h2
    · exact h2
    · exfalso
      have h3 := lowB_ge (y := y) (l := l) (by omega)
      rcases Nat.lt_or_ge (lowB y l) k with h4 | h4
      · have := List.pairwise_iff_getElem.1 ha.p (lowB y l) k (by omega) h h4
        have := ha.b _ (List.getElem_mem (show lowB y l < l.length by omega))
        omega
      · have e : lowB y l = k := by omega
        simp only [e] at h3
        omega
  · intro h1
    have h2 := lowB_lt (y := y) h h1
    omega
structure PutIn (m : Mo) (n : Nat) (q : Int) : Prop where
  c : m.c.Ok
  a : ApB m.c.H m.bs
  l : m.live = totalB m.bs
  p : 0 ≤ m.peak ∧ m.peak ≤ m.c.H
  k : 0 ≤ m.mark ∧ m.mark ≤ m.c.H
  o : m.on.length = m.c.H / m.c.Pg
  mm : m.mem.length = m.c.H
  n1 : 1 ≤ n
  n2 : n ≤ m.c.N
theorem MoOk.putIn {m : Mo} (h : MoOk m) {n : Nat} {q : Int} (h1 : 1 ≤ n) (h2 : n ≤ m.c.N) : PutIn m n q := by
  have hc := h.c
  have hMH : m.c.M ≤ m.c.H := by have := hc.h; omega
  have ht := totalB_nonneg h.a
  have hl := h.l
  have hp := h.p
  have hk := h.k
  exact ⟨hc, h.a, hl, by omega, by omega, h.o, h.mm, h1, h2⟩
abbrev rK (l : List Bk) : Blk := .row t_api_Block (l.map eB)
abbrev rT (l : List Bool) : Blk := .row t_bool (l.map .bool)
abbrev rU (l : List Nat) : Blk := .row t_uint8 (l.map u8)
set_option maxHeartbeats 8000000 in
theorem putsNo_told {m : Mo} {n : Nat} {q : Int} (hi : PutIn m n q) (h : (placeF m m.bs n q).2.2 ≠ 0) : Told P T plain_puts [rK m.bs, rT m.on, rU m.mem] [eMr m.c (.ref 0) m.live m.peak m.mark (.ref 1) (.ref 2), i64 n, i64 q] (.tup [eM m, i64 0, i64 (placeF m m.bs n q).2.2]) [.fz t_api_Block (m.bs.map eB), .fz t_bool (m.on.map .bool), .fz t_uint8 (m.mem.map u8)] := by
  have hc := hi.c
  have ha := hi.a
  have hn := hi.n1
  have hN := hi.n2
  have hH := hc.h2
  have hNM := hc.nM
  have hMH : m.c.M ≤ m.c.H := by have := hc.h; omega
  have hlen := ha.len
  have hpg := hc.pgpos
  have c1 := plainLowest_told hc ha hn (by omega)
  have hsp := lowF_spec (c := m.c) (l := m.bs) hn
  unfold placeF at h ⊢
  simp only at h ⊢
  generalize lowF m.c m.bs n = R at *
  obtain ⟨y, ok⟩ := R
  refine told_of_ev (fn := plain_puts_fn) tabOk mixed (by kernel_rfl) (by kernel_rfl) (by kernel_rfl) (by kernel_rfl) ?_
  (refine gw ?_; refine Choice.mk ⟨false, Choice.mk ⟨true, _, _, c1, ?_⟩⟩)
  cases ok with
  | false =>
    rw [if_pos rfl]
    (refine gw ?_; exact RetN.fz ⟨[true, true, true], [], rfl, rfl, rfl⟩)
  | true =>
    obtain ⟨j, h1, h2, h3, h4⟩ := hsp rfl
    simp only at h1 h2 h3 h4 h ⊢
    rw [← h1] at h2
    rw [if_neg (by simp)] at h ⊢
    have hpa := hc.pages hn h2
    have hml : (metF m.c.Pg m.c.H m.bs).length = m.on.length := by rw [hi.o]; simp [metF]
    have hol : m.on.length ≤ 65536 := by have := hi.o; have := Nat.div_le_self m.c.H m.c.Pg; omega
    have c2 := pinPages_told (pg := m.c.Pg) (y := y) (n := n) hpg hn (by omega)
    have hpH : m.c.Pg ≤ m.c.H := by
      obtain ⟨k, hk⟩ := hc.pgH
      have : 1 ≤ k := by
        rcases Nat.eq_zero_or_pos k with h | h
        · subst h; omega
        · exact h
      rw [hk]; exact Nat.le_mul_of_pos_right _ this
    have c3 := pinMetR_told (pg := m.c.Pg) (size := m.c.H) hpg hH hpH (l := m.bs) (by omega) ha.b
    have c4 := commit_told (on := m.on) hml hol (f := y / m.c.Pg) (b := (y + n - 1) / m.c.Pg + 1) (most := m.c.P) hpa.1 (by rw [hi.o]; exact hpa.2) hc.b
    generalize commitF m.on (metF m.c.Pg m.c.H m.bs) (y / m.c.Pg) ((y + n - 1) / m.c.Pg + 1) m.c.P = C at *
    obtain ⟨on', fr, ok'⟩ := C
    (refine gw ?_; refine Choice.mk ⟨false, Choice.mk ⟨true, _, _, c2, ?_⟩⟩)
    (refine gw ?_; refine Choice.mk ⟨false, Choice.mk ⟨true, _, _, c3, ?_⟩⟩)
    (refine gw ?_)
    refine Need.mk ?_ ?_
    · intro x hx
      obtain ⟨v, _, rfl⟩ := List.mem_map.1 hx
      rfl
    (refine gw ?_; refine Choice.mk ⟨false, Choice.mk ⟨false, _, _, c4, ?_⟩⟩)
    cases ok' with
    | false =>
      rw [if_pos rfl]
      (refine gw ?_; exact RetN.fz ⟨[true, true, true], [], rfl, rfl, rfl⟩)
    | true =>
      rw [if_neg (by simp)] at h
      exact absurd rfl h
end Go.Ev.W
namespace Go.Ev.W
open Go.Ev Go.Ev.N

/-- The answer's variable, before it is written: of no matter. -/
def moU : AV := .agg [i64 0, i64 0, i64 0, i64 0, i64 0, i64 0, i64 0, i64 0, .und, i64 0, i64 0, i64 0, .und, .und]
/-- What puts leaves behind. -/
def PutsTo (m : Mo) (n : Nat) (q : Int) (z : Mo) (y : Int) : Prop :=
  Told P T plain_puts [rK m.bs, rT m.on, rU m.mem] [eMr m.c (.ref 0) m.live m.peak m.mark (.ref 1) (.ref 2), i64 n, i64 q] (.tup [eMr z.c (.ref 3) z.live z.peak z.mark (lT z.on) (.ref 2), i64 y, i64 0]) [.dead, .dead, rU z.mem, rK z.bs] ∨
  Told P T plain_puts [rK m.bs, rT m.on, rU m.mem] [eMr m.c (.ref 0) m.live m.peak m.mark (.ref 1) (.ref 2), i64 n, i64 q] (.tup [eMr z.c (.ref 3) z.live z.peak z.mark (lT z.on) (.ref 4), i64 y, i64 0]) [.dead, .dead, .dead, rK z.bs, rU z.mem]
set_option maxHeartbeats 16000000 in
theorem puts_told {m : Mo} {n : Nat} {q : Int} (hi : PutIn m n q) (h : (placeF m m.bs n q).2.2 = 0) : PutsTo m n q (placeF m m.bs n q).1 (placeF m m.bs n q).2.1 := by
  have hc := hi.c
  have ha := hi.a
  have hn := hi.n1
  have hN := hi.n2
  have hH := hc.h2
  have hNM := hc.nM
  have hMH : m.c.M ≤ m.c.H := by have := hc.h; omega
  have hlen := ha.len
  have hpg := hc.pgpos
  have c1 := plainLowest_told hc ha hn (by omega)
  have hsp := lowF_spec (c := m.c) (l := m.bs) hn
  unfold placeF at h ⊢
  simp only at h ⊢
  generalize lowF m.c m.bs n = R at *
  obtain ⟨y, ok⟩ := R
  cases ok with
  | false => simp at h
  | true =>
    obtain ⟨j, h1, h2, h3, h4⟩ := hsp rfl
    simp only at h1 h2 h3 h4 h ⊢
    rw [← h1] at h2
    rw [if_neg (by simp)] at h ⊢
    have hpa := hc.pages hn h2
    have hml : (metF m.c.Pg m.c.H m.bs).length = m.on.length := by rw [hi.o]; simp [metF]
    have hol : m.on.length ≤ 65536 := by have := hi.o; have := Nat.div_le_self m.c.H m.c.Pg; omega
    have c2 := pinPages_told (pg := m.c.Pg) (y := y) (n := n) hpg hn (by omega)
    have hpH : m.c.Pg ≤ m.c.H := by
      obtain ⟨k, hk⟩ := hc.pgH
      have : 1 ≤ k := by
        rcases Nat.eq_zero_or_pos k with h | h
        · subst h; omega
        · exact h
      rw [hk]; exact Nat.le_mul_of_pos_right _ this
    have c3 := pinMetR_told (pg := m.c.Pg) (size := m.c.H) hpg hH hpH (l := m.bs) (by omega) ha.b
    have c4 := commit_told (on := m.on) hml hol (f := y / m.c.Pg) (b := (y + n - 1) / m.c.Pg + 1) (most := m.c.P) hpa.1 (by rw [hi.o]; exact hpa.2) hc.b
    have hfr := commitF_eq m.on (metF m.c.Pg m.c.H m.bs) (y / m.c.Pg) ((y + n - 1) / m.c.Pg + 1) m.c.P
    generalize commitF m.on (metF m.c.Pg m.c.H m.bs) (y / m.c.Pg) ((y + n - 1) / m.c.Pg + 1) m.c.P = C at *
    obtain ⟨on', fr, ok'⟩ := C
    cases ok' with
    | false => simp at h
    | true =>
      rw [if_neg (by simp)]
      have hlb := lowB_free ha (y := y) (n := n) (by omega) h3
      have hput := putB_ok ha (b := ⟨y, n, q⟩) h3 (by simp; omega)
      have hfl : fr.length ≤ 65536 ∧ ∀ p ∈ fr, (p + 1) * m.c.Pg ≤ m.c.H := by
        split at hfr
        · simp at hfr
        · have e : fr = _ := congrArg (fun z : List Bool × List Nat × Bool => z.2.1) hfr
          simp only at e
          subst e
          refine ⟨Nat.le_trans (freshL_len _ _ _ _) hol, fun p hp => ?_⟩
          have hp := (List.mem_filter.1 hp).1
          have hp : p < m.on.length := by simpa using hp
          rw [hi.o] at hp
          exact (Nat.le_div_iff_mul_le (by omega)).1 hp
      have hfm : (fr.map fun n => i64 (n : Nat)).length = fr.length := by simp
      have hlbl := lowB_le (y : Int) m.bs
      have hmm := hi.mm
      have hbm : (m.bs.map eB).length = m.bs.length := by simp
      have c5 := insert_Block (m.bs.map eB) (eB ⟨y, n, q⟩) (lowB y m.bs) (by omega) (by omega)
      have e5 : (m.bs.map eB).take (lowB y m.bs) ++ (eB ⟨y, n, q⟩ :: (m.bs.map eB).drop (lowB y m.bs)) = (putB m.bs ⟨y, n, q⟩).map eB := by
        unfold putB; rw [List.map_append, List.map_take, List.map_cons, List.map_drop]
      rw [e5] at c5
      have htot := hput.2.2.1
      have htt := hput.1.tot
      have ht0 := totalB_nonneg ha
      have hlv := hi.l
      have hpk := hi.p
      have hmk := hi.k
      have emax : ∀ a b : Int, max a b = if b > a then b else a := fun a b => by split <;> omega
      have htot' : totalB (putB m.bs ⟨y, n, q⟩) = m.live + n := by rw [htot, hlv]
      have htt' : m.live + n ≤ m.c.H := by rw [← htot']; exact htt
      unfold PutsTo
      simp only [htot', emax]
      by_cases hfz : fr.length = 0
      · obtain rfl := List.eq_nil_of_length_eq_zero hfz
        left
        refine told_of_ev_drop (fn := plain_puts_fn) tabOk mixed (by kernel_rfl) (by kernel_rfl) (by kernel_rfl) (by kernel_rfl) ?_
        (refine gw ?_; refine Choice.mk ⟨false, Choice.mk ⟨true, _, _, c1, ?_⟩⟩)
        (refine gw ?_; refine Choice.mk ⟨false, Choice.mk ⟨true, _, _, c2, ?_⟩⟩)
        (refine gw ?_; refine Choice.mk ⟨false, Choice.mk ⟨true, _, _, c3, ?_⟩⟩)
        (refine gw ?_)
        refine Need.mk ?_ ?_
        · intro x hx
          obtain ⟨v, _, rfl⟩ := List.mem_map.1 hx
          rfl
        (refine gw ?_; refine Choice.mk ⟨false, Choice.mk ⟨false, _, _, c4, ?_⟩⟩)
        (refine gw ?_; refine LoopN.mk ⟨[1,2,3,6,9,13,60,61,62], fun vs L => vs = [i64 n, i64 q, .ptr 3 0 0, .ptr 4 0 0, i64 y, lT on', .lst t_int [], i64 0, i64 0] ∧ L = [rK m.bs, .fz t_bool (m.on.map .bool), rU m.mem, .var (eMr m.c (.ref 0) m.live m.peak m.mark (.ref 1) (.ref 2)), .var moU], fun vs L => match vs with | [_, _, _, _, _, _, _, _, .int _ i] => 0 - i.toNat | _ => 0, [], [3,4], rfl, ⟨rfl, rfl⟩, ?_⟩)
        rintro vs L ⟨rfl, rfl⟩
        (refine gw ?_)
        (refine gw ?_; refine LoopN.mk ⟨[1,2,3,6,9,17], fun vs L => ∃ k : Nat, vs = [i64 n, i64 q, .ptr 3 0 0, .ptr 4 0 0, i64 y, i64 k] ∧ L = [rK m.bs, .fz t_bool (m.on.map .bool), rU m.mem, .var (eMr m.c (.ref 0) m.live m.peak m.mark (lT on') (.ref 2)), .var moU] ∧ k ≤ lowB y m.bs, fun vs L => match vs with | [_, _, _, _, _, .int _ i] => lowB y m.bs - i.toNat | _ => 0, [], [3,4], rfl, ⟨0, rfl, rfl, by omega⟩, ?_⟩)
        rintro vs L ⟨k, rfl, rfl, hk⟩
        have hfin : ¬ (k < lowB y m.bs) → k = lowB y m.bs := fun h => by omega
        by_cases g1 : k < m.bs.length
        · have hkk := hlb k g1
          (refine gw ?_; refine IfB.tt (by simp; omega) ?_)
          (refine gw ?_)
          refine at_map (k := k) g1 ?_
          (refine gw ?_; first | refine IfB.dec (fun g2 => ?_) (fun g2 => ?_) | refine IfB.eq (fun g2 => ?_) (fun g2 => ?_) | refine IfB.ne (fun g2 => ?_) (fun g2 => ?_) | refine IfB.mk (fun g2 => ?_) (fun g2 => ?_))
          · (refine gw ?_; refine ⟨[], [3,4], rfl, ⟨k + 1, rfl, rfl, by omega⟩, (by omega : lowB y m.bs - ((k : Int) + 1).toNat < lowB y m.bs - (k : Int).toNat)⟩)
          · obtain rfl := hfin (by omega)
            (refine gw ?_; refine Choice.mk ⟨true, Choice.mk ⟨false, _, _, c5, ?_⟩⟩)
            (refine gw ?_)
            exact RetN.mk ⟨[6], rfl, rfl, .inr rfl, .inr rfl, .inl rfl, .inl rfl, trivial⟩
        · obtain rfl := hfin (by omega)
          (refine gw ?_; refine IfB.ff (by simp; omega) ?_)
          (refine gw ?_; refine Choice.mk ⟨true, Choice.mk ⟨false, _, _, c5, ?_⟩⟩)
          (refine gw ?_)
          exact RetN.mk ⟨[6], rfl, rfl, .inr rfl, .inr rfl, .inl rfl, .inl rfl, trivial⟩
      · right
        have hfk := fun k => fills_len m.c.Sd m.c.Pg (fr.take k) m.mem
        refine told_of_ev_drop (fn := plain_puts_fn) tabOk mixed (by kernel_rfl) (by kernel_rfl) (by kernel_rfl) (by kernel_rfl) ?_
        (refine gw ?_; refine Choice.mk ⟨false, Choice.mk ⟨true, _, _, c1, ?_⟩⟩)
        (refine gw ?_; refine Choice.mk ⟨false, Choice.mk ⟨true, _, _, c2, ?_⟩⟩)
        (refine gw ?_; refine Choice.mk ⟨false, Choice.mk ⟨true, _, _, c3, ?_⟩⟩)
        (refine gw ?_)
        refine Need.mk ?_ ?_
        · intro x hx
          obtain ⟨v, _, rfl⟩ := List.mem_map.1 hx
          rfl
        (refine gw ?_; refine Choice.mk ⟨false, Choice.mk ⟨false, _, _, c4, ?_⟩⟩)
        (refine gw ?_; refine LoopN.mk ⟨[1,2,3,6,9,13,60,61,62], fun vs L => ∃ k : Nat, vs = [i64 n, i64 q, .ptr 3 0 0, .ptr 4 0 0, i64 y, lT on', .lst t_int (fr.map fun n => i64 (n : Nat)), i64 fr.length, i64 k] ∧ k ≤ fr.length ∧ ((k = 0 ∧ L = [rK m.bs, .fz t_bool (m.on.map .bool), rU m.mem, .var (eMr m.c (.ref 0) m.live m.peak m.mark (.ref 1) (.ref 2)), .var moU]) ∨ (0 < k ∧ L = [rK m.bs, .fz t_bool (m.on.map .bool), .fz t_uint8 (m.mem.map u8), .var (eMr m.c (.ref 0) m.live m.peak m.mark (.ref 1) (.ref 5)), .var moU, rU ((fr.take k).foldl (fun mem p => fillF mem m.c.Sd p m.c.Pg) m.mem)])), fun vs L => match vs with | [_, _, _, _, _, _, _, _, .int _ i] => fr.length - i.toNat | _ => 0, [], [3,4], rfl, ⟨0, by rw [← hfm]; rfl, by omega, .inl ⟨rfl, rfl⟩⟩, ?_⟩)
        rintro vs L ⟨k, rfl, hk, hL⟩
        by_cases hkf : k < fr.length
        · have hsu := fills_succ m.c.Sd m.c.Pg m.mem hkf
          have c6 := junkFillR_told (mem := (fr.take k).foldl (fun mem p => fillF mem m.c.Sd p m.c.Pg) m.mem) (by rw [hfk]; omega) (seed := m.c.Sd) (page := fr[k]) (size := m.c.Pg) hpg (by rw [hfk, hmm]; exact hfl.2 _ (List.getElem_mem hkf))
          rw [← hsu] at c6
          rcases hL with ⟨rfl, rfl⟩ | ⟨hk0, rfl⟩
          · have c6 : Told P T junk_Fill [] [lU m.mem, i64 m.c.Sd, i64 fr[0], i64 m.c.Pg] _ _ := c6
            (refine gw ?_; refine IfB.tt (by simp; omega) ?_)
            (refine gw ?_; refine idx_map (hkf) ?_)
            (refine gw ?_; refine Choice.mk ⟨false, Choice.mk ⟨false, _, _, c6, ?_⟩⟩)
            (refine gw ?_; refine ⟨[], [3,4,5], rfl, ⟨1, rfl, by omega, .inr ⟨by omega, rfl⟩⟩, (by omega : fr.length - ((0 : Int) + 1).toNat < fr.length - (0 : Int).toNat)⟩)
          · (refine gw ?_; refine IfB.tt (by simp; omega) ?_)
            (refine gw ?_; refine idx_map (hkf) ?_)
            (refine gw ?_; refine Choice.mk ⟨false, Choice.mk ⟨false, _, _, c6, ?_⟩⟩)
            (refine gw ?_; refine ⟨[], [3,4,6], rfl, ⟨k + 1, rfl, by omega, .inr ⟨by omega, rfl⟩⟩, (by omega : fr.length - ((k : Int) + 1).toNat < fr.length - (k : Int).toNat)⟩)
        · have e : k = fr.length := by omega
          subst e
          rcases hL with ⟨h, _⟩ | ⟨hk0, rfl⟩
          · omega
          · rw [List.take_length]
            (refine gw ?_; refine LoopN.mk ⟨[1,2,3,6,9,17], fun vs L => ∃ k : Nat, vs = [i64 n, i64 q, .ptr 3 0 0, .ptr 4 0 0, i64 y, i64 k] ∧ L = [rK m.bs, .fz t_bool (m.on.map .bool), .fz t_uint8 (m.mem.map u8), .var (eMr m.c (.ref 0) m.live m.peak m.mark (lT on') (.ref 5)), .var moU, rU (fr.foldl (fun mem p => fillF mem m.c.Sd p m.c.Pg) m.mem)] ∧ k ≤ lowB y m.bs, fun vs L => match vs with | [_, _, _, _, _, .int _ i] => lowB y m.bs - i.toNat | _ => 0, [], [3,4,5], rfl, ⟨0, rfl, rfl, by omega⟩, ?_⟩)
            rintro vs L ⟨k, rfl, rfl, hk⟩
            have hfin : ¬ (k < lowB y m.bs) → k = lowB y m.bs := fun h => by omega
            by_cases g1 : k < m.bs.length
            · have hkk := hlb k g1
              (refine gw ?_; refine IfB.tt (by simp; omega) ?_)
              (refine gw ?_)
              refine at_map (k := k) g1 ?_
              (refine gw ?_; first | refine IfB.dec (fun g2 => ?_) (fun g2 => ?_) | refine IfB.eq (fun g2 => ?_) (fun g2 => ?_) | refine IfB.ne (fun g2 => ?_) (fun g2 => ?_) | refine IfB.mk (fun g2 => ?_) (fun g2 => ?_))
              · (refine gw ?_; refine ⟨[], [3,4,5], rfl, ⟨k + 1, rfl, rfl, by omega⟩, (by omega : lowB y m.bs - ((k : Int) + 1).toNat < lowB y m.bs - (k : Int).toNat)⟩)
              · obtain rfl := hfin (by omega)
                (refine gw ?_; refine Choice.mk ⟨true, Choice.mk ⟨false, _, _, c5, ?_⟩⟩)
                (refine gw ?_)
                exact RetN.mk ⟨[7, 5], rfl, rfl, .inr rfl, .inr rfl, .inr rfl, .inl rfl, .inl rfl, trivial⟩
            · obtain rfl := hfin (by omega)
              (refine gw ?_; refine IfB.ff (by simp; omega) ?_)
              (refine gw ?_; refine Choice.mk ⟨true, Choice.mk ⟨false, _, _, c5, ?_⟩⟩)
              (refine gw ?_)
              exact RetN.mk ⟨[7, 5], rfl, rfl, .inr rfl, .inr rfl, .inr rfl, .inl rfl, .inl rfl, trivial⟩
end Go.Ev.W
namespace Go.Ev.W
open Go.Ev Go.Ev.N

/-- What is told of what was let in, or not. -/
def asksF (m : Mo) (ce : Nat × Nat) (q : Int) (f : Mo × Int × Nat → Mo) : Mo × An :=
  if ce.2 ≠ 0 then (m, anE ce.2) else if (placeF m m.bs ce.1 q).2.2 ≠ 0 then (m, anE (placeF m m.bs ce.1 q).2.2) else (f (placeF m m.bs ce.1 q), { an0 with at' := (placeF m m.bs ce.1 q).2.1 })
theorem class_bd {c : Cf} (hc : c.Ok) : ∀ ch, (∃ k, k ≤ c.L ∧ ch = c.G * 2 ^ k) → 1 ≤ ch ∧ ch ≤ c.N := fun ch ⟨k, h1, h2⟩ => by
  rw [h2, hc.n]
  exact ⟨Nat.mul_pos hc.gpos (Nat.two_pow_pos _), Nat.mul_le_mul_left _ (Nat.pow_le_pow_right (by omega) h1)⟩
set_option maxRecDepth 20000 in
set_option maxHeartbeats 4000000 in
theorem aligned_told {m : Mo} (hm : MoOk m) {s a : Int} (ha : a ≤ 9223372036854775807) : Told P T plain_aligned [rK m.bs, rT m.on, rU m.mem] [eMr m.c (.ref 0) m.live m.peak m.mark (.ref 1) (.ref 2), i64 s, i64 a] (.tup [eM (asksF m (newF m.c m.live s a) s (·.1)).1, eA (asksF m (newF m.c m.live s a) s (·.1)).2]) [.dead, .dead, .dead] := by
  have hH := hm.c.h2
  have hMH : m.c.M ≤ m.c.H := by have := hm.c.h; omega
  have htb := totalB_nonneg hm.a
  have hlive : 0 ≤ m.live ∧ m.live ≤ 1000000 := by have := hm.l; have := hm.lM; omega
  have c1 := admitNew_told hm.c m.live s a hlive ha
  have n1 := newF_ok hm.c (live := m.live) (s := s) (a := a)
  unfold asksF
  generalize newF m.c m.live s a = C at *
  obtain ⟨ch, e⟩ := C
  refine told_of_ev_drop (fn := plain_aligned_fn) tabOk mixed (by kernel_rfl) (by kernel_rfl) (by kernel_rfl) (by kernel_rfl) ?_
  (refine gw ?_; refine Choice.mk ⟨false, Choice.mk ⟨true, _, _, c1, ?_⟩⟩)
  by_cases he : e = 0
  · subst he
    obtain ⟨hch, hq1, hq2, hq3⟩ := n1 rfl
    obtain ⟨hc1, hc2⟩ := class_bd hm.c ch hch
    have hpi := hm.putIn (q := s) hc1 hc2
    have t1 := putsNo_told hpi
    have t2 := puts_told hpi
    simp only [ne_eq, not_true_eq_false, if_false]
    generalize placeF m m.bs ch s = C2 at *
    obtain ⟨m2, y2, e2⟩ := C2
    by_cases he2 : e2 = 0
    · subst he2
      simp only [ne_eq, not_true_eq_false, if_false]
      rcases t2 rfl with t | t
      · (refine gw ?_; refine Choice.mk ⟨true, Choice.mk ⟨false, _, _, t, ?_⟩⟩)
        (refine gw ?_)
        exact RetN.fz ⟨[true, true], [], rfl, rfl, .inr rfl, .inr rfl, .inr rfl, trivial⟩
      · (refine gw ?_; refine Choice.mk ⟨true, Choice.mk ⟨false, _, _, t, ?_⟩⟩)
        (refine gw ?_)
        exact RetN.fz ⟨[true, true], [], rfl, rfl, .inr rfl, .inr rfl, .inr rfl, trivial⟩
    · simp only [ne_eq, he2, not_false_eq_true, if_true]
      have t1 := t1 he2
      (refine gw ?_; refine Choice.mk ⟨true, Choice.mk ⟨false, _, _, t1, ?_⟩⟩)
      (refine gw ?_)
      exact RetN.fz ⟨[true, true], [], rfl, rfl, .inr rfl, .inr rfl, .inr rfl, trivial⟩
  · simp only [ne_eq, he, not_false_eq_true, if_true]
    (refine gw ?_; refine IfB.tt (by simpa using he) ?_)
    (refine gw ?_)
    exact RetN.fz ⟨[true, true], [], rfl, rfl, .inr rfl, .inr rfl, .inr rfl, trivial⟩
set_option maxRecDepth 20000 in
set_option maxHeartbeats 4000000 in
theorem calloc_told {m : Mo} (hm : MoOk m) {n s : Int} (hn : -9223372036854775808 ≤ n ∧ n ≤ 9223372036854775807) (hs : -9223372036854775808 ≤ s ∧ s ≤ 9223372036854775807) :
    Told P T plain_calloc [rK m.bs, rT m.on, rU m.mem] [eMr m.c (.ref 0) m.live m.peak m.mark (.ref 1) (.ref 2), i64 n, i64 s] (.tup [eM (asksF m (manyF m.c m.live n s) (n * s) (fun p => { p.1 with mem := zeroF p.1.mem p.2.1.toNat (manyF m.c m.live n s).1 })).1, eA (asksF m (manyF m.c m.live n s) (n * s) (fun p => { p.1 with mem := zeroF p.1.mem p.2.1.toNat (manyF m.c m.live n s).1 })).2]) [.dead, .dead, .dead] := by
  have hH := hm.c.h2
  have hMH : m.c.M ≤ m.c.H := by have := hm.c.h; omega
  have hNM := hm.c.nM
  have htb := totalB_nonneg hm.a
  have hlive : 0 ≤ m.live ∧ m.live ≤ 1000000 := by have := hm.l; have := hm.lM; omega
  have c1 := admitMany_told hm.c m.live n s hlive hn hs
  have c0 := classProd_told (c := m.c) (by omega) n s hn hs
  have n0 := prodF_ok (c := m.c) (n := n) (s := s)
  have n1 := manyF_ok hm.c (live := m.live) (n := n) (s := s)
  have n2 : (manyF m.c m.live n s).2 = 0 → (prodF m.c n s).2 = 0 := fun h => by
    unfold manyF at h
    split at h
    · rename_i h1; exact absurd h h1
    · rename_i h1; simpa using h1
  unfold asksF
  generalize manyF m.c m.live n s = C at *
  obtain ⟨ch, e⟩ := C
  refine told_of_ev_drop (fn := plain_calloc_fn) tabOk mixed (by kernel_rfl) (by kernel_rfl) (by kernel_rfl) (by kernel_rfl) ?_
  (refine gw ?_; refine Choice.mk ⟨false, Choice.mk ⟨true, _, _, c1, ?_⟩⟩)
  by_cases he : e = 0
  · subst he
    obtain ⟨hch, hq1, hq2, hq3, hq4⟩ := n1 rfl
    have hp := n0 (n2 rfl)
    have e0 : i64 ((prodF m.c n s).1 : Nat) = i64 (n * s) := by rw [hp.2.2.2]
    rw [e0] at c0
    obtain ⟨hc1, hc2⟩ := class_bd hm.c ch hch
    have hpi := hm.putIn (q := n * s) hc1 hc2
    have t1 := putsNo_told hpi
    have t2 := puts_told hpi
    have n2 := placeF_ok hm hm.a hm.z hch ⟨hq1, hq2⟩ (by rw [← hm.l]; exact hq3) hm.k.1
    simp only [ne_eq, not_true_eq_false, if_false]
    (refine gw ?_; refine Choice.mk ⟨false, Choice.mk ⟨true, _, _, c0, ?_⟩⟩)
    generalize placeF m m.bs ch (n * s) = C2 at *
    obtain ⟨m2, y2, e2⟩ := C2
    by_cases he2 : e2 = 0
    · subst he2
      have n3 : Put m m.bs ch (n * s) m2 y2 := n2 rfl
      have hy := n3.y0
      have hy2 := n3.yH
      have hml := n3.ml
      have hmm := hm.mm
      have c4 := memZero_told (mem := m2.mem) (by omega) (a := y2.toNat) (n := ch) (by omega)
      rw [Int.toNat_of_nonneg hy] at c4
      simp only [ne_eq, not_true_eq_false, if_false]
      rcases t2 rfl with t | t
      · (refine gw ?_; refine Choice.mk ⟨true, Choice.mk ⟨false, _, _, t, ?_⟩⟩)
        (refine gw ?_; refine Choice.mk ⟨false, Choice.mk ⟨false, _, _, c4, ?_⟩⟩)
        (refine gw ?_)
        exact RetN.fz ⟨[true, true], [], rfl, rfl, .inr rfl, .inr rfl, .inr rfl, trivial⟩
      · (refine gw ?_; refine Choice.mk ⟨true, Choice.mk ⟨false, _, _, t, ?_⟩⟩)
        (refine gw ?_; refine Choice.mk ⟨false, Choice.mk ⟨false, _, _, c4, ?_⟩⟩)
        (refine gw ?_)
        exact RetN.fz ⟨[true, true], [], rfl, rfl, .inr rfl, .inr rfl, .inr rfl, trivial⟩
    · simp only [ne_eq, he2, not_false_eq_true, if_true]
      have t1 := t1 he2
      (refine gw ?_; refine Choice.mk ⟨true, Choice.mk ⟨false, _, _, t1, ?_⟩⟩)
      (refine gw ?_; refine IfB.tt (by simpa using he2) ?_)
      (refine gw ?_)
      exact RetN.fz ⟨[true, true], [], rfl, rfl, .inr rfl, .inr rfl, .inr rfl, trivial⟩
  · simp only [ne_eq, he, not_false_eq_true, if_true]
    (refine gw ?_; refine IfB.tt (by simpa using he) ?_)
    (refine gw ?_)
    exact RetN.fz ⟨[true, true], [], rfl, rfl, .inr rfl, .inr rfl, .inr rfl, trivial⟩
end Go.Ev.W
namespace Go.Ev.W
open Go.Ev Go.Ev.N

theorem min_lt {c : Cf} : True := trivial
set_option maxRecDepth 20000 in
set_option maxHeartbeats 8000000 in
theorem realloc_told {m : Mo} (hm : MoOk m) {o : X.O} (ho : OpOk o) {i : Nat} (hi : i < m.bs.length) (hk : o.k = 4) : Told P T plain_realloc [rK m.bs, rT m.on, rU m.mem] [eMr m.c (.ref 0) m.live m.peak m.mark (.ref 1) (.ref 2), i64 i, i64 o.s] (.tup [eM (ofB m o i).1, eA (ofB m o i).2]) [.dead, .dead, .dead] := by
  have hH := hm.c.h2
  have hNM := hm.c.nM
  have hMH : m.c.M ≤ m.c.H := by have := hm.c.h; omega
  have htb := totalB_nonneg hm.a
  have hlen := hm.a.len
  have hlive : 0 ≤ m.live ∧ m.live ≤ 65536 := by have := hm.l; have := hm.lM; omega
  have hml : (m.bs.map eB).length = m.bs.length := by simp
  have hmu : (m.mem.map u8).length = m.c.H := by rw [List.length_map]; exact hm.mm
  have hmm := hm.mm
  have hmo : (m.on.map AV.bool).length ≤ 65536 := by rw [List.length_map]; have := hm.o; have := Nat.div_le_self m.c.H m.c.Pg; omega
  have hsr := ho.s
  have hb := hm.a.b _ (List.getElem_mem hi)
  have hdt := dropB_tot hi
  have hds := dropB_sub m.bs i
  have had := hm.a.sub hds
  have hdn := totalB_nonneg had
  have hg : m.bs.getD i bk0 = m.bs[i] := by simp [List.getD_eq_getElem?_getD, hi]
  have hl := hm.l
  have hpk := hm.p
  have hmk := hm.k
  have c1 := admitAnew_told hm.c m.live m.bs[i].c o.s (by omega)
  have n1 := newF_ok hm.c (live := m.live - m.bs[i].c) (s := o.s) (a := 1)
  have c2 := twin_told (c := m.c) (live := m.live) (peak := m.peak) (mark := m.mark) (bs := m.bs.map eB) (on := m.on.map .bool) (mem := m.mem.map u8) (by omega) (by omega) (by omega)
  have c3 := goes_told (c := m.c) (live := m.live) (peak := m.peak) (mark := m.mark) (bs := m.bs) (on := m.on.map .bool) (mem := m.mem.map u8) (by omega) (by omega) (fun x hx => by have := hm.a.b x hx; omega) hi
  unfold ofB
  simp only []
  rw [hg, if_pos hk]
  generalize newF m.c (m.live - m.bs[i].c) o.s 1 = C at *
  obtain ⟨ch, e⟩ := C
  refine told_of_ev_drop (fn := plain_realloc_fn) tabOk mixed (by kernel_rfl) (by kernel_rfl) (by kernel_rfl) (by kernel_rfl) ?_
  (refine gw ?_)
  refine at_map (k := i) hi ?_
  (refine gw ?_; refine Choice.mk ⟨false, Choice.mk ⟨true, _, _, c1, ?_⟩⟩)
  by_cases he : e = 0
  · subst he
    obtain ⟨hch, hq1, hq2, hq3⟩ := n1 rfl
    obtain ⟨hc1, hc2⟩ := class_bd hm.c ch hch
    have hpi : PutIn { m with bs := dropB m.bs i, live := m.live - m.bs[i].c } ch o.s := ⟨hm.c, had, by rw [hdt, ← hl], by simp only; omega, by simp only; omega, hm.o, hm.mm, hc1, hc2⟩
    have t1 := putsNo_told hpi
    have t2 := puts_told hpi
    have n2 := placeF_ok hm had (fun x hx => hm.z x (hds.subset hx)) hch ⟨hq1, hq2⟩ (by rw [hdt, ← hl]; exact hq3) (fun x hx => hm.k.1 x (hds.subset hx))
    have ePl : (placeF { m with bs := dropB m.bs i, live := m.live - m.bs[i].c } (dropB m.bs i) ch o.s).2 = (placeF m (dropB m.bs i) ch o.s).2 ∧ ((placeF { m with bs := dropB m.bs i, live := m.live - m.bs[i].c } (dropB m.bs i) ch o.s).2.2 = 0 → (placeF { m with bs := dropB m.bs i, live := m.live - m.bs[i].c } (dropB m.bs i) ch o.s).1 = (placeF m (dropB m.bs i) ch o.s).1) := by
      unfold placeF
      simp only
      split
      · exact ⟨rfl, fun h => by simp at h⟩
      · split
        · exact ⟨rfl, fun h => by simp at h⟩
        · exact ⟨rfl, fun _ => rfl⟩
    obtain ⟨e1, e2⟩ := ePl
    rw [show ({ m with bs := dropB m.bs i, live := m.live - m.bs[i].c } : Mo).bs = dropB m.bs i from rfl] at t1 t2
    rw [e1] at t1 t2 e2
    simp only [ne_eq, not_true_eq_false, if_false]
    (refine gw ?_; refine Choice.mk ⟨false, Choice.mk ⟨false, _, _, c2, ?_⟩⟩)
    (refine gw ?_; refine Choice.mk ⟨true, Choice.mk ⟨false, _, _, c3, ?_⟩⟩)
    by_cases he2 : (placeF m (dropB m.bs i) ch o.s).2.2 = 0
    · rw [e2 he2] at t2
      have t3 := t2 he2
      have n3 := n2 he2
      clear t1 e1 e2 t2 n2
      generalize placeF m (dropB m.bs i) ch o.s = C2 at *
      obtain ⟨m2, y2, e2⟩ := C2
      simp only at he2 t3 n3
      subst he2
      simp only [not_true_eq_false, if_false]
      have hy := n3.y0
      have hy2 := n3.yH
      have hml2 := n3.ml
      have hu2 : (m2.mem.map u8).length = m.c.H := by rw [List.length_map]; omega
      have emin : ∀ a b : Int, min a b = if b < a then b else a := fun a b => by split <;> omega
      obtain ⟨y, rfl⟩ : ∃ y : Nat, y2 = ((y : Nat) : Int) := ⟨y2.toNat, by omega⟩
      rw [emin]
      obtain ⟨N, hN, hN1, hN2⟩ : ∃ N : Nat, (if m.bs[i].c < (ch : Int) then m.bs[i].c else (ch : Int)) = ((N : Nat) : Int) ∧ N ≤ ch ∧ ((N : Nat) : Int) ≤ m.bs[i].c := ⟨(if m.bs[i].c < (ch : Int) then m.bs[i].c else (ch : Int)).toNat, by split <;> omega, by split <;> omega, by split <;> omega⟩
      have hN' : (if (ch : Int) < m.bs[i].c then (ch : Int) else m.bs[i].c) = ((N : Nat) : Int) := by rw [← hN]; split <;> split <;> omega
      rw [hN]
      have hX : lU (m2.mem.take ((y : Nat) : Int).toNat ++ (m.mem.take (m.bs[i].a + ((N : Nat) : Int)).toNat).drop m.bs[i].a.toNat ++ m2.mem.drop (((y : Nat) : Int) + ((N : Nat) : Int)).toNat) =
          .lst t_uint8 ((m2.mem.map u8).take ((y : Nat) : Int).toNat ++ (List.take (min (((m.mem.map u8).take (m.bs[i].a + ((N : Nat) : Int)).toNat).drop m.bs[i].a.toNat).length ((((m2.mem.map u8).length : Nat) : Int).toNat - ((y : Nat) : Int).toNat)) (((m.mem.map u8).take (m.bs[i].a + ((N : Nat) : Int)).toNat).drop m.bs[i].a.toNat) ++ (m2.mem.map u8).drop (((y : Nat) : Int).toNat + min (((m.mem.map u8).take (m.bs[i].a + ((N : Nat) : Int)).toNat).drop m.bs[i].a.toNat).length ((((m2.mem.map u8).length : Nat) : Int).toNat - ((y : Nat) : Int).toNat)))) := by
        have g1 : (((m.mem.map u8).take (m.bs[i].a + ((N : Nat) : Int)).toNat).drop m.bs[i].a.toNat).length = N := by rw [List.length_drop, List.length_take, hmu]; omega
        have g2 : min N ((((m2.mem.map u8).length : Nat) : Int).toNat - ((y : Nat) : Int).toNat) = N := by rw [hu2]; omega
        have g4 : List.take N (((m.mem.map u8).take (m.bs[i].a + ((N : Nat) : Int)).toNat).drop m.bs[i].a.toNat) = ((m.mem.map u8).take (m.bs[i].a + ((N : Nat) : Int)).toNat).drop m.bs[i].a.toNat := List.take_of_length_le (by rw [g1]; exact Nat.le_refl _)
        rw [g1, g2, g4]
        have g3 : (((y : Nat) : Int) + ((N : Nat) : Int)).toNat = y + N := by omega
        unfold lU
        rw [g3, Int.toNat_natCast]
        simp only [List.map_append, List.map_take, List.map_drop, List.append_assoc]
      rcases t3 with t | t
      · (refine gw ?_; refine Choice.mk ⟨true, Choice.mk ⟨false, _, _, t, ?_⟩⟩)
        (refine gw ?_; refine Cut.mk (by first | omega | (simp; omega) | (simp <;> fail)) (by first | omega | (simp; omega) | (simp <;> fail)) (by first | omega | (simp; omega) | (simp <;> fail)) ?_)
        (refine gw ?_)
        rw [hN']
        (refine gw ?_; refine Cut.mk (by first | omega | (simp; omega) | (simp <;> fail)) (by first | omega | (simp; omega) | (simp <;> fail)) (by first | omega | (simp; omega) | (simp <;> fail)) ?_)
        (refine gw ?_)
        refine RetN.fz ⟨[true, true], [], rfl, ?_, .inr rfl, .inr rfl, .inr rfl, trivial⟩
        refine Eq.trans ?_ (congrArg (fun z => AV.tup [AV.agg [i64 m2.c.G, i64 m2.c.N, i64 m2.c.M, i64 m2.c.L, i64 m2.c.Pg, i64 m2.c.P, i64 m2.c.H, i64 m2.c.Sd, lK m2.bs, i64 m2.live, i64 m2.peak, i64 m2.mark, lT m2.on, z], eA { an0 with at' := ((y : Nat) : Int) }]) hX.symm)
        rfl
      · (refine gw ?_; refine Choice.mk ⟨true, Choice.mk ⟨false, _, _, t, ?_⟩⟩)
        (refine gw ?_; refine Cut.mk (by first | omega | (simp; omega) | (simp <;> fail)) (by first | omega | (simp; omega) | (simp <;> fail)) (by first | omega | (simp; omega) | (simp <;> fail)) ?_)
        (refine gw ?_)
        rw [hN']
        (refine gw ?_; refine Cut.mk (by first | omega | (simp; omega) | (simp <;> fail)) (by first | omega | (simp; omega) | (simp <;> fail)) (by first | omega | (simp; omega) | (simp <;> fail)) ?_)
        (refine gw ?_)
        refine RetN.fz ⟨[true, true], [], rfl, ?_, .inr rfl, .inr rfl, .inr rfl, trivial⟩
        refine Eq.trans ?_ (congrArg (fun z => AV.tup [AV.agg [i64 m2.c.G, i64 m2.c.N, i64 m2.c.M, i64 m2.c.L, i64 m2.c.Pg, i64 m2.c.P, i64 m2.c.H, i64 m2.c.Sd, lK m2.bs, i64 m2.live, i64 m2.peak, i64 m2.mark, lT m2.on, z], eA { an0 with at' := ((y : Nat) : Int) }]) hX.symm)
        rfl
    · have t1 := t1 he2
      simp only [he2, not_false_eq_true, if_true]
      (refine gw ?_; refine Choice.mk ⟨true, Choice.mk ⟨false, _, _, t1, ?_⟩⟩)
      (refine gw ?_; refine IfB.tt (by simpa using he2) ?_)
      (refine gw ?_)
      exact RetN.fz ⟨[true, true], [], rfl, rfl, .inr rfl, .inr rfl, .inr rfl, trivial⟩
  · simp only [ne_eq, he, not_false_eq_true, if_true]
    (refine gw ?_; refine IfB.tt (by simpa using he) ?_)
    (refine gw ?_)
    exact RetN.fz ⟨[true, true], [], rfl, rfl, .inr rfl, .inr rfl, .inr rfl, trivial⟩
end Go.Ev.W
namespace Go.Ev.W
open Go.Ev Go.Ev.N

theorem pg_le {c : Cf} (hc : c.Ok) (h : 1 ≤ c.H) : c.Pg ≤ c.H := by
  obtain ⟨k, hk⟩ := hc.pgH
  have : 1 ≤ k := by
    rcases Nat.eq_zero_or_pos k with h | h
    · subst h; omega
    · exact h
  rw [hk]; exact Nat.le_mul_of_pos_right _ this
set_option maxRecDepth 20000 in
set_option maxHeartbeats 4000000 in
theorem plainTrim_told {m : Mo} (hm : MoOk m) (hH1 : 1 ≤ m.c.H) : Told P T plain_trim [rK m.bs, rT m.on, rU m.mem] [eMr m.c (.ref 0) m.live m.peak m.mark (.ref 1) (.ref 2)] (.tup [eM { m with on := (trimF m.on (metF m.c.Pg m.c.H m.bs)).1 }, eA { an0 with n := (trimF m.on (metF m.c.Pg m.c.H m.bs)).2 }]) [.dead, .dead, .dead] := by
  have hH := hm.c.h2
  have hpg := hm.c.pgpos
  have hlen := hm.a.len
  have hml : (metF m.c.Pg m.c.H m.bs).length = m.on.length := by rw [hm.o]; simp [metF]
  have hol : m.on.length ≤ 65536 := by have := hm.o; have := Nat.div_le_self m.c.H m.c.Pg; omega
  have c3 := pinMetR_told (pg := m.c.Pg) (size := m.c.H) hpg hH (pg_le hm.c hH1) (l := m.bs) (by omega) hm.a.b
  have c4 := trim_told hml hol
  refine told_of_ev_drop (fn := plain_trim_fn) tabOk mixed (by kernel_rfl) (by kernel_rfl) (by kernel_rfl) (by kernel_rfl) ?_
  (refine gw ?_; refine Choice.mk ⟨false, Choice.mk ⟨true, _, _, c3, ?_⟩⟩)
  (refine gw ?_)
  refine Need.mk ?_ ?_
  · intro x hx
    obtain ⟨v, _, rfl⟩ := List.mem_map.1 hx
    rfl
  (refine gw ?_; refine Choice.mk ⟨false, Choice.mk ⟨false, _, _, c4, ?_⟩⟩)
  (refine gw ?_)
  exact RetN.fz ⟨[true, true], [], rfl, rfl, .inr rfl, .inr rfl, .inr rfl, trivial⟩
set_option maxRecDepth 20000 in
set_option maxHeartbeats 4000000 in
theorem bytes_told {m : Mo} (hm : MoOk m) {o : X.O} (ho : OpOk o) {i : Nat} (hi : i < m.bs.length) (hk : o.k = 7 ∨ o.k = 8) : Told P T plain_bytes [rK m.bs, rT m.on, rU m.mem] [eMr m.c (.ref 0) m.live m.peak m.mark (.ref 1) (.ref 2), i64 i, X.encO o] (.tup [eM (ofB m o i).1, eA (ofB m o i).2]) [.dead, .dead, .dead] := by
  have hH := hm.c.h2
  have hb := hm.a.b _ (List.getElem_mem hi)
  have hml : (m.bs.map eB).length = m.bs.length := by simp
  have hg : m.bs.getD i bk0 = m.bs[i] := by simp [List.getD_eq_getElem?_getD, hi]
  have hnr := ho.n
  have hbr := ho.b
  have hmm := hm.mm
  unfold ofB
  simp only []
  rw [hg, if_neg (by omega), if_neg (by omega), if_neg (by omega)]
  refine told_of_ev_drop (fn := plain_bytes_fn) tabOk mixed (by kernel_rfl) (by kernel_rfl) (by kernel_rfl) (by kernel_rfl) ?_
  (refine gw ?_)
  refine at_map (k := i) hi ?_
  by_cases hr : o.n < 0 ∨ o.n ≥ m.bs[i].c
  · rw [if_pos hr]
    by_cases h0 : o.n < 0
    · (refine gw ?_; refine IfB.tt (by simpa using h0) ?_)
      (refine gw ?_)
      exact RetN.fz ⟨[true, true], [], rfl, rfl, .inr rfl, .inr rfl, .inr rfl, trivial⟩
    · (refine gw ?_; refine IfB.ff (by simpa using h0) ?_)
      (refine gw ?_; refine IfB.tt (by simp; omega) ?_)
      (refine gw ?_)
      exact RetN.fz ⟨[true, true], [], rfl, rfl, .inr rfl, .inr rfl, .inr rfl, trivial⟩
  · obtain ⟨j, hj⟩ : ∃ j : Nat, m.bs[i].a + o.n = ((j : Nat) : Int) := ⟨(m.bs[i].a + o.n).toNat, by omega⟩
    rw [if_neg hr]
    (refine gw ?_; refine IfB.ff (by simp; omega) ?_)
    (refine gw ?_; refine IfB.ff (by simp; omega) ?_)
    rw [hj, Int.toNat_natCast]
    have c1 := memGet_told (mem := m.mem) (by omega) (a := j) (by omega)
    have c2 := memPut_told (mem := m.mem) (by omega) (a := j) (b := o.b) (by omega)
    by_cases h7 : o.k = 7
    · rw [if_pos h7]
      (refine gw ?_; refine IfB.tt (by simp [h7]) ?_)
      (refine gw ?_)
      rw [hj]
      (refine gw ?_; refine Choice.mk ⟨false, Choice.mk ⟨true, _, _, c1, ?_⟩⟩)
      (refine gw ?_)
      exact RetN.fz ⟨[true, true], [], rfl, rfl, .inr rfl, .inr rfl, .inr rfl, trivial⟩
    · rw [if_neg h7]
      (refine gw ?_; refine IfB.ff (by simp [h7]) ?_)
      (refine gw ?_)
      rw [hj]
      (refine gw ?_; refine Choice.mk ⟨false, Choice.mk ⟨false, _, _, c2, ?_⟩⟩)
      (refine gw ?_)
      have hse : lU (m.mem.set j o.b.toNat) = .lst t_uint8 ((m.mem.map u8).set j (.int .u8 o.b)) := by
        unfold lU
        rw [List.map_set]
        have : u8 o.b.toNat = .int .u8 o.b := by unfold u8; rw [Int.toNat_of_nonneg hbr.1]
        rw [this]
      refine RetN.fz ⟨[true, true], [], rfl, ?_, .inr rfl, .inr rfl, .inr rfl, trivial⟩
      refine Eq.trans ?_ (congrArg (fun z => AV.tup [AV.agg [i64 m.c.G, i64 m.c.N, i64 m.c.M, i64 m.c.L, i64 m.c.Pg, i64 m.c.P, i64 m.c.H, i64 m.c.Sd, lK m.bs, i64 m.live, i64 m.peak, i64 m.mark, lT m.on, z], eA an0]) hse.symm)
      rfl
set_option maxRecDepth 20000 in
set_option maxHeartbeats 4000000 in
theorem block_told' {m : Mo} (hm : MoOk m) {o : X.O} (ho : OpOk o) (hk : o.k = 4 ∨ o.k = 5 ∨ o.k = 6 ∨ o.k = 7 ∨ o.k = 8) : Told P T plain_block [rK m.bs, rT m.on, rU m.mem] [eMr m.c (.ref 0) m.live m.peak m.mark (.ref 1) (.ref 2), X.encO o] (.tup [eM (doF m o).1, eA (doF m o).2]) [.dead, .dead, .dead] := by
  have hH := hm.c.h2
  have hMH : m.c.M ≤ m.c.H := by have := hm.c.h; omega
  have hlen := hm.a.len
  have htb := totalB_nonneg hm.a
  have hlive : 0 ≤ m.live ∧ m.live ≤ 65536 := by have := hm.l; have := hm.lM; omega
  have hml : (m.bs.map eB).length = m.bs.length := by simp
  have c1 := plainFind_told m (by omega) o.p
  unfold doF
  rw [if_neg (by omega), if_neg (by omega), if_neg (by omega), if_pos hk]
  refine told_of_ev_drop (fn := plain_block_fn) tabOk mixed (by kernel_rfl) (by kernel_rfl) (by kernel_rfl) (by kernel_rfl) ?_
  cases hf : findB m.bs o.p with
  | none =>
    rw [hf] at c1
    (refine gw ?_; refine Choice.mk ⟨false, Choice.mk ⟨true, _, _, c1, ?_⟩⟩)
    (refine gw ?_)
    exact RetN.fz ⟨[true, true], [], rfl, rfl, .inr rfl, .inr rfl, .inr rfl, trivial⟩
  | some i =>
    rw [hf] at c1
    obtain ⟨hi, _⟩ := findB_lt hf
    have hb := hm.a.b _ (List.getElem_mem hi)
    simp only at c1 ⊢
    (refine gw ?_; refine Choice.mk ⟨false, Choice.mk ⟨true, _, _, c1, ?_⟩⟩)
    by_cases h4 : o.k = 4
    · have c2 := realloc_told hm ho hi h4
      (refine gw ?_; refine IfB.tt (by simp [h4]) ?_)
      (refine gw ?_; refine Choice.mk ⟨true, Choice.mk ⟨false, _, _, c2, ?_⟩⟩)
      (refine gw ?_)
      exact RetN.fz ⟨[true, true], [], rfl, rfl, .inr rfl, .inr rfl, .inr rfl, trivial⟩
    · have hg : m.bs.getD i bk0 = m.bs[i] := by simp [List.getD_eq_getElem?_getD, hi]
      (refine gw ?_; refine IfB.ff (by simp [h4]) ?_)
      by_cases h5 : o.k = 5
      · have e5 : ofB m o i = ({ m with bs := dropB m.bs i, live := m.live - m.bs[i].c }, an0) := by unfold ofB; simp only []; rw [hg, if_neg h4, if_pos h5]
        rw [e5]
        have c3 := goes_told (c := m.c) (live := m.live) (peak := m.peak) (mark := m.mark) (bs := m.bs) (on := m.on.map .bool) (mem := m.mem.map u8) (by omega) (by omega) (fun x hx => by have := hm.a.b x hx; omega) hi
        (refine gw ?_; refine IfB.tt (by simp [h5]) ?_)
        (refine gw ?_; refine Choice.mk ⟨true, Choice.mk ⟨false, _, _, c3, ?_⟩⟩)
        (refine gw ?_)
        exact RetN.fz ⟨[true, true], [], rfl, rfl, .inr rfl, .inr rfl, .inr rfl, trivial⟩
      · (refine gw ?_; refine IfB.ff (by simp [h5]) ?_)
        by_cases h6 : o.k = 6
        · have e6 : ofB m o i = (m, { an0 with n := m.bs[i].c }) := by unfold ofB; simp only []; rw [hg, if_neg h4, if_neg h5, if_pos h6]
          rw [e6]
          (refine gw ?_; refine IfB.tt (by simp [h6]) ?_)
          (refine gw ?_)
          refine at_map (k := i) hi ?_
          (refine gw ?_)
          exact RetN.fz ⟨[true, true], [], rfl, rfl, .inr rfl, .inr rfl, .inr rfl, trivial⟩
        · have c2 := bytes_told hm ho hi (by omega)
          (refine gw ?_; refine IfB.ff (by simp [h6]) ?_)
          (refine gw ?_; refine Choice.mk ⟨true, Choice.mk ⟨false, _, _, c2, ?_⟩⟩)
          (refine gw ?_)
          exact RetN.fz ⟨[true, true], [], rfl, rfl, .inr rfl, .inr rfl, .inr rfl, trivial⟩
set_option maxRecDepth 20000 in
set_option maxHeartbeats 4000000 in
theorem plainDo_told {m : Mo} (hm : MoOk m) (hH1 : 1 ≤ m.c.H) {o : X.O} (ho : OpOk o) : Told P T plain_Do [] [eM m, X.encO o] (.tup [eM (doF m o).1, eA (doF m o).2]) [] := by
  have hH := hm.c.h2
  have hlen := hm.a.len
  have hmm := hm.mm
  have hol : m.on.length ≤ 65536 := by have := hm.o; have := Nat.div_le_self m.c.H m.c.Pg; omega
  have c0 := twin_told (c := m.c) (live := m.live) (peak := m.peak) (mark := m.mark) (bs := m.bs.map eB) (on := m.on.map .bool) (mem := m.mem.map u8) (by rw [List.length_map]; omega) (by rw [List.length_map]; omega) (by rw [List.length_map]; omega)
  have c0 : Told P T plain_twin [] [eM m] _ _ := c0
  refine told_of_ev (fn := plain_Do_fn) tabOk mixed (by kernel_rfl) (by kernel_rfl) (by kernel_rfl) (by kernel_rfl) ?_
  (refine gw ?_; refine Choice.mk ⟨false, Choice.mk ⟨false, _, _, c0, ?_⟩⟩)
  by_cases h1 : o.k = 1
  · have c1 := aligned_told hm (s := o.s) (a := 1) (by omega)
    have e : doF m o = asksF m (newF m.c m.live o.s 1) o.s (·.1) := by
      unfold doF giveF asksF
      rw [if_pos (.inl h1)]
      simp only [if_neg (show ¬ o.k = 2 by omega), if_neg (show ¬ o.k = 3 by omega)]
    rw [e]
    (refine gw ?_; refine IfB.tt (by simp [h1]) ?_)
    (refine gw ?_; refine Choice.mk ⟨true, Choice.mk ⟨false, _, _, c1, ?_⟩⟩)
    (refine gw ?_; exact RetN.fz ⟨[true, true], [], rfl, rfl, rfl⟩)
  (refine gw ?_; refine IfB.ff (by simp [h1]) ?_)
  by_cases h2 : o.k = 2
  · have c1 := calloc_told hm ho.n ho.s
    have e : doF m o = asksF m (manyF m.c m.live o.n o.s) (o.n * o.s) (fun p => { p.1 with mem := zeroF p.1.mem p.2.1.toNat (manyF m.c m.live o.n o.s).1 }) := by
      unfold doF giveF asksF
      rw [if_pos (.inr (.inr h2))]
      simp only [if_pos h2]
    rw [e]
    (refine gw ?_; refine IfB.tt (by simp [h2]) ?_)
    (refine gw ?_; refine Choice.mk ⟨true, Choice.mk ⟨false, _, _, c1, ?_⟩⟩)
    (refine gw ?_; exact RetN.fz ⟨[true, true], [], rfl, rfl, rfl⟩)
  (refine gw ?_; refine IfB.ff (by simp [h2]) ?_)
  by_cases h3 : o.k = 3
  · have c1 := aligned_told hm (s := o.s) (a := o.a) ho.a.2
    have e : doF m o = asksF m (newF m.c m.live o.s o.a) o.s (·.1) := by
      unfold doF giveF asksF
      rw [if_pos (.inr (.inl h3))]
      simp only [if_neg h2, if_pos h3]
    rw [e]
    (refine gw ?_; refine IfB.tt (by simp [h3]) ?_)
    (refine gw ?_; refine Choice.mk ⟨true, Choice.mk ⟨false, _, _, c1, ?_⟩⟩)
    (refine gw ?_; exact RetN.fz ⟨[true, true], [], rfl, rfl, rfl⟩)
  (refine gw ?_; refine IfB.ff (by simp [h3]) ?_)
  by_cases hk : o.k = 4 ∨ o.k = 5 ∨ o.k = 6 ∨ o.k = 7 ∨ o.k = 8
  · have c1 := block_told' hm ho hk
    rcases hk with hk | hk | hk | hk | hk
    · (refine gw ?_; refine IfB.tt (by simp [hk]) ?_)
      (refine gw ?_; refine IfB.tt (by simp [hk]) ?_)
      (refine gw ?_; refine Choice.mk ⟨true, Choice.mk ⟨false, _, _, c1, ?_⟩⟩)
      (refine gw ?_; exact RetN.fz ⟨[true, true], [], rfl, rfl, rfl⟩)
    · (refine gw ?_; refine IfB.ff (by simp [hk]) ?_)
      (refine gw ?_; refine IfB.tt (by simp [hk]) ?_)
      (refine gw ?_; refine IfB.tt (by simp [hk]) ?_)
      (refine gw ?_; refine Choice.mk ⟨true, Choice.mk ⟨false, _, _, c1, ?_⟩⟩)
      (refine gw ?_; exact RetN.fz ⟨[true, true], [], rfl, rfl, rfl⟩)
    · (refine gw ?_; refine IfB.ff (by simp [hk]) ?_)
      (refine gw ?_; refine IfB.ff (by simp [hk]) ?_)
      (refine gw ?_; refine IfB.tt (by simp [hk]) ?_)
      (refine gw ?_; refine IfB.tt (by simp [hk]) ?_)
      (refine gw ?_; refine Choice.mk ⟨true, Choice.mk ⟨false, _, _, c1, ?_⟩⟩)
      (refine gw ?_; exact RetN.fz ⟨[true, true], [], rfl, rfl, rfl⟩)
    · (refine gw ?_; refine IfB.ff (by simp [hk]) ?_)
      (refine gw ?_; refine IfB.ff (by simp [hk]) ?_)
      (refine gw ?_; refine IfB.ff (by simp [hk]) ?_)
      (refine gw ?_; refine IfB.tt (by simp [hk]) ?_)
      (refine gw ?_; refine IfB.tt (by simp [hk]) ?_)
      (refine gw ?_; refine Choice.mk ⟨true, Choice.mk ⟨false, _, _, c1, ?_⟩⟩)
      (refine gw ?_; exact RetN.fz ⟨[true, true], [], rfl, rfl, rfl⟩)
    · (refine gw ?_; refine IfB.ff (by simp [hk]) ?_)
      (refine gw ?_; refine IfB.ff (by simp [hk]) ?_)
      (refine gw ?_; refine IfB.ff (by simp [hk]) ?_)
      (refine gw ?_; refine IfB.ff (by simp [hk]) ?_)
      (refine gw ?_; refine IfB.tt (by simp [hk]) ?_)
      (refine gw ?_; refine Choice.mk ⟨true, Choice.mk ⟨false, _, _, c1, ?_⟩⟩)
      (refine gw ?_; exact RetN.fz ⟨[true, true], [], rfl, rfl, rfl⟩)
  (refine gw ?_; refine IfB.ff (by simp; omega) ?_)
  (refine gw ?_; refine IfB.ff (by simp; omega) ?_)
  (refine gw ?_; refine IfB.ff (by simp; omega) ?_)
  (refine gw ?_; refine IfB.ff (by simp; omega) ?_)
  (refine gw ?_; refine IfB.ff (by simp; omega) ?_)
  unfold doF
  rw [if_neg (by omega)]
  by_cases h9 : o.k = 9
  · have c1 := plainTrim_told hm hH1
    rw [if_pos h9]
    (refine gw ?_; refine IfB.tt (by simp [h9]) ?_)
    (refine gw ?_; refine Choice.mk ⟨true, Choice.mk ⟨false, _, _, c1, ?_⟩⟩)
    (refine gw ?_; exact RetN.fz ⟨[true, true], [], rfl, rfl, rfl⟩)
  rw [if_neg h9]
  (refine gw ?_; refine IfB.ff (by simp [h9]) ?_)
  by_cases h10 : o.k = 10
  · have c1 := pinCount_told m.on (by omega)
    rw [if_pos h10]
    (refine gw ?_; refine IfB.tt (by simp [h10]) ?_)
    (refine gw ?_; refine Choice.mk ⟨false, Choice.mk ⟨true, _, _, c1, ?_⟩⟩)
    (refine gw ?_; exact RetN.fz ⟨[true, true], [], rfl, rfl, rfl⟩)
  rw [if_neg h10, if_neg hk]
  (refine gw ?_; refine IfB.ff (by simp [h10]) ?_)
  (refine gw ?_; exact RetN.fz ⟨[true, true], [], rfl, rfl, rfl⟩)
end Go.Ev.W
