/- Words and lemmas for the law s of this seat (a part of its proof). -/
import Derived.Test.YtjddlmnlgfgddaaK1
set_option linter.unusedVariables false
set_option linter.unusedSimpArgs false
namespace Go.Ev.W
open Go.Ev Go.Ev.N
theorem Get.of {es : List (AV × AV)} {k : AV} {P : Option AV → Prop} {m v : Option AV} (h : m = v) (p : P v) : Get es k P m := ⟨h ▸ p⟩
/-- Keys that are told apart by a number. -/
def KeyOf (key : Int → AV) : Prop := ∀ x y, eqKey (key x) (key y) = (x == y)
theorem KeyOf.e {key : Int → AV} (h : KeyOf key) (x y : Int) : eqKey (key x) (key y) = (x == y) := h x y
theorem KeyOf.inj {key : Int → AV} (h : KeyOf key) {x y : Int} (e : key x = key y) : x = y := by
  have := h x y; rw [e, h y y] at this; simpa using this
/-- What a map says, by numbers. -/
structure MapIs (key : Int → AV) (es : List (AV × AV)) (g : Int → Option AV) : Prop where
  keys : ∀ p ∈ es, ∃ x, p.1 = key x
  get : ∀ y, mget es (key y) = g y
  uniq : (es.map (·.1)).Nodup
theorem MapIs.nil (key : Int → AV) : MapIs key [] fun _ => none := ⟨fun p h => by simp at h, fun _ => rfl, List.nodup_nil⟩
theorem mget_mset {key : Int → AV} (hk : KeyOf key) (x y : Int) (v : AV) : ∀ {es : List (AV × AV)}, (∀ p ∈ es, ∃ x, p.1 = key x) → mget (mset es (key x) v) (key y) = if y = x then some v else mget es (key y)
  | [], _ => by
    simp only [mset, mget, hk.e]
    by_cases h : y = x
    · simp [h]
    · rw [show (y == x) = false by simpa using h]; simp [h]
  | (k, u) :: es, h => by
    obtain ⟨z, hz⟩ := h (k, u) (by simp)
    simp only at hz
    subst hz
    have ih := mget_mset hk x y v (es := es) fun p hp => h p (by simp [hp])
    simp only [mset, hk.e]
    by_cases h1 : x = z
    · subst h1
      simp only [beq_self_eq_true, cond_true, mget, hk.e]
      by_cases h2 : y = x
      · simp [h2]
      · rw [show (y == x) = false by simpa using h2]; simp [h2]
    · rw [show (x == z) = false by simpa using h1]
      simp only [cond_false, mget, hk.e]
      by_cases h2 : y = z
      · subst h2
        simp [Ne.symm h1]
      · rw [show (y == z) = false by simpa using h2]
        simp only [cond_false]; exact ih
open Classical in
theorem mset_keys {key : Int → AV} (hk : KeyOf key) (x : Int) (v : AV) : ∀ {es : List (AV × AV)}, (∀ p ∈ es, ∃ x, p.1 = key x) → (mset es (key x) v).map (·.1) = if key x ∈ es.map (·.1) then es.map (·.1) else es.map (·.1) ++ [key x]
  | [], _ => by simp [mset]
  | (k, u) :: es, h => by
    obtain ⟨z, hz⟩ := h (k, u) (by simp)
    simp only at hz
    subst hz
    have ih := mset_keys hk x v (es := es) fun p hp => h p (by simp [hp])
    simp only [mset, hk.e]
    by_cases h1 : x = z
    · subst h1; simp
    · rw [show (x == z) = false by simpa using h1]
      simp only [cond_false, List.map_cons, ih, List.mem_cons]
      have : key x ≠ key z := fun e => h1 (hk.inj e)
      by_cases h2 : key x ∈ es.map (·.1)
      · rw [if_pos h2, if_pos (.inr h2)]
      · rw [if_neg h2, if_neg (by rintro (h | h) <;> contradiction)]; rfl
theorem MapIs.set {key : Int → AV} (hk : KeyOf key) {es : List (AV × AV)} {g : Int → Option AV} (h : MapIs key es g) (x : Int) (v : AV) : MapIs key (mset es (key x) v) fun y => if y = x then some v else g y := by
  refine ⟨fun p hp => ?_, fun y => by rw [mget_mset hk x y v h.keys, h.get], ?_⟩
  · rcases mem_mset p hp with h1 | h1
    · exact h.keys p h1
    · exact ⟨x, h1⟩
  · rw [mset_keys hk x v h.keys]
    split
    · exact h.uniq
    · rename_i hn
      exact List.nodup_append.2 ⟨h.uniq, List.pairwise_singleton _ _, fun a ha b hb e => hn (by rw [List.mem_singleton.1 hb] at e; exact e ▸ ha)⟩
theorem mget_none {key : Int → AV} (hk : KeyOf key) (y : Int) : ∀ {es : List (AV × AV)}, (∀ p ∈ es, ∃ x, p.1 = key x) → key y ∉ es.map (·.1) → mget es (key y) = none
  | [], _, _ => rfl
  | (k, u) :: es, h, hn => by
    obtain ⟨z, hz⟩ := h (k, u) (by simp)
    simp only at hz
    subst hz
    simp only [List.map_cons, List.mem_cons, not_or] at hn
    simp only [mget, hk.e]
    rw [show (y == z) = false by simpa using fun e => hn.1 (by rw [e])]
    exact mget_none hk y (fun p hp => h p (by simp [hp])) hn.2
theorem mget_mdel {key : Int → AV} (hk : KeyOf key) (x y : Int) : ∀ {es : List (AV × AV)}, (∀ p ∈ es, ∃ x, p.1 = key x) → (es.map (·.1)).Nodup → mget (mdel es (key x)) (key y) = if y = x then none else mget es (key y)
  | [], _, _ => by simp [mdel, mget]
  | (k, u) :: es, h, hu => by
    obtain ⟨z, hz⟩ := h (k, u) (by simp)
    simp only at hz
    subst hz
    simp only [List.map_cons, List.nodup_cons] at hu
    have ih := mget_mdel hk x y (es := es) (fun p hp => h p (by simp [hp])) hu.2
    simp only [mdel, hk.e]
    by_cases h1 : x = z
    · subst h1
      simp only [beq_self_eq_true, cond_true, mget, hk.e]
      by_cases h2 : y = x
      · subst h2
        rw [if_pos rfl]
        exact mget_none hk _ (fun p hp => h p (by simp [hp])) hu.1
      · rw [if_neg h2, show (y == x) = false by simpa using h2]; rfl
    · rw [show (x == z) = false by simpa using h1]
      simp only [cond_false, mget, hk.e]
      by_cases h2 : y = z
      · subst h2; simp [Ne.symm h1]
      · rw [show (y == z) = false by simpa using h2]
        simp only [cond_false]; exact ih
theorem mdel_sub (x : AV) : ∀ (es : List (AV × AV)), (mdel es x).Sublist es
  | [] => List.Sublist.slnil
  | (k, u) :: es => by
    simp only [mdel]
    cases eqKey x k
    · exact (mdel_sub x es).cons_cons _
    · exact List.sublist_cons_self _ _
theorem MapIs.del {key : Int → AV} (hk : KeyOf key) {es : List (AV × AV)} {g : Int → Option AV} (h : MapIs key es g) (x : Int) : MapIs key (mdel es (key x)) fun y => if y = x then none else g y :=
  ⟨fun p hp => h.keys p ((mdel_sub _ _).subset hp), fun y => by rw [mget_mdel hk x y h.keys h.uniq, h.get], ((mdel_sub _ _).map _).nodup h.uniq⟩
end Go.Ev.W

