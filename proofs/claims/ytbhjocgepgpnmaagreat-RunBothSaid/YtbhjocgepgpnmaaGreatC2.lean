/- Words and lemmas, part 2, for laws of this seat (a part of their proofs). -/
import Derived.Test.YtbhjocgepgpnmaaGreatC1
set_option linter.unusedVariables false
set_option linter.unusedSimpArgs false
namespace Go.Ev.W
open Go.Ev Go.Ev.N

def dget (y : Int) : List M → Option Int
  | [] => none
  | m :: ds => bif y == m.at' then some m.cl else dget y ds
def dset (x : M) : List M → List M
  | [] => [x]
  | m :: ds => bif x.at' == m.at' then x :: ds else m :: dset x ds
def ddel (y : Int) : List M → List M
  | [] => []
  | m :: ds => bif y == m.at' then ds else m :: ddel y ds
def encD (ds : List M) : List (AV × AV) := ds.map fun m => (.int .i64 m.at', .int .i64 m.cl)
theorem mget_encD (y : Int) : ∀ ds, mget (encD ds) (.int .i64 y) = (dget y ds).map fun c => .int .i64 c
  | [] => rfl
  | m :: ds => by
    show (bif (y == m.at') then some (AV.int .i64 m.cl) else mget (encD ds) (.int .i64 y)) = _
    unfold dget
    cases y == m.at' with
    | true => rfl
    | false => exact mget_encD y ds
theorem mset_encD (x : M) : ∀ ds, mset (encD ds) (.int .i64 x.at') (.int .i64 x.cl) = encD (dset x ds)
  | [] => rfl
  | m :: ds => by
    show (bif (x.at' == m.at') then (AV.int .i64 x.at', AV.int .i64 x.cl) :: encD ds else (AV.int .i64 m.at', AV.int .i64 m.cl) :: mset (encD ds) (.int .i64 x.at') (.int .i64 x.cl)) = _
    unfold dset
    cases x.at' == m.at' with
    | true => rfl
    | false => show _ :: _ = _; rw [mset_encD x ds]; rfl
theorem mdel_encD (y : Int) : ∀ ds, mdel (encD ds) (.int .i64 y) = encD (ddel y ds)
  | [] => rfl
  | m :: ds => by
    show (bif (y == m.at') then encD ds else (AV.int .i64 m.at', AV.int .i64 m.cl) :: mdel (encD ds) (.int .i64 y)) = _
    unfold ddel
    cases y == m.at' with
    | true => rfl
    | false => show _ :: _ = _; rw [mdel_encD y ds]; rfl

/-- A map's entries are a row's marks. -/
def Same (ds l : List M) : Prop := ds.Pairwise (fun a b => a.at' ≠ b.at') ∧ ∀ m, m ∈ ds ↔ m ∈ l
theorem dget_mem {y c : Int} : ∀ {ds : List M}, ds.Pairwise (fun a b => a.at' ≠ b.at') → (dget y ds = some c ↔ (⟨y, c⟩ : M) ∈ ds)
  | [], _ => by simp [dget]
  | m :: ds, h => by
    obtain ⟨h1, h2⟩ := List.pairwise_cons.1 h
    unfold dget
    cases he : y == m.at' with
    | true =>
      have he := eq_of_beq he
      subst he
      constructor
      · intro e; simp at e; subst e; cases m; simp
      · intro e
        rcases List.mem_cons.1 e with e | e
        · rw [← e]; rfl
        · exact absurd (rfl : m.at' = m.at') (h1 (⟨m.at', c⟩ : M) e)
    | false =>
      have hne : y ≠ m.at' := by simpa using he
      rw [cond_false, dget_mem h2]
      constructor
      · intro e; simp [e]
      · intro e
        rcases List.mem_cons.1 e with e | e
        · exact absurd (by rw [← e]) hne
        · exact e
theorem dset_mem {x : M} : ∀ {ds : List M}, ds.Pairwise (fun a b => a.at' ≠ b.at') → (dset x ds).Pairwise (fun a b => a.at' ≠ b.at') ∧ ∀ m, m ∈ dset x ds ↔ (m = x ∨ (m ∈ ds ∧ m.at' ≠ x.at'))
  | [], _ => by simp [dset]
  | a :: ds, h => by
    obtain ⟨h1, h2⟩ := List.pairwise_cons.1 h
    unfold dset
    cases he : x.at' == a.at' with
    | true =>
      have he := eq_of_beq he
      refine ⟨List.pairwise_cons.2 ⟨fun b hb => by rw [he]; exact h1 b hb, h2⟩, fun m => ?_⟩
      constructor
      · intro hm
        rcases List.mem_cons.1 hm with rfl | hm
        · exact .inl rfl
        · exact .inr ⟨by simp [hm], by rw [he]; exact (h1 m hm).symm⟩
      · rintro (rfl | ⟨hm, hne⟩)
        · simp
        · rcases List.mem_cons.1 hm with rfl | hm
          · exact absurd he.symm hne
          · simp [hm]
    | false =>
      have hne : x.at' ≠ a.at' := by simpa using he
      obtain ⟨i1, i2⟩ := dset_mem (x := x) h2
      refine ⟨List.pairwise_cons.2 ⟨fun b hb => ?_, i1⟩, fun m => ?_⟩
      · rcases (i2 b).1 hb with rfl | ⟨hb, _⟩
        · exact hne.symm
        · exact h1 b hb
      · constructor
        · intro hm
          rcases List.mem_cons.1 hm with rfl | hm
          · exact .inr ⟨by simp, hne.symm⟩
          · rcases (i2 m).1 hm with e | ⟨e1, e2⟩
            · exact .inl e
            · exact .inr ⟨by simp [e1], e2⟩
        · rintro (rfl | ⟨hm, hn⟩)
          · exact List.mem_cons_of_mem _ ((i2 _).2 (.inl rfl))
          · rcases List.mem_cons.1 hm with rfl | hm
            · simp
            · exact List.mem_cons_of_mem _ ((i2 _).2 (.inr ⟨hm, hn⟩))
theorem ddel_mem {y : Int} : ∀ {ds : List M}, ds.Pairwise (fun a b => a.at' ≠ b.at') → (ddel y ds).Pairwise (fun a b => a.at' ≠ b.at') ∧ ∀ m, m ∈ ddel y ds ↔ (m ∈ ds ∧ m.at' ≠ y)
  | [], _ => by simp [ddel]
  | a :: ds, h => by
    obtain ⟨h1, h2⟩ := List.pairwise_cons.1 h
    unfold ddel
    cases he : y == a.at' with
    | true =>
      have he := eq_of_beq he
      refine ⟨h2, fun m => ⟨fun hm => ⟨by simp [show m ∈ ds from hm], by rw [he]; exact (h1 m hm).symm⟩, fun ⟨hm, hne⟩ => ?_⟩⟩
      rcases List.mem_cons.1 hm with rfl | hm
      · exact absurd he.symm hne
      · exact hm
    | false =>
      have hne : y ≠ a.at' := by simpa using he
      obtain ⟨i1, i2⟩ := ddel_mem (y := y) h2
      refine ⟨List.pairwise_cons.2 ⟨fun b hb => h1 b ((i2 b).1 hb).1, i1⟩, fun m => ?_⟩
      constructor
      · intro hm
        rcases List.mem_cons.1 hm with rfl | hm
        · exact ⟨by simp, hne.symm⟩
        · exact ⟨List.mem_cons_of_mem _ ((i2 m).1 hm).1, ((i2 m).1 hm).2⟩
      · rintro ⟨hm, hn⟩
        rcases List.mem_cons.1 hm with rfl | hm
        · simp
        · exact List.mem_cons_of_mem _ ((i2 m).2 ⟨hm, hn⟩)

theorem rise_nodup {l : List M} (hr : Rise l) : l.Pairwise (fun a b => a.at' ≠ b.at') := hr.imp fun h => by omega
theorem nodup_at {l : List M} (h : l.Pairwise (fun a b => a.at' ≠ b.at')) : l.Nodup := h.imp fun hne e => hne (by rw [e])
theorem Same.len {ds l : List M} (s : Same ds l) (hr : Rise l) : ds.length = l.length :=
  ((List.perm_ext_iff_of_nodup (nodup_at s.1) (nodup_at (rise_nodup hr))).2 s.2).length_eq

/-- What stands at a place, and what there is. -/
theorem cls_mem {l : List M} (hr : Rise l) {y c : Int} : (isAt y l = true ∧ clsM l y = c) ↔ (⟨y, c⟩ : M) ∈ l := by
  constructor
  · rintro ⟨h1, h2⟩
    obtain ⟨x, hx, he⟩ := isAt_get h1
    unfold clsM at h2
    rw [hx] at h2
    have := List.mem_of_getElem? hx
    have hx' : x = ⟨y, c⟩ := by cases x; simp at he h2; rw [he, h2]
    rw [← hx']; exact this
  · intro h
    obtain ⟨k, hk, e⟩ := List.mem_iff_getElem.1 h
    have h3 := (low_at (y := y) hr hk).1 (by rw [e])
    refine ⟨h3.2, ?_⟩
    unfold clsM
    rw [← h3.1, List.getElem?_eq_getElem hk, e]
theorem mem_putM {l : List M} (hr : Rise l) (x : M) : ∀ m, m ∈ putM l x ↔ (m = x ∨ (m ∈ l ∧ m.at' ≠ x.at')) := by
  intro m
  have hle := low_le x.at' l
  have other : ∀ {k : Nat} (hk : k < l.length), (isAt x.at' l = true ∧ k = low x.at' l) ↔ (l[k]).at' = x.at' := fun hk => by rw [low_at hr hk]; exact ⟨fun ⟨a, b⟩ => ⟨b, a⟩, fun ⟨a, b⟩ => ⟨b, a⟩⟩
  unfold putM
  split
  · rename_i h
    have hlt := isAt_lt h
    rw [List.mem_iff_getElem]
    constructor
    · rintro ⟨k, hk, e⟩
      rw [List.length_set] at hk
      rw [List.getElem_set] at e
      split at e
      · exact .inl e.symm
      · rename_i hne
        refine .inr ⟨by rw [← e]; exact List.getElem_mem _, fun e2 => hne ?_⟩
        rw [← e] at e2
        exact ((other hk).2 e2).2.symm
    · rintro (rfl | ⟨hm, hne⟩)
      · exact ⟨low m.at' l, by simpa using hlt, by simp⟩
      · obtain ⟨k, hk, e⟩ := List.mem_iff_getElem.1 hm
        refine ⟨k, by simpa using hk, ?_⟩
        rw [List.getElem_set]
        split
        · rename_i h4
          exact absurd (by rw [← e]; exact (other hk).1 ⟨h, h4.symm⟩) hne
        · exact e
  · rename_i h
    have h : isAt x.at' l = false := by simpa using h
    have all : m ∈ l ↔ (m ∈ l.take (low x.at' l) ∨ m ∈ l.drop (low x.at' l)) := by
      rw [← List.mem_append, List.take_append_drop]
    have ne : m ∈ l → m.at' ≠ x.at' := by
      intro hm e
      obtain ⟨k, hk, e'⟩ := List.mem_iff_getElem.1 hm
      have := ((other hk).2 (by rw [e', e])).1
      rw [h] at this; cases this
    rw [List.mem_append, List.mem_cons]
    constructor
    · rintro (a | a | a)
      · exact .inr ⟨all.2 (.inl a), ne (all.2 (.inl a))⟩
      · exact .inl a
      · exact .inr ⟨all.2 (.inr a), ne (all.2 (.inr a))⟩
    · rintro (a | ⟨a, _⟩)
      · exact .inr (.inl a)
      · rcases all.1 a with a | a
        · exact .inl a
        · exact .inr (.inr a)
theorem mem_takeM {l : List M} (hr : Rise l) {y : Int} (h : isAt y l = true) : ∀ m, m ∈ takeM l y ↔ (m ∈ l ∧ m.at' ≠ y) := by
  intro m
  have hlt := isAt_lt h
  have hy := (low_at (y := y) hr hlt).2 ⟨rfl, h⟩
  have split' : l = l.take (low y l) ++ l[low y l] :: l.drop (low y l + 1) := by rw [← List.drop_eq_getElem_cons hlt, List.take_append_drop]
  have nd : l.Pairwise (fun a b => a.at' ≠ b.at') := rise_nodup hr
  rw [split'] at nd
  obtain ⟨n1, n2, n3⟩ := List.pairwise_append.1 nd
  obtain ⟨n4, n5⟩ := List.pairwise_cons.1 n2
  have hm : m ∈ l ↔ (m ∈ l.take (low y l) ∨ m = l[low y l] ∨ m ∈ l.drop (low y l + 1)) := by
    conv => lhs; rw [split']
    rw [List.mem_append, List.mem_cons]
  unfold takeM
  rw [List.mem_append, hm]
  constructor
  · rintro (a | a)
    · exact ⟨.inl a, fun e => n3 m a _ (List.mem_cons_self ..) (by rw [e, hy])⟩
    · exact ⟨.inr (.inr a), fun e => n4 m a (by rw [e, hy])⟩
  · rintro ⟨a | a | a, hne⟩
    · exact .inl a
    · exact absurd (by rw [a, hy]) hne
    · exact .inr a
theorem rise_take {l : List M} (hr : Rise l) (y : Int) : Rise (takeM l y) := by
  unfold takeM
  refine List.Pairwise.sublist ?_ hr
  conv => rhs; rw [← List.take_append_drop (low y l) l]
  refine List.Sublist.append_left ?_ _
  rw [← List.drop_drop]
  exact List.drop_sublist _ _
theorem Same.put {ds l : List M} (s : Same ds l) (hr : Rise l) (x : M) : Same (dset x ds) (putM l x) := by
  obtain ⟨i1, i2⟩ := dset_mem (x := x) s.1
  exact ⟨i1, fun m => by rw [i2, mem_putM hr, s.2]⟩
theorem Same.take {ds l : List M} (s : Same ds l) (hr : Rise l) {y : Int} (h : isAt y l = true) : Same (ddel y ds) (takeM l y) := by
  obtain ⟨i1, i2⟩ := ddel_mem (y := y) s.1
  exact ⟨i1, fun m => by rw [i2, mem_takeM hr h, s.2]⟩
theorem Same.no {ds l : List M} (s : Same ds l) (hr : Rise l) {y : Int} (h : isAt y l = false) : Same (ddel y ds) l := by
  obtain ⟨i1, i2⟩ := ddel_mem (y := y) s.1
  refine ⟨i1, fun m => ?_⟩
  rw [i2, s.2]
  refine ⟨fun a => a.1, fun a => ⟨a, fun e => ?_⟩⟩
  have := (cls_mem (y := y) (c := m.cl) hr).2 (by rw [← e]; exact a)
  rw [h] at this; cases this.1
/-- What the map tells is what stands there. -/
theorem Same.get {ds l : List M} (s : Same ds l) (hr : Rise l) (y : Int) : dget y ds = if isAt y l = true then some (clsM l y) else none := by
  split
  · rename_i h
    exact (dget_mem s.1).2 ((s.2 _).2 ((cls_mem hr).1 ⟨h, rfl⟩))
  · rename_i h
    cases hg : dget y ds with
    | none => rfl
    | some c => exact absurd ((cls_mem hr).2 ((s.2 _).1 ((dget_mem s.1).1 hg))).1 h
end Go.Ev.W
namespace Go.Ev.W
open Go.Ev Go.Ev.N
theorem Get.of {es : List (AV × AV)} {k : AV} {P : Option AV → Prop} {m v : Option AV} (h : m = v) (p : P v) : Get es k P m := ⟨h ▸ p⟩
/-- Keys that are told apart by a number. -/
def KeyOf (key : Int → AV) : Prop := ∀ x y, eqKey (key x) (key y) = (x == y)
theorem KeyOf.e {key : Int → AV} (h : KeyOf key) (x y : Int) : eqKey (key x) (key y) = (x == y) := h x y
theorem KeyOf.inj {key : Int → AV} (h : KeyOf key) {x y : Int} (e : key x = key y) : x = y := by
  have := h x y; rw [e, h y y] at this; simpa using this
/-- What a map says, by numbers. -/
structure MapIs (key : Int → AV) (es : List (AV × AV)) (g : Int → Option AV) : Prop where
  keys : ∀ p ∈ es, ∃ x, p.1 = key x
  get : ∀ y, mget es (key y) = g y
  uniq : (es.map (·.1)).Nodup
theorem MapIs.nil (key : Int → AV) : MapIs key [] fun _ => none := ⟨fun p h => by simp at h, fun _ => rfl, List.nodup_nil⟩
theorem mget_mset {key : Int → AV} (hk : KeyOf key) (x y : Int) (v : AV) : ∀ {es : List (AV × AV)}, (∀ p ∈ es, ∃ x, p.1 = key x) → mget (mset es (key x) v) (key y) = if y = x then some v else mget es (key y)
  | [], _ => by
    simp only [mset, mget, hk.e]
    by_cases h : y = x
    · simp [h]
    · rw [show (y == x) = false by simpa using h]; simp [h]
  | (k, u) :: es, h => by
    obtain ⟨z, hz⟩ := h (k, u) (by simp)
    simp only at hz
    subst hz
    have ih := mget_mset hk x y v (es := es) fun p hp => h p (by simp [hp])
    simp only [mset, hk.e]
    by_cases h1 : x = z
    · subst h1
      simp only [beq_self_eq_true, cond_true, mget, hk.e]
      by_cases h2 : y = x
      · simp [h2]
      · rw [show (y == x) = false by simpa using h2]; simp [h2]
    · rw [show (x == z) = false by simpa using h1]
      simp only [cond_false, mget, hk.e]
      by_cases h2 : y = z
      · subst h2
        simp [Ne.symm h1]
      · rw [show (y == z) = false by simpa using h2]
        simp only [cond_false]; exact ih
open Classical in
theorem mset_keys {key : Int → AV} (hk : KeyOf key) (x : Int) (v : AV) : ∀ {es : List (AV × AV)}, (∀ p ∈ es, ∃ x, p.1 = key x) → (mset es (key x) v).map (·.1) = if key x ∈ es.map (·.1) then es.map (·.1) else es.map (·.1) ++ [key x]
  | [], _ => by simp [mset]
  | (k, u) :: es, h => by
    obtain ⟨z, hz⟩ := h (k, u) (by simp)
    simp only at hz
    subst hz
    have ih := mset_keys hk x v (es := es) fun p hp => h p (by simp [hp])
    simp only [mset, hk.e]
    by_cases h1 : x = z
    · subst h1; simp
    · rw [show (x == z) = false by simpa using h1]
      simp only [cond_false, List.map_cons, ih, List.mem_cons]
      have : key x ≠ key z := fun e => h1 (hk.inj e)
      by_cases h2 : key x ∈ es.map (·.1)
      · rw [if_pos h2, if_pos (.inr h2)]
      · rw [if_neg h2, if_neg (by rintro (h | h) <;> contradiction)]; rfl
theorem MapIs.set {key : Int → AV} (hk : KeyOf key) {es : List (AV × AV)} {g : Int → Option AV} (h : MapIs key es g) (x : Int) (v : AV) : MapIs key (mset es (key x) v) fun y => if y = x then some v else g y := by
  refine ⟨fun p hp => ?_, fun y => by rw [mget_mset hk x y v h.keys, h.get], ?_⟩
  · rcases mem_mset p hp with h1 | h1
    · exact h.keys p h1
    · exact ⟨x, h1⟩
  · rw [mset_keys hk x v h.keys]
    split
    · exact h.uniq
    · rename_i hn
      exact List.nodup_append.2 ⟨h.uniq, List.pairwise_singleton _ _, fun a ha b hb e => hn (by rw [List.mem_singleton.1 hb] at e; exact e ▸ ha)⟩
theorem mget_none {key : Int → AV} (hk : KeyOf key) (y : Int) : ∀ {es : List (AV × AV)}, (∀ p ∈ es, ∃ x, p.1 = key x) → key y ∉ es.map (·.1) → mget es (key y) = none
  | [], _, _ => rfl
  | (k, u) :: es, h, hn => by
    obtain ⟨z, hz⟩ := h (k, u) (by simp)
    simp only at hz
    subst hz
    simp only [List.map_cons, List.mem_cons, not_or] at hn
    simp only [mget, hk.e]
    rw [show (y == z) = false by simpa using fun e => hn.1 (by rw [e])]
    exact mget_none hk y (fun p hp => h p (by simp [hp])) hn.2
theorem mget_mdel {key : Int → AV} (hk : KeyOf key) (x y : Int) : ∀ {es : List (AV × AV)}, (∀ p ∈ es, ∃ x, p.1 = key x) → (es.map (·.1)).Nodup → mget (mdel es (key x)) (key y) = if y = x then none else mget es (key y)
  | [], _, _ => by simp [mdel, mget]
  | (k, u) :: es, h, hu => by
    obtain ⟨z, hz⟩ := h (k, u) (by simp)
    simp only at hz
    subst hz
    simp only [List.map_cons, List.nodup_cons] at hu
    have ih := mget_mdel hk x y (es := es) (fun p hp => h p (by simp [hp])) hu.2
    simp only [mdel, hk.e]
    by_cases h1 : x = z
    · subst h1
      simp only [beq_self_eq_true, cond_true, mget, hk.e]
      by_cases h2 : y = x
      · subst h2
        rw [if_pos rfl]
        exact mget_none hk _ (fun p hp => h p (by simp [hp])) hu.1
      · rw [if_neg h2, show (y == x) = false by simpa using h2]; rfl
    · rw [show (x == z) = false by simpa using h1]
      simp only [cond_false, mget, hk.e]
      by_cases h2 : y = z
      · subst h2; simp [Ne.symm h1]
      · rw [show (y == z) = false by simpa using h2]
        simp only [cond_false]; exact ih
theorem mdel_sub (x : AV) : ∀ (es : List (AV × AV)), (mdel es x).Sublist es
  | [] => List.Sublist.slnil
  | (k, u) :: es => by
    simp only [mdel]
    cases eqKey x k
    · exact (mdel_sub x es).cons_cons _
    · exact List.sublist_cons_self _ _
theorem MapIs.del {key : Int → AV} (hk : KeyOf key) {es : List (AV × AV)} {g : Int → Option AV} (h : MapIs key es g) (x : Int) : MapIs key (mdel es (key x)) fun y => if y = x then none else g y :=
  ⟨fun p hp => h.keys p ((mdel_sub _ _).subset hp), fun y => by rw [mget_mdel hk x y h.keys h.uniq, h.get], ((mdel_sub _ _).map _).nodup h.uniq⟩
end Go.Ev.W
namespace Go.Ev.W
open Go.Ev Go.Ev.N

def lM (l : List M) : AV := .lst t_api_Mark (l.map encM)
set_option maxHeartbeats 4000000 in
theorem putZ (l : List M) (hr : Rise l) (m : M) (hl : l.length ≤ 1000000) : Told P T side_Put [] [lM l, encM m] (lM (putM l m)) [] := by
  have hml : (l.map encM).length = l.length := by simp
  refine told_of_ev (fn := side_Put_fn) tabOk mixed (by kernel_rfl) (by kernel_rfl) (by kernel_rfl) (by kernel_rfl) ?_
  (refine gw ?_; refine Choice.mk ⟨false, Choice.mk ⟨false, _, _, clone_Mark (l.map encM) (by omega), ?_⟩⟩)
  (refine gw ?_; refine Choice.mk ⟨false, Choice.mk ⟨false, _, _, find_told l hr m.at' hl, ?_⟩⟩)
  refine IfB.mk (fun h1 => ?_) (fun h1 => ?_)
  · have hlt := isAt_lt h1
    (refine gw ?_; refine RetN.fz ⟨[true], [], rfl, ?_, rfl⟩)
    show AV.lst t_api_Mark ((l.map encM).set (low m.at' l) (encM m)) = _
    rw [lM, putM, if_pos h1, List.map_set]
  · have h1 : isAt m.at' l = false := h1
    have hi := insert_Mark (l.map encM) (encM m) (low m.at' l) (by rw [hml]; exact low_le _ _) (by omega)
    (refine gw ?_; refine Choice.mk ⟨true, Choice.mk ⟨false, _, _, hi, ?_⟩⟩)
    (refine gw ?_; refine RetN.fz ⟨[true], [], rfl, ?_, rfl⟩)
    show AV.lst t_api_Mark ((l.map encM).take (low m.at' l) ++ (encM m :: (l.map encM).drop (low m.at' l))) = _
    rw [lM, putM, if_neg (by rw [h1]; decide)]
    simp [List.map_take, List.map_drop]
set_option maxHeartbeats 4000000 in
theorem takeZ (l : List M) (hr : Rise l) (y : Int) (hl : l.length ≤ 1000000) : Told P T side_Take [] [lM l, i64 y] (.tup [lM (if isAt y l = true then takeM l y else l), i64 (if isAt y l = true then clsM l y else 0), .bool (isAt y l)]) [] := by
  have hml : (l.map encM).length = l.length := by simp
  refine told_of_ev (fn := side_Take_fn) tabOk mixed (by kernel_rfl) (by kernel_rfl) (by kernel_rfl) (by kernel_rfl) ?_
  (refine gw ?_; refine Choice.mk ⟨false, Choice.mk ⟨false, _, _, clone_Mark (l.map encM) (by omega), ?_⟩⟩)
  (refine gw ?_; refine Choice.mk ⟨false, Choice.mk ⟨false, _, _, find_told l hr y hl, ?_⟩⟩)
  cases h : isAt y l with
  | false =>
    (refine gw ?_; exact RetN.fz ⟨[true, true, true], [], rfl, rfl, rfl⟩)
  | true =>
    have hlt := isAt_lt h
    (refine gw ?_; refine Choice.mk ⟨true, Choice.mk ⟨false, _, _, delete_Mark (l.map encM) (low y l) (by omega) (by omega), ?_⟩⟩)
    (refine gw ?_; refine idx_map (hlt) ?_)
    (refine gw ?_; refine RetN.fz ⟨[true, true, true], [], rfl, ?_, rfl⟩)
    have e : clsM l y = (l[low y l]).cl := by unfold clsM; rw [List.getElem?_eq_getElem hlt]
    rw [if_pos rfl, if_pos rfl, e]
    show AV.tup [AV.lst t_api_Mark ((((l.map encM).take (low y l) ++ ((l.map encM).drop (low y l + 1) ++ [zeroE T t_api_Mark])).drop 0).take ((l.map encM).length - 1)), i64 (l[low y l]).cl, AV.bool true] = _
    rw [List.drop_zero, ← List.append_assoc, List.take_append_of_le_length (by simp; omega), List.take_of_length_le (by simp; omega)]
    simp [lM, takeM]
end Go.Ev.W
namespace Go.Ev.W
open Go.Ev Go.Ev.N

/-- An engine: granules of G bytes. -/
def eE (G g c : Nat) (b : Nat → Bool) (l : List M) : AV := .agg [i64 G, .lst t_api_Tree (tL g c b), .lst t_api_Mark (l.map encM)]
def eN : AV := .agg [i64 0, .lst t_api_Tree [], .lst t_api_Mark []]
def placeB (g c : Nat) (b : Nat → Bool) (cl : Int) : Nat → Bool := match lowS g c b cl with
  | some i => setZ b (i * 2 ^ cl.toNat : Nat) (2 ^ cl.toNat : Nat) true
  | none => b
def placeL (G g c : Nat) (b : Nat → Bool) (l : List M) (cl : Int) : List M := match lowS g c b cl with
  | some i => putM l ⟨(i * 2 ^ cl.toNat * G : Nat), cl⟩
  | none => l
def placeA (G g c : Nat) (b : Nat → Bool) (cl : Int) : Int := match lowS g c b cl with
  | some i => (i * 2 ^ cl.toNat * G : Nat)
  | none => 0
def relB (G : Nat) (b : Nat → Bool) (l : List M) (y : Int) : Nat → Bool := if isAt y l = true then setZ b (y.toNat / G : Nat) (2 ^ (clsM l y).toNat : Nat) false else b
def relL (l : List M) (y : Int) : List M := if isAt y l = true then takeM l y else l
def relK (l : List M) (y : Int) : Int := if isAt y l = true then clsM l y else 0
/-- What is needed of an engine that calls are told. -/
structure EgOk (G g c : Nat) (l : List M) : Prop where
  sl : SlOk g c
  g1 : 1 ≤ G
  gG : g * G ≤ 65536
  rise : Rise l
  mks : ∀ m ∈ l, 0 ≤ m.cl ∧ m.cl < c ∧ 0 ≤ m.at' ∧ m.at' ≤ 65536
  len : l.length ≤ 65536
theorem lowS_lt {g c : Nat} (h : SlOk g c) {b : Nat → Bool} {cl : Int} {i : Nat} (hi : lowS g c b cl = some i) : ∃ k : Nat, cl = k ∧ k < c ∧ i < g / 2 ^ k ∧ upB b k i = false ∧ ∀ j, j < i → upB b k j = true := by
  unfold lowS at hi
  split at hi
  · rename_i hc
    obtain ⟨k, rfl⟩ : ∃ k : Nat, cl = k := ⟨cl.toNat, by omega⟩
    rw [Int.toNat_natCast] at hi
    have hz := h.sz (k := k) (by omega)
    refine ⟨k, rfl, by omega, ?_⟩
    rcases firI_spec (n := g / 2 ^ k) (b := upB b k) (f := 0) (by omega) with ⟨h2, _⟩ | ⟨j, h2, _, h4, h5, h6⟩
    · have h2 : firI (g / 2 ^ k) (upB b k) 0 = none := h2
      rw [hi] at h2; cases h2
    · have h2 : firI (g / 2 ^ k) (upB b k) 0 = some j := h2
      rw [hi] at h2
      injection h2 with e
      subst e
      exact ⟨h4, h5, fun x hx => h6 x (by omega) hx⟩
  · cases hi
theorem sz_bound {G g c k i : Nat} (h : SlOk g c) (hG : g * G ≤ 65536) (hk : k < c) (hi : i < g / 2 ^ k) : i * 2 ^ k + 2 ^ k ≤ g ∧ i * 2 ^ k * G + 2 ^ k * G ≤ 65536 ∧ 1 ≤ 2 ^ k ∧ 2 ^ k ≤ 65536 := by
  have hz := h.sz hk
  have h1 : i * 2 ^ k + 2 ^ k ≤ g := by
    have : (i + 1) * 2 ^ k ≤ g / 2 ^ k * 2 ^ k := Nat.mul_le_mul_right _ (by omega)
    rw [hz.2.2, Nat.add_mul, Nat.one_mul] at this
    exact this
  refine ⟨h1, ?_, Nat.one_le_two_pow, ?_⟩
  · rw [← Nat.add_mul]
    exact Nat.le_trans (Nat.mul_le_mul_right G h1) hG
  · exact Nat.le_trans (Nat.le_trans (Nat.le_add_left _ _) h1) h.g2
theorem placeL_ok {G g c : Nat} {b : Nat → Bool} {l : List M} (h : EgOk G g c l) (hl : l.length < 65536) (cl : Int) : EgOk G g c (placeL G g c b l cl) := by
  unfold placeL
  cases hi : lowS g c b cl with
  | none => exact h
  | some i =>
    obtain ⟨k, rfl, hk, hik, _, _⟩ := lowS_lt h.sl hi
    have hb := sz_bound h.sl h.gG hk hik
    simp only
    rw [Int.toNat_natCast]
    refine ⟨h.sl, h.g1, h.gG, rise_put h.rise _, fun m hm => ?_, by have := putM_len l ⟨(i * 2 ^ k * G : Nat), k⟩; omega⟩
    rcases (mem_putM h.rise _ m).1 hm with rfl | ⟨hm, _⟩
    · simp only
      exact ⟨by omega, by omega, by omega, by omega⟩
    · exact h.mks m hm
theorem relL_ok {G g c : Nat} {l : List M} (h : EgOk G g c l) (y : Int) : EgOk G g c (relL l y) := by
  unfold relL
  split
  · rename_i hi
    refine ⟨h.sl, h.g1, h.gG, rise_take h.rise y, fun m hm => h.mks m ((mem_takeM h.rise hi m).1 hm).1, ?_⟩
    have := h.len
    unfold takeM
    simp
    omega
  · exact h
theorem relL_at {G g c : Nat} {l : List M} (h : EgOk G g c l) {y : Int} (hy : isAt y l = true) : 0 ≤ y ∧ y ≤ 65536 ∧ 0 ≤ clsM l y ∧ clsM l y < c := by
  have hm := (cls_mem h.rise (y := y) (c := clsM l y)).1 ⟨hy, rfl⟩
  have := h.mks _ hm
  exact ⟨this.2.2.1, this.2.2.2, this.1, this.2.1⟩
end Go.Ev.W
namespace Go.Ev.W
open Go.Ev Go.Ev.N

theorem shlG {i k : Nat} (hk : k ≤ 16) : ((i : Nat) : Int) * 2 ^ min ((k : Nat) : Int).toNat IntKind.i64.bits = ((i * 2 ^ k : Nat) : Int) := by
  rw [Int.toNat_natCast, show min k IntKind.i64.bits = k from Nat.min_eq_left (by show k ≤ 64; omega)]
  simp
theorem plTwin_told {G g c : Nat} {b : Nat → Bool} {l : List M} (h : EgOk G g c l) : Told P T place_twin [] [eE G g c b l] (eE G g c b l) [] := by
  have hml : (l.map encM).length = l.length := by simp
  have hl := h.len
  have c1 := slUse_told h.sl b 0 0 (by omega) (by omega) true
  rw [setZ_none] at c1
  have c1 : Told P T slots_Use [] [eS g c b, i64 0, i64 0, .bool true] (eS g c b) [] := c1
  refine told_of_ev (fn := place_twin_fn) tabOk mixed (by kernel_rfl) (by kernel_rfl) (by kernel_rfl) (by kernel_rfl) ?_
  (refine gw ?_; refine Choice.mk ⟨false, Choice.mk ⟨false, _, _, c1, ?_⟩⟩)
  (refine gw ?_; refine Choice.mk ⟨false, Choice.mk ⟨false, _, _, clone_Mark (l.map encM) (by omega), ?_⟩⟩)
  (refine gw ?_)
  exact RetN.fz ⟨[true], [], rfl, rfl, rfl⟩
set_option maxHeartbeats 1000000 in
theorem plPlace_told {G g c : Nat} {b : Nat → Bool} {l : List M} (h : EgOk G g c l) (cl : Int) (hcl : -9223372036854775808 ≤ cl ∧ cl ≤ 9223372036854775807) :
    Told P T place_Place [] [eE G g c b l, i64 cl] (.tup [eE G g c (placeB g c b cl) (placeL G g c b l cl), i64 (placeA G g c b cl), .bool (lowS g c b cl).isSome]) [] := by
  have c1 := slLowest_told h.sl b cl hcl
  have c2 := plTwin_told h (b := b)
  have hml : (l.map encM).length = l.length := by simp
  have hl := h.len
  unfold placeB placeL placeA
  cases hi : lowS g c b cl with
  | none =>
    rw [hi] at c1
    refine told_of_ev (fn := place_Place_fn) tabOk mixed (by kernel_rfl) (by kernel_rfl) (by kernel_rfl) (by kernel_rfl) ?_
    (refine gw ?_; refine Choice.mk ⟨false, Choice.mk ⟨false, _, _, c1, ?_⟩⟩)
    (refine gw ?_; refine Choice.mk ⟨false, Choice.mk ⟨false, _, _, c2, ?_⟩⟩)
    (refine gw ?_; exact RetN.mk ⟨[], rfl, rfl, rfl⟩)
  | some i =>
    rw [hi] at c1
    obtain ⟨k, rfl, hk, hik, _, _⟩ := lowS_lt h.sl hi
    have hb := sz_bound h.sl h.gG hk hik
    have hg2 := h.sl.g2
    have h17 := h.sl.c17
    simp only [Int.toNat_natCast]
    have hs1 := shlG (i := i) (k := k) (by omega)
    have hs2 := shlI (k := k) (by omega)
    have c3 := slUse_told h.sl b (i * 2 ^ k : Nat) (2 ^ k : Nat) (by omega) (by omega) true
    have c4 := putZ l h.rise ⟨(i * 2 ^ k * G : Nat), k⟩ (by omega)
    have hG : ((i * 2 ^ k : Nat) : Int) * (G : Int) = ((i * 2 ^ k * G : Nat) : Int) := (Int.natCast_mul _ G).symm
    have hle : i * 2 ^ k ≤ 65536 := by omega
    generalize i * 2 ^ k * G = a at *
    generalize i * 2 ^ k = f at *
    generalize 2 ^ k = n at *
    refine told_of_ev (fn := place_Place_fn) tabOk mixed (by kernel_rfl) (by kernel_rfl) (by kernel_rfl) (by kernel_rfl) ?_
    (refine gw ?_; refine Choice.mk ⟨false, Choice.mk ⟨false, _, _, c1, ?_⟩⟩)
    (refine gw ?_)
    rw [hs1]
    (refine gw ?_)
    rw [hG]
    (refine gw ?_)
    rw [hs1]
    (refine gw ?_)
    rw [hs2]
    (refine gw ?_; refine Choice.mk ⟨false, Choice.mk ⟨false, _, _, c3, ?_⟩⟩)
    (refine gw ?_; refine Choice.mk ⟨false, Choice.mk ⟨false, _, _, c4, ?_⟩⟩)
    (refine gw ?_; exact RetN.mk ⟨[], rfl, rfl, rfl⟩)
set_option maxHeartbeats 1000000 in
theorem plRel_told {G g c : Nat} {b : Nat → Bool} {l : List M} (h : EgOk G g c l) (y : Int) (hy : -9223372036854775808 ≤ y ∧ y ≤ 9223372036854775807) :
    Told P T place_Release [] [eE G g c b l, i64 y] (.tup [eE G g c (relB G b l y) (relL l y), i64 (relK l y), .bool (isAt y l)]) [] := by
  have c1 := takeZ l h.rise y (by have := h.len; omega)
  have c2 := plTwin_told h (b := b)
  have htl := tL_len g c b
  unfold relB relL relK
  cases hi : isAt y l with
  | false =>
    rw [hi] at c1
    refine told_of_ev (fn := place_Release_fn) tabOk mixed (by kernel_rfl) (by kernel_rfl) (by kernel_rfl) (by kernel_rfl) ?_
    (refine gw ?_; refine Choice.mk ⟨false, Choice.mk ⟨false, _, _, c1, ?_⟩⟩)
    (refine gw ?_; refine Choice.mk ⟨false, Choice.mk ⟨false, _, _, c2, ?_⟩⟩)
    (refine gw ?_; exact RetN.mk ⟨[], rfl, rfl, rfl⟩)
  | true =>
    rw [hi] at c1
    obtain ⟨y1, y2, y3, y4⟩ := relL_at h hi
    obtain ⟨a, rfl⟩ : ∃ a : Nat, y = a := ⟨y.toNat, by omega⟩
    have hg1 := h.g1
    have hg2 := h.sl.g2
    have h17 := h.sl.c17
    simp only [if_true] at c1 ⊢
    generalize takeM l a = l2 at *
    obtain ⟨k, hk⟩ : ∃ k : Nat, clsM l a = k := ⟨(clsM l a).toNat, by omega⟩
    rw [hk] at c1 y4 ⊢
    simp only [Int.toNat_natCast]
    have hs2 := shlI (k := k) (by omega)
    have hdv : ((a : Nat) : Int).tdiv (G : Int) = ((a / G : Nat) : Int) := (Int.ofNat_tdiv a G).symm
    have hdl : a / G ≤ a := Nat.div_le_self a G
    have hp2 : 2 ^ k ≤ 2 ^ 16 := Nat.pow_le_pow_right (by omega) (by omega)
    generalize a / G = f at *
    generalize 2 ^ k = n at *
    have c3 := slUse_told h.sl b f n (by omega) (by omega) false
    have hGne : ((G : Nat) : Int) ≠ 0 := by omega
    refine told_of_ev (fn := place_Release_fn) tabOk mixed (by kernel_rfl) (by kernel_rfl) (by kernel_rfl) (by kernel_rfl) ?_
    (refine gw ?_; refine Choice.mk ⟨false, Choice.mk ⟨false, _, _, c1, ?_⟩⟩)
    (refine gw ?_; refine IfB.ff (by simp; omega) ?_)
    (refine gw ?_; refine IfB.ff (by rw [htl]; simp; omega) ?_)
    (refine gw ?_)
    rw [hdv]
    (refine gw ?_)
    rw [hs2]
    (refine gw ?_; refine Choice.mk ⟨false, Choice.mk ⟨false, _, _, c3, ?_⟩⟩)
    (refine gw ?_; exact RetN.mk ⟨[], rfl, rfl, rfl⟩)
end Go.Ev.W
namespace Go.Ev.W
open Go.Ev Go.Ev.N

theorem pow2_bit {n : Nat} (h : 1 ≤ n) : n &&& (n - 1) = 0 ↔ n = 2 ^ Nat.log2 n := by
  have h1 : 2 ^ Nat.log2 n ≤ n := Nat.log2_self_le (by omega)
  have h2 : n < 2 ^ (Nat.log2 n + 1) := Nat.lt_log2_self
  constructor
  · intro h0
    by_cases e : n = 2 ^ Nat.log2 n
    · exact e
    · exfalso
      have hb1 : n.testBit (Nat.log2 n) = true := by
        rw [Nat.testBit_eq_decide_div_mod_eq]
        refine decide_eq_true ?_
        have : n / 2 ^ Nat.log2 n = 1 := by
          rw [Nat.pow_succ] at h2
          exact Nat.div_eq_of_lt_le (by omega) (by omega)
        rw [this]
      have hb2 : (n - 1).testBit (Nat.log2 n) = true := by
        rw [Nat.testBit_eq_decide_div_mod_eq]
        refine decide_eq_true ?_
        have : (n - 1) / 2 ^ Nat.log2 n = 1 := by
          rw [Nat.pow_succ] at h2
          exact Nat.div_eq_of_lt_le (by omega) (by omega)
        rw [this]
      have : (n &&& (n - 1)).testBit (Nat.log2 n) = true := by rw [Nat.testBit_and, hb1, hb2]; rfl
      rw [h0, Nat.zero_testBit] at this
      cases this
  · intro e
    generalize Nat.log2 n = k at *
    subst e
    rw [Nat.and_two_pow_sub_one_eq_mod, Nat.mod_self]
end Go.Ev.W
namespace Go.Ev.W
open Go.Ev Go.Ev.N

def sNw (g c : Int) : List AV := if SlOkI g c then tL g.toNat c.toNat offB else []
theorem sNw_told {g c : Int} (hg : -9223372036854775808 ≤ g ∧ g ≤ 9223372036854775807) (hc : -9223372036854775808 ≤ c ∧ c ≤ 9223372036854775807) : Told P T slots_New [] [i64 g, i64 c] (.agg [.lst t_api_Tree (sNw g c)]) [] := by
  unfold sNw
  by_cases h : SlOkI g c
  · rw [if_pos h]
    obtain ⟨n, rfl⟩ : ∃ n : Nat, g = n := ⟨g.toNat, by have := h.2.2.1; omega⟩
    obtain ⟨k, rfl⟩ : ∃ k : Nat, c = k := ⟨c.toNat, by have := h.1; omega⟩
    exact slNew_told h.ok
  · rw [if_neg h]
    exact slNewNo_told h hg hc
theorem sNw_len (g c : Int) : (sNw g c).length = if SlOkI g c then c.toNat else 0 := by
  unfold sNw
  split
  · rw [tL_len]
  · rfl
/-- May there be such an engine? -/
def NwOk (G g c : Int) : Prop := (1 ≤ G ∧ G ≤ 65536 ∧ G.toNat = 2 ^ Nat.log2 G.toNat) ∧ SlOkI g c ∧ g ≤ ((65536 / G.toNat : Nat) : Int)
instance (G g c : Int) : Decidable (NwOk G g c) := by unfold NwOk; infer_instance
def nwE (G g c : Int) : AV := if NwOk G g c then eE G.toNat g.toNat c.toNat offB [] else eN
theorem and_pred {n : Nat} (h : 1 ≤ n) (h2 : n ≤ 65536) : bitsOp .and .i64 (n : Int) ((n : Int) - 1) = ((n &&& (n - 1) : Nat) : Int) := by
  rw [show ((n : Nat) : Int) - 1 = ((n - 1 : Nat) : Int) by omega]
  exact and64i (by omega) (by omega)
theorem NwOk.eg {G g c : Int} (h : NwOk G g c) : EgOk G.toNat g.toNat c.toNat [] := by
  obtain ⟨⟨h1, h2, h3⟩, h4, h5⟩ := h
  obtain ⟨n, rfl⟩ : ∃ n : Nat, G = n := ⟨G.toNat, by omega⟩
  obtain ⟨m, rfl⟩ : ∃ m : Nat, g = m := ⟨g.toNat, by have := h4.2.2.1; omega⟩
  obtain ⟨k, rfl⟩ : ∃ k : Nat, c = k := ⟨c.toNat, by have := h4.1; omega⟩
  simp only [Int.toNat_natCast] at *
  refine ⟨h4.ok, by omega, ?_, List.Pairwise.nil, by simp, by simp⟩
  have : m * n ≤ 65536 / n * n := Nat.mul_le_mul_right _ (by omega)
  have h6 := Nat.div_mul_le_self 65536 n
  omega
set_option maxHeartbeats 1000000 in
theorem plNew_told (G g c : Int) (hG : -9223372036854775808 ≤ G ∧ G ≤ 9223372036854775807) (hg : -9223372036854775808 ≤ g ∧ g ≤ 9223372036854775807) (hc : -9223372036854775808 ≤ c ∧ c ≤ 9223372036854775807) : Told P T place_New [] [i64 G, i64 g, i64 c] (.tup [nwE G g c, .bool (decide (NwOk G g c))]) [] := by
  have no : ¬ NwOk G g c → (nwE G g c = eN ∧ decide (NwOk G g c) = false) := fun h => ⟨by unfold nwE; rw [if_neg h], decide_eq_false h⟩
  by_cases h1 : G < 1
  · obtain ⟨e1, e2⟩ := no fun h => by have := h.1.1; omega
    rw [e1, e2]
    refine told_of_ev (fn := place_New_fn) tabOk mixed (by kernel_rfl) (by kernel_rfl) (by kernel_rfl) (by kernel_rfl) ?_
    (refine gw ?_; refine IfB.tt (by simp; omega) ?_)
    (refine gw ?_)
    exact RetN.fz ⟨[true], [], rfl, rfl, rfl⟩
  · by_cases h2 : G > 65536
    · obtain ⟨e1, e2⟩ := no fun h => by have := h.1.2.1; omega
      rw [e1, e2]
      refine told_of_ev (fn := place_New_fn) tabOk mixed (by kernel_rfl) (by kernel_rfl) (by kernel_rfl) (by kernel_rfl) ?_
      (refine gw ?_; refine IfB.ff (by simp; omega) ?_)
      (refine gw ?_; refine IfB.tt (by simp; omega) ?_)
      (refine gw ?_)
      exact RetN.fz ⟨[true], [], rfl, rfl, rfl⟩
    · obtain ⟨n, rfl⟩ : ∃ n : Nat, G = n := ⟨G.toNat, by omega⟩
      have hand := and_pred (n := n) (by omega) (by omega)
      have hbit := pow2_bit (n := n) (by omega)
      have c1 := sNw_told hg hc
      have hl := sNw_len g c
      have hdv : (65536 : Int).tdiv (n : Int) = ((65536 / n : Nat) : Int) := (Int.ofNat_tdiv 65536 n).symm
      have hne : ((n : Nat) : Int) ≠ 0 := by omega
      by_cases h3 : n = 2 ^ Nat.log2 n
      · rw [hbit.2 h3] at hand
        by_cases h4 : SlOkI g c
        · rw [if_pos h4] at hl
          have hd2 : 65536 / n ≤ 65536 := Nat.div_le_self _ _
          by_cases h5 : g ≤ ((65536 / n : Nat) : Int)
          · have hok : NwOk n g c := ⟨⟨by omega, by omega, h3⟩, h4, h5⟩
            have e1 : nwE n g c = .agg [i64 n, .lst t_api_Tree (sNw g c), .lst t_api_Mark []] := by unfold nwE sNw; rw [if_pos hok, if_pos h4]; rfl
            rw [e1, decide_eq_true hok]
            have h41 := h4.1
            generalize 65536 / n = q at *
            refine told_of_ev (fn := place_New_fn) tabOk mixed (by kernel_rfl) (by kernel_rfl) (by kernel_rfl) (by kernel_rfl) ?_
            (refine gw ?_; refine IfB.ff (by simp; omega) ?_)
            (refine gw ?_; refine IfB.ff (by simp; omega) ?_)
            (refine gw ?_)
            rw [hand]
            (refine gw ?_; refine Choice.mk ⟨false, Choice.mk ⟨false, _, _, c1, ?_⟩⟩)
            (refine gw ?_)
            rw [hl]
            (refine gw ?_; refine IfB.ff (by simp; omega) ?_)
            (refine gw ?_)
            rw [hdv]
            (refine gw ?_; refine IfB.ff (by simp; omega) ?_)
            (refine gw ?_)
            exact RetN.fz ⟨[true], [], rfl, rfl, rfl⟩
          · obtain ⟨e1, e2⟩ := no fun h => h5 h.2.2
            rw [e1, e2]
            have h41 := h4.1
            generalize 65536 / n = q at *
            refine told_of_ev (fn := place_New_fn) tabOk mixed (by kernel_rfl) (by kernel_rfl) (by kernel_rfl) (by kernel_rfl) ?_
            (refine gw ?_; refine IfB.ff (by simp; omega) ?_)
            (refine gw ?_; refine IfB.ff (by simp; omega) ?_)
            (refine gw ?_)
            rw [hand]
            (refine gw ?_; refine Choice.mk ⟨false, Choice.mk ⟨false, _, _, c1, ?_⟩⟩)
            (refine gw ?_)
            rw [hl]
            (refine gw ?_; refine IfB.ff (by simp; omega) ?_)
            (refine gw ?_)
            rw [hdv]
            (refine gw ?_; refine IfB.tt (by simp; omega) ?_)
            (refine gw ?_)
            exact RetN.fz ⟨[true], [], rfl, rfl, rfl⟩
        · rw [if_neg h4] at hl
          obtain ⟨e1, e2⟩ := no fun h => h4 h.2.1
          rw [e1, e2]
          refine told_of_ev (fn := place_New_fn) tabOk mixed (by kernel_rfl) (by kernel_rfl) (by kernel_rfl) (by kernel_rfl) ?_
          (refine gw ?_; refine IfB.ff (by simp; omega) ?_)
          (refine gw ?_; refine IfB.ff (by simp; omega) ?_)
          (refine gw ?_)
          rw [hand]
          (refine gw ?_; refine Choice.mk ⟨false, Choice.mk ⟨false, _, _, c1, ?_⟩⟩)
          (refine gw ?_)
          rw [hl]
          (refine gw ?_)
          exact RetN.fz ⟨[true], [], rfl, rfl, rfl⟩
      · have hr : n &&& (n - 1) ≠ 0 := fun e => h3 (hbit.1 e)
        obtain ⟨e1, e2⟩ := no fun h => h3 h.1.2.2
        rw [e1, e2]
        generalize n &&& (n - 1) = r at *
        refine told_of_ev (fn := place_New_fn) tabOk mixed (by kernel_rfl) (by kernel_rfl) (by kernel_rfl) (by kernel_rfl) ?_
        (refine gw ?_; refine IfB.ff (by simp; omega) ?_)
        (refine gw ?_; refine IfB.ff (by simp; omega) ?_)
        (refine gw ?_)
        rw [hand]
        (refine gw ?_; refine IfB.tt (by simp; omega) ?_)
        (refine gw ?_)
        exact RetN.fz ⟨[true], [], rfl, rfl, rfl⟩
end Go.Ev.W
namespace Go.Ev.W
open Go.Ev Go.Ev.N

/-- The least power of two that is not below a number. -/
def upN (v : Nat) : Nat := if v ≤ 1 then 1 else 2 ^ (Nat.log2 (v - 1) + 1)
theorem upN_pow (v : Nat) : ∃ k, upN v = 2 ^ k := by
  unfold upN; split
  · exact ⟨0, rfl⟩
  · exact ⟨_, rfl⟩
theorem le_upN (v : Nat) : v ≤ upN v := by
  unfold upN; split
  · assumption
  · have := Nat.lt_log2_self (n := v - 1); omega
theorem upN_le {v k : Nat} (h : v ≤ 2 ^ k) : upN v ≤ 2 ^ k := by
  unfold upN; split
  · exact Nat.one_le_two_pow
  · refine Nat.pow_le_pow_right (by omega) ?_
    rw [Nat.succ_le_iff, Nat.log2_lt (by omega)]
    omega
theorem upN_lt {v : Nat} (h : 1 ≤ v) : upN v < 2 * v := by
  unfold upN; split
  · omega
  · have := Nat.log2_self_le (n := v - 1) (by omega)
    rw [Nat.pow_succ]; omega
theorem upN_pos (v : Nat) : 1 ≤ upN v := by obtain ⟨k, h⟩ := upN_pow v; rw [h]; exact Nat.one_le_two_pow
theorem pow_lt_dbl {j k : Nat} (h : 2 ^ j < 2 ^ k) : 2 ^ j * 2 ≤ 2 ^ k := by
  have : j < k := (Nat.pow_lt_pow_iff_right (by omega)).1 h
  rw [← Nat.pow_succ]; exact Nat.pow_le_pow_right (by omega) this

theorem refUp_told (v : Nat) (h1 : 1 ≤ v) (h2 : v ≤ 1000000) : Told P T ref1_Up [] [i64 v] (.tup [i64 (upN v : Nat), .bool true]) [] := by
  have hu := upN_lt h1
  refine told_of_ev (fn := ref1_Up_fn) tabOk mixed (by kernel_rfl) (by kernel_rfl) (by kernel_rfl) (by kernel_rfl) ?_
  (refine gw ?_; first | refine IfB.dec (fun h3 => ?_) (fun h3 => ?_) | refine IfB.eq (fun h3 => ?_) (fun h3 => ?_) | refine IfB.ne (fun h3 => ?_) (fun h3 => ?_) | refine IfB.mk (fun h3 => ?_) (fun h3 => ?_))
  · omega
  · (refine gw ?_; first | refine IfB.dec (fun h4 => ?_) (fun h4 => ?_) | refine IfB.eq (fun h4 => ?_) (fun h4 => ?_) | refine IfB.ne (fun h4 => ?_) (fun h4 => ?_) | refine IfB.mk (fun h4 => ?_) (fun h4 => ?_))
    · omega
    · (refine gw ?_; refine LoopN.mk ⟨[0,4], fun vs L => ∃ j : Nat, vs = [i64 v, i64 (2 ^ j : Nat)] ∧ L = [] ∧ 2 ^ j ≤ upN v, fun vs L => match vs with | [_, .int _ i] => 4000000 - i.toNat | _ => 0, [], [], rfl, ⟨0, rfl, rfl, upN_pos v⟩, ?_⟩)
      rintro vs L ⟨j, rfl, rfl, hj⟩
      obtain ⟨p, hp⟩ : ∃ p, 2 ^ j = p := ⟨_, rfl⟩
      obtain ⟨k, hk⟩ := upN_pow v
      have hle := le_upN v
      (refine gw ?_; first | refine IfB.dec (fun h5 => ?_) (fun h5 => ?_) | refine IfB.eq (fun h5 => ?_) (fun h5 => ?_) | refine IfB.ne (fun h5 => ?_) (fun h5 => ?_) | refine IfB.mk (fun h5 => ?_) (fun h5 => ?_))
      · have hd : 2 ^ j * 2 ≤ upN v := by rw [hk]; exact pow_lt_dbl (by omega)
        have e : ((2 ^ (j + 1) : Nat) : Int) = ((2 ^ j : Nat) : Int) * 2 := by rw [Nat.pow_succ]; omega
        rw [hp] at hd e ⊢
        have hpos : 1 ≤ p := by rw [← hp]; exact Nat.one_le_two_pow
        (refine gw ?_; refine ⟨[], [], rfl, ⟨j + 1, by rw [e]; rfl, rfl, by rw [Nat.pow_succ, hp]; exact hd⟩, (by omega : 4000000 - ((p : Int) * 2).toNat < 4000000 - (p : Int).toNat)⟩)
      · have e : upN v = 2 ^ j := by
          have := upN_le (v := v) (k := j) (by omega)
          omega
        rw [e]
        (refine gw ?_; exact RetN.mk ⟨[], rfl, rfl, rfl⟩)

/-- Which power of two. -/
def logF (v : Int) : Nat × Bool := if 1 ≤ v ∧ v = ((2 ^ Nat.log2 v.toNat : Nat) : Int) then (Nat.log2 v.toNat, true) else (0, false)
theorem logF_pow (k : Nat) : logF ((2 ^ k : Nat) : Int) = (k, true) := by
  have h := Nat.one_le_two_pow (n := k)
  have hl := Nat.log2_two_pow (n := k)
  unfold logF
  obtain ⟨q, hq⟩ : ∃ q, 2 ^ k = q := ⟨_, rfl⟩
  rw [hq] at h hl ⊢
  rw [Int.toNat_natCast, hl, hq, if_pos ⟨by omega, rfl⟩]
theorem refLog_told (v : Int) (h2 : v ≤ 9223372036854775807) : Told P T ref1_Log [] [i64 v] (.tup [i64 ((logF v).1 : Nat), .bool (logF v).2]) [] := by
  refine told_of_ev (fn := ref1_Log_fn) tabOk mixed (by kernel_rfl) (by kernel_rfl) (by kernel_rfl) (by kernel_rfl) ?_
  (refine gw ?_; refine LoopN.mk ⟨[0,4,5], fun vs L => ∃ j : Nat, vs = [i64 v, i64 (2 ^ (min j 62) : Nat), i64 j] ∧ L = [] ∧ j ≤ 63 ∧ ∀ i, i < j → v ≠ ((2 ^ i : Nat) : Int), fun vs L => match vs with | [_, _, .int _ i] => 63 - i.toNat | _ => 0, [], [], rfl, ⟨0, rfl, rfl, by omega, fun i h => by omega⟩, ?_⟩)
  rintro vs L ⟨j, rfl, rfl, hj, hn⟩
  (refine gw ?_; first | refine IfB.dec (fun h1 => ?_) (fun h1 => ?_) | refine IfB.eq (fun h1 => ?_) (fun h1 => ?_) | refine IfB.ne (fun h1 => ?_) (fun h1 => ?_) | refine IfB.mk (fun h1 => ?_) (fun h1 => ?_))
  · have hj2 : j < 63 := by omega
    have em : min j 62 = j := by omega
    rw [em]
    (refine gw ?_; first | refine IfB.dec (fun h2 => ?_) (fun h2 => ?_) | refine IfB.eq (fun h2 => ?_) (fun h2 => ?_) | refine IfB.ne (fun h2 => ?_) (fun h2 => ?_) | refine IfB.mk (fun h2 => ?_) (fun h2 => ?_))
    · have e := logF_pow j
      rw [h2] at e
      rw [e]
      (refine gw ?_; exact RetN.mk ⟨[], rfl, rfl, rfl⟩)
    · have hn' : ∀ i, i < j + 1 → v ≠ ((2 ^ i : Nat) : Int) := fun i hi => by
        rcases Nat.lt_or_ge i j with h | h
        · exact hn i h
        · rw [show i = j by omega]; exact fun h => h2 h.symm
      (refine gw ?_; first | refine IfB.dec (fun h3 => ?_) (fun h3 => ?_) | refine IfB.eq (fun h3 => ?_) (fun h3 => ?_) | refine IfB.ne (fun h3 => ?_) (fun h3 => ?_) | refine IfB.mk (fun h3 => ?_) (fun h3 => ?_))
      · have hp : 2 ^ (j + 1) ≤ 2 ^ 62 := Nat.pow_le_pow_right (by omega) (by omega)
        have e : ((2 ^ (min (j + 1) 62) : Nat) : Int) = ((2 ^ j : Nat) : Int) * 2 := by rw [show min (j + 1) 62 = j + 1 by omega, Nat.pow_succ]; omega
        rw [Nat.pow_succ] at hp
        have hpos : 0 < 2 ^ j := Nat.two_pow_pos j
        generalize 2 ^ j = q at hp e hpos ⊢
        (refine gw ?_; refine ⟨[], [], rfl, ⟨j + 1, by rw [e]; rfl, rfl, by omega, hn'⟩, (by omega : 63 - ((j : Int) + 1).toNat < 63 - (j : Int).toNat)⟩)
      · have e : j = 62 := by omega
        subst e
        (refine gw ?_; refine ⟨[], [], rfl, ⟨63, rfl, rfl, by omega, hn'⟩, (by omega : 63 - (((62 : Nat) : Int) + 1).toNat < 63 - ((62 : Nat) : Int).toNat)⟩)
  · have e : logF v = (0, false) := by
      unfold logF
      rw [if_neg]
      rintro ⟨h3, h4⟩
      refine hn (Nat.log2 v.toNat) ?_ h4
      rw [Nat.log2_lt (by omega)]
      have : v.toNat ≤ 9223372036854775807 := by omega
      have e63 : (2 : Nat) ^ j ≥ 2 ^ 63 := Nat.pow_le_pow_right (by omega) (by omega)
      omega
    rw [e]
    (refine gw ?_; exact RetN.mk ⟨[], rfl, rfl, rfl⟩)

/-- What there is. -/
structure Cf where
  G : Nat
  N : Nat
  M : Nat
  L : Nat
  Pg : Nat
  P : Nat
  H : Nat
  Sd : Nat
  deriving DecidableEq
def eC (c : Cf) : AV := .agg [i64 c.G, i64 c.N, i64 c.M, i64 c.L, i64 c.Pg, i64 c.P, i64 c.H, i64 c.Sd]
/-- What is asked for. -/
structure Rw where
  g : Int
  l : Int
  m : Int
  p : Int
  b : Int
  s : Int
  deriving DecidableEq
def eR (r : Rw) : AV := .agg [i64 r.g, i64 r.l, i64 r.m, i64 r.p, i64 r.b, i64 r.s]
def cf0 : Cf := ⟨0, 0, 0, 0, 0, 0, 0, 0⟩
def inR (v : Int) : Bool := decide (1 ≤ v ∧ v ≤ 65536)
def Rw.ok (r : Rw) : Bool := inR r.g && inR r.l && inR r.m && inR r.p && decide (0 ≤ r.b ∧ r.b ≤ 65536) && decide (0 ≤ r.s ∧ r.s ≤ 255)
def rnd (v t : Nat) : Nat := if v % t = 0 then v else v - v % t + t
def cfOf (r : Rw) : Cf :=
  let g := upN r.g.toNat
  let n := upN (max r.l.toNat g)
  let pg := upN (max r.p.toNat g)
  let m := rnd r.m.toNat (2 * max n pg)
  let l := Nat.log2 (n / g)
  ⟨g, n, m, l, pg, r.b.toNat, m + l * (m / 2), r.s.toNat⟩
def ofF (r : Rw) : Cf × Nat := if r.ok = true ∧ (cfOf r).H ≤ 65536 then (cfOf r, 0) else (cf0, 1)

theorem refAdd_told (a b : Int) (ha : 0 ≤ a) (hb : 1 ≤ b) (hab : a + b ≤ 9223372036854775807) : Told P T ref1_Add [] [i64 a, i64 b] (.tup [i64 (a + b), .bool true]) [] := by
  refine told_of_ev (fn := ref1_Add_fn) tabOk mixed (by kernel_rfl) (by kernel_rfl) (by kernel_rfl) (by kernel_rfl) ?_
  repeat' ((conv => whnf); first | (refine Sure.mk (by kernel_rfl) ?_) | (refine IfB.tt rfl ?_) | (refine IfB.ff rfl ?_) | (refine IfB.tt ?_ ?_; (focus (simp <;> fail))) | (refine IfB.ff ?_ ?_; (focus (simp <;> fail))) | (refine fits (wrap64 ?_ ?_) ?_; (focus omega); (focus omega)) | (refine fits (wrapU64 ?_ ?_) ?_; (focus omega); (focus omega)) | (refine Need.mk ?_ ?_; (focus omega)) | (refine InB.mk ?_ ?_ ?_; (focus omega); (focus omega)) | (refine IfB.dec (fun h => ?_) (fun h => ?_)) | (refine IfB.eq (fun h => ?_) (fun h => ?_)) | (refine IfB.ne (fun h => ?_) (fun h => ?_)))
  all_goals first | omega | (refine gw ?_; exact RetN.mk ⟨[], rfl, rfl, rfl⟩)
theorem refRound_told (v t : Nat) (hv : v ≤ 1000000) (h1 : 1 ≤ t) (h2 : t ≤ 1000000) : Told P T ref1_Round [] [i64 v, i64 t] (.tup [i64 (rnd v t : Nat), .bool true]) [] := by
  have em : ((v : Nat) : Int).tmod (t : Nat) = ((v % t : Nat) : Int) := by rw [Int.tmod_eq_emod_of_nonneg (by omega)]; omega
  have hm := Nat.mod_lt v h1
  have hd := Nat.mod_le v t
  refine told_of_ev (fn := ref1_Round_fn) tabOk mixed (by kernel_rfl) (by kernel_rfl) (by kernel_rfl) (by kernel_rfl) ?_
  (refine gw ?_; first | refine IfB.dec (fun h4 => ?_) (fun h4 => ?_) | refine IfB.eq (fun h4 => ?_) (fun h4 => ?_) | refine IfB.ne (fun h4 => ?_) (fun h4 => ?_) | refine IfB.mk (fun h4 => ?_) (fun h4 => ?_))
  · omega
  · refine gw ?_
    rw [em]
    (refine gw ?_; first | refine IfB.dec (fun h5 => ?_) (fun h5 => ?_) | refine IfB.eq (fun h5 => ?_) (fun h5 => ?_) | refine IfB.ne (fun h5 => ?_) (fun h5 => ?_) | refine IfB.mk (fun h5 => ?_) (fun h5 => ?_))
    · have e : rnd v t = v := by unfold rnd; rw [if_pos (by omega)]
      rw [e]
      (refine gw ?_; exact RetN.mk ⟨[], rfl, rfl, rfl⟩)
    · have e : rnd v t = v - v % t + t := by unfold rnd; rw [if_neg (by omega)]
      have c := refAdd_told ((v : Int) - ((v % t : Nat) : Int)) t (by omega) (by omega) (by omega)
      have e2 : ((v - v % t + t : Nat) : Int) = (v : Int) - ((v % t : Nat) : Int) + t := by omega
      rw [e, e2]
      refine gw ?_
      rw [em]
      refine gw ?_
      (refine gw ?_; refine Choice.mk ⟨false, Choice.mk ⟨true, _, _, c, ?_⟩⟩)
      (refine gw ?_; exact RetN.mk ⟨[], rfl, rfl, rfl⟩)

theorem pow_div {a b : Nat} (h : 2 ^ a ≤ 2 ^ b) : 2 ^ b / 2 ^ a = 2 ^ (b - a) := by
  have : a ≤ b := (Nat.pow_le_pow_iff_right (by omega)).1 h
  exact Nat.pow_div this (by omega)
/-- What holds of what there is. -/
structure Cf.Ok (c : Cf) : Prop where
  g : ∃ a, c.G = 2 ^ a
  n : c.N = c.G * 2 ^ c.L
  p : ∃ e, c.Pg = c.G * 2 ^ e
  m : ∃ q, c.M = 2 * max c.N c.Pg * q
  m1 : 1 ≤ c.M
  h : c.H = c.M + c.L * (c.M / 2)
  h2 : c.H ≤ 65536
  b : c.P ≤ 65536
  s : c.Sd ≤ 255
theorem pow_up {g v : Nat} (hg : ∃ a, g = 2 ^ a) : ∃ e, upN (max v g) = g * 2 ^ e := by
  obtain ⟨a, rfl⟩ := hg
  obtain ⟨b, hb⟩ := upN_pow (max v (2 ^ a))
  have h1 := le_upN (max v (2 ^ a))
  rw [hb] at h1 ⊢
  have : a ≤ b := (Nat.pow_le_pow_iff_right (a := 2) (by omega)).1 (Nat.le_trans (Nat.le_max_right _ _) h1)
  exact ⟨b - a, by rw [← Nat.pow_add]; congr 1; omega⟩
theorem rnd_spec {v t : Nat} (h : 1 ≤ t) : ∃ q, rnd v t = t * q ∧ v ≤ rnd v t ∧ rnd v t < v + t := by
  have h1 := Nat.div_add_mod v t
  have h2 := Nat.mod_lt v h
  unfold rnd
  split
  · exact ⟨v / t, by omega, by omega, by omega⟩
  · refine ⟨v / t + 1, ?_, by omega, by omega⟩
    rw [Nat.mul_add]; omega
theorem log_of {G N k : Nat} (hg : 1 ≤ G) (h : N = G * 2 ^ k) : Nat.log2 (N / G) = k := by
  rw [h, Nat.mul_div_cancel_left _ (by omega), Nat.log2_two_pow]
theorem ofF_ok {r : Rw} (h : (ofF r).2 = 0) : (ofF r).1.Ok ∧ r.ok = true ∧ (ofF r).1 = cfOf r := by
  unfold ofF at h ⊢
  split at h
  · rename_i hh
    rw [if_pos hh]
    obtain ⟨hr, hH⟩ := hh
    refine ⟨?_, hr, rfl⟩
    simp only [Rw.ok, inR, Bool.and_eq_true, decide_eq_true_eq] at hr
    obtain ⟨⟨⟨⟨⟨r1, r2⟩, r3⟩, r4⟩, r5⟩, r6⟩ := hr
    have g := upN_pow r.g.toNat
    obtain ⟨k, hk⟩ := pow_up (v := r.l.toNat) g
    obtain ⟨e, he⟩ := pow_up (v := r.p.toNat) g
    have hg1 := upN_pos r.g.toNat
    have hn1 := upN_pos (max r.l.toNat (upN r.g.toNat))
    have hlog := log_of hg1 hk
    obtain ⟨q, q1, q2, q3⟩ := rnd_spec (v := r.m.toNat) (t := 2 * max (upN (max r.l.toNat (upN r.g.toNat))) (upN (max r.p.toNat (upN r.g.toNat)))) (by omega)
    exact ⟨g, by show upN _ = upN _ * 2 ^ Nat.log2 _; rw [hlog]; exact hk, ⟨e, he⟩, ⟨q, q1⟩, by show 1 ≤ rnd _ _; omega, rfl, hH, by show r.b.toNat ≤ _; omega, by show r.s.toNat ≤ _; omega⟩
  · cases h

set_option maxHeartbeats 2000000 in
theorem refOf_told (r : Rw) : Told P T ref1_Of [] [eR r] (.tup [eC (ofF r).1, i64 ((ofF r).2 : Nat)]) [] := by
  have bad : r.ok = false → ofF r = (cf0, 1) := fun h => by unfold ofF; rw [if_neg (by rw [h]; simp)]
  obtain ⟨g, l, m, p, b, s⟩ := r
  refine told_of_ev (fn := ref1_Of_fn) tabOk mixed (by kernel_rfl) (by kernel_rfl) (by kernel_rfl) (by kernel_rfl) ?_
  (refine gw ?_; refine LoopN.mk ⟨[1,2,4,5], fun vs L => ∃ i : Nat, vs = [.ptr 0 0 0, .ptr 1 0 0, .lst t_int ([g, l, m, p].map i64), i64 i] ∧ L = [.var (.agg [i64 g, i64 l, i64 m, i64 p, i64 b, i64 s]), .var (eC cf0)] ∧ i ≤ 4 ∧ ∀ j (h : j < [g, l, m, p].length), j < i → inR ([g, l, m, p][j]) = true, fun vs L => match vs with | [_, _, _, .int _ i] => 4 - i.toNat | _ => 0, [4], [0,1], rfl, ⟨0, rfl, rfl, by omega, fun j _ h => by omega⟩, ?_⟩)
  rintro vs L ⟨i, rfl, rfl, hi, hin⟩
  (refine gw ?_; first | refine IfB.dec (fun h1 => ?_) (fun h1 => ?_) | refine IfB.eq (fun h1 => ?_) (fun h1 => ?_) | refine IfB.ne (fun h1 => ?_) (fun h1 => ?_) | refine IfB.mk (fun h1 => ?_) (fun h1 => ?_))
  · have hlt : i < [g, l, m, p].length := by simp; omega
    obtain ⟨x, hx⟩ : ∃ x, [g, l, m, p][i] = x := ⟨_, rfl⟩
    have hbad : inR x = false → ofF ⟨g, l, m, p, b, s⟩ = (cf0, 1) := fun h => bad (by
      have : ∃ y ∈ [g, l, m, p], inR y = false := ⟨x, by rw [← hx]; exact List.getElem_mem _, h⟩
      simp only [List.mem_cons, List.not_mem_nil, or_false] at this
      obtain ⟨y, hy, h⟩ := this
      unfold Rw.ok
      rcases hy with rfl | rfl | rfl | rfl <;> simp [h])
    (refine gw ?_; refine idx_map (hlt) ?_)
    rw [hx]
    (refine gw ?_; first | refine IfB.dec (fun h2 => ?_) (fun h2 => ?_) | refine IfB.eq (fun h2 => ?_) (fun h2 => ?_) | refine IfB.ne (fun h2 => ?_) (fun h2 => ?_) | refine IfB.mk (fun h2 => ?_) (fun h2 => ?_))
    · rw [hbad (by simp [inR]; omega)]
      (refine gw ?_; exact RetN.mk ⟨[], rfl, rfl, rfl⟩)
    · (refine gw ?_; refine idx_map (hlt) ?_)
      rw [hx]
      (refine gw ?_; first | refine IfB.dec (fun h3 => ?_) (fun h3 => ?_) | refine IfB.eq (fun h3 => ?_) (fun h3 => ?_) | refine IfB.ne (fun h3 => ?_) (fun h3 => ?_) | refine IfB.mk (fun h3 => ?_) (fun h3 => ?_))
      · rw [hbad (by simp [inR]; omega)]
        (refine gw ?_; exact RetN.mk ⟨[], rfl, rfl, rfl⟩)
      · have hx' : inR x = true := by simp [inR]; omega
        (refine gw ?_; refine ⟨[4], [0,1], rfl, ⟨i + 1, rfl, rfl, by omega, fun j h hj => ?_⟩, (by omega : 4 - ((i : Int) + 1).toNat < 4 - (i : Int).toNat)⟩)
        rcases Nat.lt_or_ge j i with h' | h'
        · exact hin j h h'
        · have : j = i := by omega
          subst this; rw [hx]; exact hx'
  · have e4 : i = 4 := by omega
    subst e4
    have i1 := hin 0 (by simp) (by omega)
    have i2 := hin 1 (by simp) (by omega)
    have i3 := hin 2 (by simp) (by omega)
    have i4 := hin 3 (by simp) (by omega)
    simp only [List.getElem_cons_zero, List.getElem_cons_succ] at i1 i2 i3 i4
    simp only [inR, decide_eq_true_eq] at i1 i2 i3 i4
    have hr : (Rw.ok ⟨g, l, m, p, b, s⟩) = (decide (0 ≤ b ∧ b ≤ 65536) && decide (0 ≤ s ∧ s ≤ 255)) := by simp [Rw.ok, inR, i1, i2, i3, i4]
    (refine gw ?_; first | refine IfB.dec (fun h2 => ?_) (fun h2 => ?_) | refine IfB.eq (fun h2 => ?_) (fun h2 => ?_) | refine IfB.ne (fun h2 => ?_) (fun h2 => ?_) | refine IfB.mk (fun h2 => ?_) (fun h2 => ?_))
    · rw [bad (by rw [hr]; simp; omega)]
      (refine gw ?_; exact RetN.mk ⟨[], rfl, rfl, rfl⟩)
    · (refine gw ?_; first | refine IfB.dec (fun h3 => ?_) (fun h3 => ?_) | refine IfB.eq (fun h3 => ?_) (fun h3 => ?_) | refine IfB.ne (fun h3 => ?_) (fun h3 => ?_) | refine IfB.mk (fun h3 => ?_) (fun h3 => ?_))
      · rw [bad (by rw [hr]; simp; omega)]
        (refine gw ?_; exact RetN.mk ⟨[], rfl, rfl, rfl⟩)
      · (refine gw ?_; first | refine IfB.dec (fun h4 => ?_) (fun h4 => ?_) | refine IfB.eq (fun h4 => ?_) (fun h4 => ?_) | refine IfB.ne (fun h4 => ?_) (fun h4 => ?_) | refine IfB.mk (fun h4 => ?_) (fun h4 => ?_))
        · rw [bad (by rw [hr]; simp; omega)]
          (refine gw ?_; exact RetN.mk ⟨[], rfl, rfl, rfl⟩)
        · (refine gw ?_; first | refine IfB.dec (fun h5 => ?_) (fun h5 => ?_) | refine IfB.eq (fun h5 => ?_) (fun h5 => ?_) | refine IfB.ne (fun h5 => ?_) (fun h5 => ?_) | refine IfB.mk (fun h5 => ?_) (fun h5 => ?_))
          · rw [bad (by rw [hr]; simp; omega)]
            (refine gw ?_; exact RetN.mk ⟨[], rfl, rfl, rfl⟩)
          · have hok : Rw.ok ⟨g, l, m, p, b, s⟩ = true := by rw [hr]; simp; omega
            obtain ⟨G, hG⟩ : ∃ G, upN g.toNat = G := ⟨_, rfl⟩
            obtain ⟨N, hN⟩ : ∃ N, upN (max l.toNat G) = N := ⟨_, rfl⟩
            obtain ⟨Pg, hPg⟩ : ∃ Pg, upN (max p.toNat G) = Pg := ⟨_, rfl⟩
            obtain ⟨M, hM⟩ : ∃ M, rnd m.toNat (2 * max N Pg) = M := ⟨_, rfl⟩
            obtain ⟨K, hK⟩ : ∃ K, Nat.log2 (N / G) = K := ⟨_, rfl⟩
            have hcf : cfOf ⟨g, l, m, p, b, s⟩ = ⟨G, N, M, K, Pg, b.toNat, M + K * (M / 2), s.toNat⟩ := by
              unfold cfOf; simp only [hG, hN, hPg, hM, hK]
            have bG := upN_lt (v := g.toNat) (by omega)
            have bG0 := upN_pos g.toNat
            rw [hG] at bG bG0
            have bN := upN_lt (v := max l.toNat G) (by omega)
            rw [hN] at bN
            have bN0 := le_upN (max l.toNat G)
            rw [hN] at bN0
            have bP := upN_lt (v := max p.toNat G) (by omega)
            rw [hPg] at bP
            have c1 := refUp_told g.toNat (by omega) (by omega)
            rw [hG, show ((g.toNat : Nat) : Int) = g by omega] at c1
            have c2 := refUp_told (max l.toNat G) (by omega) (by omega)
            rw [hN, show ((max l.toNat G : Nat) : Int) = (if ((G : Nat) : Int) > l then ((G : Nat) : Int) else l) by split <;> omega] at c2
            have c3 := refUp_told (max p.toNat G) (by omega) (by omega)
            rw [hPg, show ((max p.toNat G : Nat) : Int) = (if ((G : Nat) : Int) > p then ((G : Nat) : Int) else p) by split <;> omega] at c3
            have c4 := refRound_told m.toNat (2 * max N Pg) (by omega) (by omega) (by omega)
            rw [hM, show ((2 * max N Pg : Nat) : Int) = 2 * (if ((Pg : Nat) : Int) > ((N : Nat) : Int) then ((Pg : Nat) : Int) else ((N : Nat) : Int)) by split <;> omega, show ((m.toNat : Nat) : Int) = m by omega] at c4
            obtain ⟨q, q1, q2, q3⟩ := rnd_spec (v := m.toNat) (t := 2 * max N Pg) (by omega)
            rw [hM] at q1 q2 q3
            obtain ⟨k0, hk0⟩ := pow_up (v := l.toNat) (hG ▸ upN_pow g.toNat)
            rw [hN] at hk0
            have hK0 : K = k0 := by rw [← hK]; exact log_of bG0 hk0
            have c5 := refLog_told ((N / G : Nat) : Int) (by have := Nat.div_le_self N G; omega)
            have e5 : N / G = 2 ^ K := by rw [hk0, hK0, Nat.mul_div_cancel_left _ (by omega)]
            rw [e5, logF_pow, ← e5, show ((N / G : Nat) : Int) = ((N : Nat) : Int).tdiv ((G : Nat) : Int) by rw [Int.tdiv_eq_ediv_of_nonneg (by omega)]; omega] at c5
            have bK : K < 20 := by
              have h6 : 2 ^ K ≤ 2 ^ 18 := by rw [← e5]; have := Nat.div_le_self N G; omega
              have := (Nat.pow_le_pow_iff_right (a := 2) (by omega)).1 h6
              omega
            have bKM : K * (M / 2) ≤ 20 * (M / 2) := Nat.mul_le_mul_right _ (by omega)
            have hM2 : ((M : Nat) : Int).tdiv 2 = ((M / 2 : Nat) : Int) := by rw [Int.tdiv_eq_ediv_of_nonneg (by omega)]; omega
            have hKM : ((K : Nat) : Int) * ((M / 2 : Nat) : Int) = ((K * (M / 2) : Nat) : Int) := by rw [Int.natCast_mul]
            (refine gw ?_; refine Choice.mk ⟨false, Choice.mk ⟨false, _, _, c1, ?_⟩⟩)
            (refine gw ?_; refine Choice.mk ⟨false, Choice.mk ⟨false, _, _, c2, ?_⟩⟩)
            (refine gw ?_; refine Choice.mk ⟨false, Choice.mk ⟨false, _, _, c3, ?_⟩⟩)
            (refine gw ?_; refine Choice.mk ⟨false, Choice.mk ⟨false, _, _, c4, ?_⟩⟩)
            have hdiv : ((N : Nat) : Int).tdiv ((G : Nat) : Int) = ((N / G : Nat) : Int) := by rw [Int.tdiv_eq_ediv_of_nonneg (by omega)]; omega
            have hdle := Nat.div_le_self N G
            have hd0 : (0 : Int) ≤ ((N / G : Nat) : Int) := Int.natCast_nonneg _
            (refine gw ?_)
            (refine gw ?_; refine Choice.mk ⟨false, Choice.mk ⟨true, _, _, c5, ?_⟩⟩)
            (refine gw ?_)
            rw [hM2]
            (refine gw ?_)
            rw [hKM]
            (refine gw ?_)
            have hH : (M : Int) + ((K * (M / 2) : Nat) : Int) = ((M + K * (M / 2) : Nat) : Int) := by omega
            rw [hH]
            (refine gw ?_; first | refine IfB.dec (fun h6 => ?_) (fun h6 => ?_) | refine IfB.eq (fun h6 => ?_) (fun h6 => ?_) | refine IfB.ne (fun h6 => ?_) (fun h6 => ?_) | refine IfB.mk (fun h6 => ?_) (fun h6 => ?_))
            · rw [show ofF ⟨g, l, m, p, b, s⟩ = (cf0, 1) by unfold ofF; rw [if_neg (by rw [hcf]; simp only; omega)]]
              (refine gw ?_; exact RetN.mk ⟨[], rfl, rfl, rfl⟩)
            · rw [show ofF ⟨g, l, m, p, b, s⟩ = (cfOf ⟨g, l, m, p, b, s⟩, 0) by unfold ofF; rw [if_pos ⟨hok, by rw [hcf]; simp only; omega⟩], hcf]
              (refine gw ?_; refine RetN.mk ⟨[], rfl, ?_, rfl⟩)
              rw [show b = ((b.toNat : Nat) : Int) by omega, show s = ((s.toNat : Nat) : Int) by omega]
              rfl

theorem Cf.Ok.gpos {c : Cf} (h : c.Ok) : 1 ≤ c.G := by obtain ⟨a, e⟩ := h.g; rw [e]; exact Nat.one_le_two_pow
theorem Cf.Ok.nM {c : Cf} (h : c.Ok) : 2 * c.N ≤ c.M := by
  obtain ⟨q, e⟩ := h.m
  have := h.m1
  cases q with
  | zero => rw [Nat.mul_zero] at e; omega
  | succ q =>
    rw [Nat.mul_succ] at e
    have := Nat.zero_le (2 * max c.N c.Pg * q)
    omega
theorem Cf.Ok.mH {c : Cf} (h : c.Ok) : c.M ≤ 65536 := by have := h.h; have := h.h2; omega
theorem Cf.Ok.lL {c : Cf} (h : c.Ok) : c.L ≤ 16 := by
  have h1 := h.nM
  have h2 := h.mH
  have h3 := h.n
  have h4 := h.gpos
  have h5 : 2 ^ c.L ≤ 2 ^ 15 := by
    have : 1 * 2 ^ c.L ≤ c.G * 2 ^ c.L := Nat.mul_le_mul_right _ h4
    omega
  have := (Nat.pow_le_pow_iff_right (a := 2) (by omega)).1 h5
  omega
end Go.Ev.W
namespace Go.Ev.W
open Go.Ev Go.Ev.N

theorem made_told (l : List Nat) : Told P T mk_Made [] [lB l] (.ptr 0 0 0) [pkB ⟨l, 0⟩] := by
  refine told_of_ev (fn := mk_Made_fn) tabOk mixed (by kernel_rfl) (by kernel_rfl) (by kernel_rfl) (by kernel_rfl) ?_
  exact RetN.mk ⟨[0], rfl, rfl, rfl⟩
theorem over_told' (p : Pk) : Told P T mk_Picks_Over [pkB p] [.ptr 0 0 0] (.bool p.over) [pkB p] := by
  have hml : (p.l.map u8).length = p.l.length := by simp
  refine told_of_ev (fn := mk_Picks_Over_fn) tabOk mixed (by kernel_rfl) (by kernel_rfl) (by kernel_rfl) (by kernel_rfl) ?_
  refine gw ?_
  (refine gw ?_; refine RetN.mk ⟨[], rfl, ?_, rfl⟩)
  show AV.bool (decide ((p.n : Int) ≥ ((p.l.map u8).length : Nat))) = AV.bool (decide (p.l.length ≤ p.n))
  congr 1
  exact decide_eq_decide.2 (by omega)
theorem num_told (p : Pk) (ok : p.Ok) (m : Nat) (hm : m ≤ 1000000) : Told P T mk_Picks_Num [pkB p] [.ptr 0 0 0, i64 m] (i64 (p.num m)) [pkB (p.next m)] := by
  have hml : (p.l.map u8).length = p.l.length := by simp
  have hl := ok.l
  simp only [maxLen] at hl
  refine told_of_ev (fn := mk_Picks_Num_fn) tabOk mixed (by kernel_rfl) (by kernel_rfl) (by kernel_rfl) (by kernel_rfl) ?_
  refine gw ?_
  (refine gw ?_; first | refine IfB.dec (fun h1 => ?_) (fun h1 => ?_) | refine IfB.eq (fun h1 => ?_) (fun h1 => ?_) | refine IfB.ne (fun h1 => ?_) (fun h1 => ?_) | refine IfB.mk (fun h1 => ?_) (fun h1 => ?_))
  · have e1 : p.num m = 0 := by unfold Pk.num; rw [if_neg (by omega)]
    have e2 : p.next m = p := by unfold Pk.next; rw [if_neg (by omega)]
    rw [e1, e2]
    refine gw ?_
    (refine gw ?_; exact RetN.mk ⟨[], rfl, rfl, rfl⟩)
  · refine gw ?_
    (refine gw ?_; first | refine IfB.dec (fun h2 => ?_) (fun h2 => ?_) | refine IfB.eq (fun h2 => ?_) (fun h2 => ?_) | refine IfB.ne (fun h2 => ?_) (fun h2 => ?_) | refine IfB.mk (fun h2 => ?_) (fun h2 => ?_))
    · have e1 : p.num m = 0 := by unfold Pk.num; rw [if_neg (by omega)]
      have e2 : p.next m = p := by unfold Pk.next; rw [if_neg (by omega)]
      rw [e1, e2]
      refine gw ?_
      (refine gw ?_; exact RetN.mk ⟨[], rfl, rfl, rfl⟩)
    · have hlt : p.n < p.l.length := by omega
      have e1 : p.num m = p.l[p.n] % m := by unfold Pk.num; rw [if_pos (by omega), List.getElem?_eq_getElem hlt]; rfl
      have e2 : p.next m = ⟨p.l, p.n + 1⟩ := by unfold Pk.next; rw [if_pos (by omega)]
      have hb := ok.b _ (List.getElem_mem hlt)
      rw [e1, e2]
      refine gw ?_
      refine idx_map' p.n (by omega) hlt ?_
      refine gw ?_
      (refine gw ?_; exact RetN.mk ⟨[], rfl, rfl, rfl⟩)
end Go.Ev.W
namespace Go.Ev.W
open Go.Ev Go.Ev.N

theorem refSize_told (c : Cf) (k : Nat) (hk : k ≤ 40) (hG : c.G ≤ 65536) : Told P T ref1_Size [] [eC c, i64 k] (i64 (c.G * 2 ^ k : Nat)) [] := by
  have hb : ∀ j, j ≤ k → c.G * 2 ^ j ≤ 65536 * 1099511627776 := fun j hj => Nat.mul_le_mul hG ((Nat.pow_le_pow_right (by omega) (show j ≤ 40 by omega) : 2 ^ j ≤ 2 ^ 40))
  refine told_of_ev (fn := ref1_Size_fn) tabOk mixed (by kernel_rfl) (by kernel_rfl) (by kernel_rfl) (by kernel_rfl) ?_
  (refine gw ?_; refine LoopN.mk ⟨[1,5,6], fun vs L => ∃ j : Nat, vs = [i64 k, i64 (c.G * 2 ^ j : Nat), i64 j] ∧ L = [] ∧ j ≤ k, fun vs L => match vs with | [_, _, .int _ i] => k - i.toNat | _ => 0, [], [], rfl, ⟨0, by rw [Nat.pow_zero, Nat.mul_one]; rfl, rfl, by omega⟩, ?_⟩)
  rintro vs L ⟨j, rfl, rfl, hj⟩
  (refine gw ?_; first | refine IfB.dec (fun h1 => ?_) (fun h1 => ?_) | refine IfB.eq (fun h1 => ?_) (fun h1 => ?_) | refine IfB.ne (fun h1 => ?_) (fun h1 => ?_) | refine IfB.mk (fun h1 => ?_) (fun h1 => ?_))
  · have e : c.G * 2 ^ (j + 1) = c.G * 2 ^ j * 2 := by rw [Nat.pow_succ, Nat.mul_assoc]
    have b1 := hb j hj
    have b2 := hb (j + 1) (by omega)
    rw [e] at b2
    have e2 : ((c.G * 2 ^ (j + 1) : Nat) : Int) = ((c.G * 2 ^ j : Nat) : Int) * 2 := by rw [e]; omega
    generalize c.G * 2 ^ j = q at *
    (refine gw ?_; refine ⟨[], [], rfl, ⟨j + 1, by rw [e2]; rfl, rfl, by omega⟩, (by omega : k - ((j : Int) + 1).toNat < k - (j : Int).toNat)⟩)
  · have e : j = k := by omega
    subst e
    (refine gw ?_; exact RetN.mk ⟨[], rfl, rfl, rfl⟩)
end Go.Ev.W
namespace Go.Ev.W
open Go.Ev Go.Ev.N

/-- Numbers and bools of a row, by place. -/
def tabF (n : Nat) (f : Nat → AV) : List AV := (List.range n).map f
theorem tabF_len (n : Nat) (f : Nat → AV) : (tabF n f).length = n := by simp [tabF]
theorem tabF_get {n : Nat} {f : Nat → AV} {k : Nat} (h : k < n) : (tabF n f)[k]? = some (f k) := by simp [tabF, h]
theorem tabF_congr {n : Nat} {f g : Nat → AV} (h : ∀ k, k < n → f k = g k) : tabF n f = tabF n g := List.map_congr_left fun k hk => h k (by simpa using hk)
theorem tabF_set {n : Nat} {f g : Nat → AV} {k : Nat} {v : AV} (h : k < n) (hg : ∀ j, j < n → g j = if j = k then v else f j) : (tabF n f).set k v = tabF n g := by
  apply List.ext_getElem?
  intro j
  rw [List.getElem?_set]
  by_cases hj : j < n
  · rw [tabF_get hj, tabF_get hj, hg j hj]
    by_cases e : k = j
    · subst e; simp [tabF_len, h]
    · simp [e, Ne.symm e]
  · rw [List.getElem?_eq_none (by rw [tabF_len]; omega), List.getElem?_eq_none (by rw [tabF_len]; omega)]
    rw [if_neg (by omega)]
theorem tabF_rep (n : Nat) (v : AV) : List.replicate n v = tabF n fun _ => v := by
  unfold tabF; rw [List.map_const']; simp
theorem tabF_map {α : Type} (l : List α) (enc : α → AV) (d : α) : l.map enc = tabF l.length fun k => enc (l.getD k d) := by
  apply List.ext_getElem?
  intro j
  by_cases hj : j < l.length
  · rw [tabF_get hj]; simp [hj, List.getD_eq_getElem?_getD]
  · rw [List.getElem?_eq_none (by simp; omega), List.getElem?_eq_none (by rw [tabF_len]; omega)]
theorem tabF_of {α : Type} (n : Nat) (f : Nat → α) (enc : α → AV) : (tabF n fun k => enc (f k)) = ((List.range n).map f).map enc := by simp [tabF]

/-- How much is charged for so much, at a multiple of so much; why not. -/
def chargeF (c : Cf) (s a : Int) : Nat × Nat :=
  if (logF a).2 = false ∨ a > c.N then (0, 3) else if s < 0 ∨ s > c.N then (0, 4) else (upN (max (max s.toNat a.toNat) c.G), 0)
def prodF (c : Cf) (n s : Int) : Nat × Nat :=
  if n < 0 ∨ s < 0 then (0, 2) else if n * s ≤ c.N then ((n * s).toNat, 0) else (0, 4)
def newF (c : Cf) (live s a : Int) : Nat × Nat :=
  if (chargeF c s a).2 ≠ 0 then (0, (chargeF c s a).2) else if live > (c.M : Int) - (chargeF c s a).1 then (0, 5) else ((chargeF c s a).1, 0)
def manyF (c : Cf) (live n s : Int) : Nat × Nat :=
  if (prodF c n s).2 ≠ 0 then (0, (prodF c n s).2) else newF c live (prodF c n s).1 1

/-- A block: where, how much is charged, how much was asked for. -/
structure Bk where
  a : Int
  c : Int
  q : Int
  deriving DecidableEq
def eB (b : Bk) : AV := .agg [i64 b.a, i64 b.c, i64 b.q]
/-- All that there is. -/
structure Mo where
  c : Cf
  bs : List Bk
  live : Int
  peak : Int
  mark : Int
  on : List Bool
  mem : List Nat
  deriving DecidableEq
def lK (l : List Bk) : AV := .lst t_api_Block (l.map eB)
def lT (l : List Bool) : AV := .lst t_bool (l.map .bool)
def lU (l : List Nat) : AV := .lst t_uint8 (l.map u8)
def eM (m : Mo) : AV := .agg [i64 m.c.G, i64 m.c.N, i64 m.c.M, i64 m.c.L, i64 m.c.Pg, i64 m.c.P, i64 m.c.H, i64 m.c.Sd, lK m.bs, i64 m.live, i64 m.peak, i64 m.mark, lT m.on, lU m.mem]
/-- What a call is told. -/
structure An where
  e : Nat
  at' : Int
  n : Int
  b : Nat
  live : Int
  peak : Int
  mark : Int
  pg : Int
  deriving DecidableEq
def eA (x : An) : AV := .agg [i64 x.e, i64 x.at', i64 x.n, .int .u8 (x.b : Int), i64 x.live, i64 x.peak, i64 x.mark, i64 x.pg]
def an0 : An := ⟨0, 0, 0, 0, 0, 0, 0, 0⟩
def anE (e : Nat) : An := ⟨e, 0, 0, 0, 0, 0, 0, 0⟩

def ovr (a n b m : Int) : Bool := decide (a < b + m ∧ b < a + n)
def freeAt (l : List Bk) (n y : Int) : Bool := l.all fun b => !ovr y n b.a b.c
/-- The lowest place of so much. -/
def lowGo (l : List Bk) (n : Nat) : Nat → Nat → Nat × Bool
  | 0, _ => (0, false)
  | f + 1, k => if freeAt l n (k * n : Nat) = true then (k * n, true) else lowGo l n f (k + 1)
def lowF (c : Cf) (l : List Bk) (n : Nat) : Nat × Bool := lowGo l n (c.H / n) 0
def lowB (y : Int) : List Bk → Nat
  | [] => 0
  | x :: l => if x.a ≤ y then lowB y l + 1 else 0
def putB (l : List Bk) (b : Bk) : List Bk := l.take (lowB b.a l) ++ b :: l.drop (lowB b.a l)
def metF (pg size : Nat) (l : List Bk) : List Bool := (List.range (size / pg)).map fun i => l.any fun b => ovr (i * pg : Nat) pg b.a b.c
def cntB (l : List Bool) : Nat := (l.filter id).length
/-- Which pages are there then, which are fresh; none: too many. -/
def commitF (on met : List Bool) (first behind : Nat) (most : Nat) : List Bool × List Nat × Bool :=
  let these := fun i => decide (first ≤ i ∧ i < behind)
  let need := (List.range on.length).map fun i => met.getD i false || these i
  let all := (List.range on.length).map fun i => on.getD i false || these i
  let fresh := (List.range on.length).filter fun i => these i && !on.getD i false
  if cntB need > most then ([], [], false)
  else (if cntB all > most then (List.range on.length).map fun i => all.getD i false && need.getD i false else all, fresh, true)
def trimF (on met : List Bool) : List Bool × Nat :=
  ((List.range on.length).map fun i => on.getD i false && met.getD i false, ((List.range on.length).filter fun i => on.getD i false && !met.getD i false).length)
def byteF (seed page i : Nat) : Nat := (seed % 256 + 31 * (page % 256) + 7 * (i % 256) + 1) % 256
def fillF (mem : List Nat) (seed page size : Nat) : List Nat := (List.range mem.length).map fun i => if i / size = page then byteF seed page (i % size) else mem.getD i 0
def totalB (l : List Bk) : Int := (l.map (·.c)).sum
def placeF (m : Mo) (l : List Bk) (n : Nat) (q : Int) : Mo × Int × Nat :=
  let lo := lowF m.c l n
  if lo.2 = false then (m, 0, 7)
  else
    let co := commitF m.on (metF m.c.Pg m.c.H l) (lo.1 / m.c.Pg) ((lo.1 + n - 1) / m.c.Pg + 1) m.c.P
    if co.2.2 = false then (m, 0, 6)
    else
      let bs := putB l ⟨lo.1, n, q⟩
      ({ m with bs := bs, live := totalB bs, peak := max m.peak (totalB bs), mark := max m.mark (lo.1 + n), on := co.1, mem := co.2.1.foldl (fun mem p => fillF mem m.c.Sd p m.c.Pg) m.mem }, lo.1, 0)
def newM (r : Rw) : Mo × Nat :=
  if (ofF r).2 ≠ 0 then (⟨cf0, [], 0, 0, 0, [], []⟩, (ofF r).2) else (⟨(ofF r).1, [], 0, 0, 0, List.replicate ((ofF r).1.H / (ofF r).1.Pg) false, List.replicate (ofF r).1.H 0⟩, 0)
end Go.Ev.W
namespace Go.Ev.W
open Go.Ev Go.Ev.N

/-- Blocks that lie apart, rising, within so much. -/
structure ApB (H : Nat) (l : List Bk) : Prop where
  p : l.Pairwise fun x y => x.a + x.c ≤ y.a
  b : ∀ x ∈ l, 0 ≤ x.a ∧ 1 ≤ x.c ∧ x.a + x.c ≤ H
theorem ApB.nil (H : Nat) : ApB H [] := ⟨List.Pairwise.nil, by simp⟩
theorem ApB.sub {H : Nat} {l m : List Bk} (h : ApB H l) (hs : m.Sublist l) : ApB H m := ⟨h.p.sublist hs, fun x hx => h.b x (hs.subset hx)⟩
theorem lowB_le (y : Int) : ∀ l, lowB y l ≤ l.length
  | [] => Nat.le_refl _
  | m :: l => by
    have := lowB_le y l
    unfold lowB; split <;> simp <;> omega
theorem lowB_lt {y : Int} : ∀ {l : List Bk} {k : Nat} (hk : k < l.length), k < lowB y l → l[k].a ≤ y
  | [], k, h, _ => by simp at h
  | m :: l, 0, h, h2 => by
    unfold lowB at h2; split at h2
    · assumption
    · omega
  | m :: l, k + 1, h, h2 => by
    unfold lowB at h2; split at h2
    · exact lowB_lt (l := l) (by simpa using h) (by omega)
    · omega
theorem lowB_ge {y : Int} : ∀ {l : List Bk} (hk : lowB y l < l.length), y < l[lowB y l].a
  | [], h => by simp at h
  | m :: l, h => by
    by_cases hm : m.a ≤ y
    · have e : lowB y (m :: l) = lowB y l + 1 := by simp [lowB, hm]
      simp only [e] at h ⊢
      exact lowB_ge (l := l) (by simpa using h)
    · have e : lowB y (m :: l) = 0 := by simp [lowB, hm]
      simp only [e]
      simp; omega
/-- Those ahead of a place, and those behind it. -/
theorem put_split {H : Nat} : ∀ {l : List Bk}, ApB H l → ∀ y : Int, ∃ l1 l2, l = l1 ++ l2 ∧ lowB y l = l1.length ∧ (∀ x ∈ l1, x.a ≤ y) ∧ ∀ x ∈ l2, y < x.a
  | [], _, _ => ⟨[], [], rfl, rfl, by simp, by simp⟩
  | x :: l, h, y => by
    have hl : ApB H l := h.sub (List.sublist_cons_self _ _)
    by_cases hx : x.a ≤ y
    · obtain ⟨l1, l2, rfl, e, h1, h2⟩ := put_split hl y
      exact ⟨x :: l1, l2, rfl, by simp [lowB, hx, e], by simpa [hx] using h1, h2⟩
    · refine ⟨[], x :: l, rfl, by simp [lowB, hx], by simp, fun z hz => ?_⟩
      have := h.b x (by simp)
      rcases List.mem_cons.1 hz with rfl | hz
      · omega
      · have := (List.pairwise_cons.1 h.p).1 z hz; omega
theorem freeAt_iff {l : List Bk} {n y : Int} : freeAt l n y = true ↔ ∀ x ∈ l, ¬ (y < x.a + x.c ∧ x.a < y + n) := by
  simp only [freeAt, List.all_eq_true, Bool.not_eq_true', ovr, decide_eq_false_iff_not]
theorem putB_ok {H : Nat} {l : List Bk} (h : ApB H l) {b : Bk} (hf : freeAt l b.c b.a = true) (hb : 0 ≤ b.a ∧ 1 ≤ b.c ∧ b.a + b.c ≤ H) :
    ApB H (putB l b) ∧ (∀ x, x ∈ putB l b ↔ x = b ∨ x ∈ l) ∧ totalB (putB l b) = totalB l + b.c ∧ (putB l b).length = l.length + 1 := by
  obtain ⟨l1, l2, e, e1, h1, h2⟩ := put_split h b.a
  have e3 : putB l b = l1 ++ b :: l2 := by unfold putB; rw [e1, e, List.take_left, List.drop_left]
  rw [freeAt_iff] at hf
  have hp := h.p
  have hbb := h.b
  rw [e] at hp hbb hf
  rw [List.pairwise_append] at hp
  have g1 : ∀ x ∈ l1, x.a + x.c ≤ b.a := fun x hx => by have := hf x (by simp [hx]); have := h1 x hx; omega
  have g2 : ∀ x ∈ l2, b.a + b.c ≤ x.a := fun x hx => by have := hf x (by simp [hx]); have := h2 x hx; have := hbb x (by simp [hx]); omega
  rw [e3, e]
  refine ⟨⟨?_, fun x hx => ?_⟩, fun x => ?_, ?_, by simp; omega⟩
  · rw [List.pairwise_append, List.pairwise_cons]
    refine ⟨hp.1, ⟨g2, hp.2.1⟩, fun x hx y hy => ?_⟩
    rcases List.mem_cons.1 hy with rfl | hy
    · exact g1 x hx
    · exact hp.2.2 x hx y hy
  · simp only [List.mem_append, List.mem_cons] at hx
    rcases hx with hx | rfl | hx
    · exact hbb x (by simp [hx])
    · exact hb
    · exact hbb x (by simp [hx])
  · simp only [List.mem_append, List.mem_cons]
    constructor
    · rintro (h | h | h)
      · exact .inr (.inl h)
      · exact .inl h
      · exact .inr (.inr h)
    · rintro (h | h | h)
      · exact .inr (.inl h)
      · exact .inl h
      · exact .inr (.inr h)
  · simp only [totalB, List.map_append, List.sum_append, List.map_cons, List.sum_cons]; omega
theorem totalB_nonneg {H : Nat} {l : List Bk} (h : ApB H l) : (l.length : Int) ≤ totalB l := by
  have hb := h.b
  clear h
  induction l with
  | nil => simp [totalB]
  | cons x l ih =>
    have := ih fun y hy => hb y (by simp [hy])
    have := hb x (by simp)
    have e : totalB (x :: l) = x.c + totalB l := by simp only [totalB, List.map_cons, List.sum_cons]
    rw [e, List.length_cons]; omega
theorem lowGo_spec {l : List Bk} {n : Nat} : ∀ (f k : Nat), (lowGo l n f k).2 = true → ∃ j, k ≤ j ∧ j < k + f ∧ (lowGo l n f k).1 = j * n ∧ freeAt l n ((j * n : Nat) : Int) = true ∧ ∀ i, k ≤ i → i < j → freeAt l n ((i * n : Nat) : Int) = false
  | 0, k, h => by simp [lowGo] at h
  | f + 1, k, h => by
    unfold lowGo at h ⊢
    split at h
    · rename_i hf
      rw [if_pos hf]
      exact ⟨k, Nat.le_refl _, by omega, rfl, hf, fun i _ _ => by omega⟩
    · rename_i hf
      rw [if_neg hf]
      obtain ⟨j, h1, h2, h3, h4, h5⟩ := lowGo_spec f (k + 1) h
      refine ⟨j, by omega, by omega, h3, h4, fun i hi hj => ?_⟩
      rcases Nat.lt_or_ge k i with h' | h'
      · exact h5 i h' hj
      · have : i = k := by omega
        subst this; simpa using hf
theorem lowF_spec {c : Cf} {l : List Bk} {n : Nat} (hn : 1 ≤ n) (h : (lowF c l n).2 = true) : ∃ j, (lowF c l n).1 = j * n ∧ j * n + n ≤ c.H ∧ freeAt l n ((lowF c l n).1 : Nat) = true ∧ ∀ i, i < j → freeAt l n ((i * n : Nat) : Int) = false := by
  obtain ⟨j, _, h2, h3, h4, h5⟩ := lowGo_spec (c.H / n) 0 h
  refine ⟨j, h3, ?_, by unfold lowF; rw [h3]; exact h4, fun i hi => h5 i (Nat.zero_le _) hi⟩
  have : (j + 1) * n ≤ c.H / n * n := Nat.mul_le_mul_right _ (by omega)
  have := Nat.div_mul_le_self c.H n
  rw [Nat.succ_mul] at *
  omega
/-- What holds of all that there is. -/
structure MoOk (m : Mo) : Prop where
  c : m.c.Ok
  a : ApB m.c.H m.bs
  z : ∀ x ∈ m.bs, ∃ k, k ≤ m.c.L ∧ x.c = ((m.c.G * 2 ^ k : Nat) : Int) ∧ x.a % x.c = 0 ∧ 0 ≤ x.q ∧ x.q ≤ x.c
  l : m.live = totalB m.bs
  lM : m.live ≤ m.c.M
  p : m.live ≤ m.peak ∧ m.peak ≤ m.c.M
  k : (∀ x ∈ m.bs, x.a + x.c ≤ m.mark) ∧ 0 ≤ m.mark ∧ m.mark ≤ m.c.H
  o : m.on.length = m.c.H / m.c.Pg
  on : cntB m.on ≤ m.c.P
  mm : m.mem.length = m.c.H
  b : IsB m.mem
end Go.Ev.W
namespace Go.Ev.W
open Go.Ev Go.Ev.N

theorem tdiv_rng {w s : Int} (h1 : -9223372036854775808 ≤ w) (h2 : w ≤ 9223372036854775807) (hs : 1 ≤ s) : -9223372036854775808 ≤ w.tdiv s ∧ w.tdiv s ≤ 9223372036854775807 := by
  rcases Int.lt_or_le w 0 with h | h
  · obtain ⟨y, rfl⟩ : ∃ y, w = -y := ⟨-w, by omega⟩
    rw [Int.neg_tdiv, Int.tdiv_eq_ediv_of_nonneg (show 0 ≤ y by omega)]
    have a := Int.ediv_nonneg (show 0 ≤ y by omega) (show 0 ≤ s by omega)
    have b := Int.ediv_le_self s (show 0 ≤ y by omega)
    omega
  · rw [Int.tdiv_eq_ediv_of_nonneg h]
    have a := Int.ediv_nonneg h (show 0 ≤ s by omega)
    have b := Int.ediv_le_self s h
    omega
theorem mul_over {n s : Int} (hn : 0 ≤ n) (hs : 1 ≤ s ∧ s ≤ 9223372036854775807) (h : 9223372036854775808 ≤ n * s) : (IntKind.i64.wrap (n * s)).tdiv s ≠ n := by
  intro e
  have h1 := Int.mul_tdiv_add_tmod (IntKind.i64.wrap (n * s)) s
  rw [e] at h1
  have h2 := Int.tmod_lt_of_pos (IntKind.i64.wrap (n * s)) (show (0 : Int) < s by omega)
  have h3 := Int.lt_tmod_of_pos (IntKind.i64.wrap (n * s)) (show (0 : Int) < s by omega)
  rw [Int.mul_comm s n] at h1
  generalize (IntKind.i64.wrap (n * s)).tmod s = d at *
  rw [IntKind.wrap_i64] at h1
  generalize n * s = p at *
  omega
theorem refMul_told (n s : Int) (hn : 0 ≤ n ∧ n ≤ 9223372036854775807) (hs : 0 ≤ s ∧ s ≤ 9223372036854775807) : Told P T ref1_Mul [] [i64 n, i64 s] (.tup [i64 (if n * s ≤ 9223372036854775807 then n * s else 0), .bool (decide (n * s ≤ 9223372036854775807))]) [] := by
  refine told_of_ev (fn := ref1_Mul_fn) tabOk mixed (by kernel_rfl) (by kernel_rfl) (by kernel_rfl) (by kernel_rfl) ?_
  (refine gw ?_; first | refine IfB.dec (fun h1 => ?_) (fun h1 => ?_) | refine IfB.eq (fun h1 => ?_) (fun h1 => ?_) | refine IfB.ne (fun h1 => ?_) (fun h1 => ?_) | refine IfB.mk (fun h1 => ?_) (fun h1 => ?_))
  · rw [h1, Int.zero_mul]
    (refine gw ?_; exact RetN.mk ⟨[], rfl, rfl, rfl⟩)
  · (refine gw ?_; first | refine IfB.dec (fun h2 => ?_) (fun h2 => ?_) | refine IfB.eq (fun h2 => ?_) (fun h2 => ?_) | refine IfB.ne (fun h2 => ?_) (fun h2 => ?_) | refine IfB.mk (fun h2 => ?_) (fun h2 => ?_))
    · rw [h2, Int.mul_zero]
      (refine gw ?_; exact RetN.mk ⟨[], rfl, rfl, rfl⟩)
    · have hp : 0 ≤ n * s := Int.mul_nonneg hn.1 hs.1
      (refine gw ?_)
      refine Fits.mk ?_
      by_cases h : n * s ≤ 9223372036854775807
      · rw [wrap64 (by omega) h, if_pos h, decide_eq_true h]
        have e : (n * s).tdiv s = n := Int.mul_tdiv_cancel n (by omega)
        (refine gw ?_; first | refine IfB.dec (fun h3 => ?_) (fun h3 => ?_) | refine IfB.eq (fun h3 => ?_) (fun h3 => ?_) | refine IfB.ne (fun h3 => ?_) (fun h3 => ?_) | refine IfB.mk (fun h3 => ?_) (fun h3 => ?_))
        · omega
        · (refine gw ?_; first | refine IfB.dec (fun h4 => ?_) (fun h4 => ?_) | refine IfB.eq (fun h4 => ?_) (fun h4 => ?_) | refine IfB.ne (fun h4 => ?_) (fun h4 => ?_) | refine IfB.mk (fun h4 => ?_) (fun h4 => ?_))
          · omega
          · (refine gw ?_)
            rw [e]
            (refine gw ?_; exact RetN.mk ⟨[], rfl, rfl, rfl⟩)
      · rw [if_neg h, decide_eq_false h]
        have hne := mul_over hn.1 (s := s) (by omega) (by omega)
        obtain ⟨w, hw⟩ : ∃ w, IntKind.i64.wrap (n * s) = w := ⟨_, rfl⟩
        have hwr : -9223372036854775808 ≤ w ∧ w ≤ 9223372036854775807 := by
          rw [← hw, IntKind.wrap_i64]; omega
        rw [hw] at hne ⊢
        have ht := tdiv_rng hwr.1 hwr.2 (s := s) (by omega)
        (refine gw ?_; first | refine IfB.dec (fun h3 => ?_) (fun h3 => ?_) | refine IfB.eq (fun h3 => ?_) (fun h3 => ?_) | refine IfB.ne (fun h3 => ?_) (fun h3 => ?_) | refine IfB.mk (fun h3 => ?_) (fun h3 => ?_))
        · omega
        · (refine gw ?_; first | refine IfB.dec (fun h4 => ?_) (fun h4 => ?_) | refine IfB.eq (fun h4 => ?_) (fun h4 => ?_) | refine IfB.ne (fun h4 => ?_) (fun h4 => ?_) | refine IfB.mk (fun h4 => ?_) (fun h4 => ?_))
          · omega
          · (refine gw ?_; refine IfB.tt (by simpa using hne) ?_)
            (refine gw ?_; exact RetN.mk ⟨[], rfl, rfl, rfl⟩)
theorem refProd_told {c : Cf} (hc : c.N ≤ 65536) (n s : Int) (hn : -9223372036854775808 ≤ n ∧ n ≤ 9223372036854775807) (hs : -9223372036854775808 ≤ s ∧ s ≤ 9223372036854775807) : Told P T ref1_Product [] [eC c, i64 n, i64 s] (.tup [i64 ((prodF c n s).1 : Nat), i64 ((prodF c n s).2 : Nat)]) [] := by
  refine told_of_ev (fn := ref1_Product_fn) tabOk mixed (by kernel_rfl) (by kernel_rfl) (by kernel_rfl) (by kernel_rfl) ?_
  (refine gw ?_; first | refine IfB.dec (fun h1 => ?_) (fun h1 => ?_) | refine IfB.eq (fun h1 => ?_) (fun h1 => ?_) | refine IfB.ne (fun h1 => ?_) (fun h1 => ?_) | refine IfB.mk (fun h1 => ?_) (fun h1 => ?_))
  · rw [show prodF c n s = (0, 2) by unfold prodF; rw [if_pos (.inl h1)]]
    (refine gw ?_; exact RetN.mk ⟨[], rfl, rfl, rfl⟩)
  · (refine gw ?_; first | refine IfB.dec (fun h2 => ?_) (fun h2 => ?_) | refine IfB.eq (fun h2 => ?_) (fun h2 => ?_) | refine IfB.ne (fun h2 => ?_) (fun h2 => ?_) | refine IfB.mk (fun h2 => ?_) (fun h2 => ?_))
    · rw [show prodF c n s = (0, 2) by unfold prodF; rw [if_pos (.inr h2)]]
      (refine gw ?_; exact RetN.mk ⟨[], rfl, rfl, rfl⟩)
    · have hm := refMul_told n s (by omega) (by omega)
      have hp : 0 ≤ n * s := Int.mul_nonneg (by omega) (by omega)
      by_cases h : n * s ≤ 9223372036854775807
      · rw [if_pos h, decide_eq_true h] at hm
        (refine gw ?_; refine Choice.mk ⟨false, Choice.mk ⟨true, _, _, hm, ?_⟩⟩)
        (refine gw ?_; first | refine IfB.dec (fun h3 => ?_) (fun h3 => ?_) | refine IfB.eq (fun h3 => ?_) (fun h3 => ?_) | refine IfB.ne (fun h3 => ?_) (fun h3 => ?_) | refine IfB.mk (fun h3 => ?_) (fun h3 => ?_))
        · rw [show prodF c n s = (0, 4) by unfold prodF; rw [if_neg (by omega), if_neg (by omega)]]
          (refine gw ?_; exact RetN.mk ⟨[], rfl, rfl, rfl⟩)
        · rw [show prodF c n s = ((n * s).toNat, 0) by unfold prodF; rw [if_neg (by omega), if_pos (by omega)]]
          have e : (((n * s).toNat : Nat) : Int) = n * s := by omega
          rw [e]
          (refine gw ?_; exact RetN.mk ⟨[], rfl, rfl, rfl⟩)
      · rw [if_neg h, decide_eq_false h] at hm
        rw [show prodF c n s = (0, 4) by unfold prodF; rw [if_neg (by omega), if_neg (by omega)]]
        (refine gw ?_; refine Choice.mk ⟨false, Choice.mk ⟨true, _, _, hm, ?_⟩⟩)
        (refine gw ?_; exact RetN.mk ⟨[], rfl, rfl, rfl⟩)
theorem refCharge_told {c : Cf} (hc : c.N ≤ 65536) (hg : c.G ≤ 65536) (hg1 : 1 ≤ c.G) (s a : Int) (ha : a ≤ 9223372036854775807) : Told P T ref1_Charge [] [eC c, i64 s, i64 a] (.tup [i64 ((chargeF c s a).1 : Nat), i64 ((chargeF c s a).2 : Nat)]) [] := by
  refine told_of_ev (fn := ref1_Charge_fn) tabOk mixed (by kernel_rfl) (by kernel_rfl) (by kernel_rfl) (by kernel_rfl) ?_
  (refine gw ?_; refine Choice.mk ⟨false, Choice.mk ⟨true, _, _, refLog_told a ha, ?_⟩⟩)
  cases h1 : (logF a).2 with
  | false =>
    rw [show chargeF c s a = (0, 3) by unfold chargeF; rw [if_pos (.inl h1)]]
    (refine gw ?_; exact RetN.mk ⟨[], rfl, rfl, rfl⟩)
  | true =>
    have ha1 : 1 ≤ a := by
      unfold logF at h1; split at h1
      · rename_i h; exact h.1
      · cases h1
    (refine gw ?_; first | refine IfB.dec (fun h2 => ?_) (fun h2 => ?_) | refine IfB.eq (fun h2 => ?_) (fun h2 => ?_) | refine IfB.ne (fun h2 => ?_) (fun h2 => ?_) | refine IfB.mk (fun h2 => ?_) (fun h2 => ?_))
    · rw [show chargeF c s a = (0, 3) by unfold chargeF; rw [if_pos (.inr h2)]]
      (refine gw ?_; exact RetN.mk ⟨[], rfl, rfl, rfl⟩)
    · (refine gw ?_; first | refine IfB.dec (fun h3 => ?_) (fun h3 => ?_) | refine IfB.eq (fun h3 => ?_) (fun h3 => ?_) | refine IfB.ne (fun h3 => ?_) (fun h3 => ?_) | refine IfB.mk (fun h3 => ?_) (fun h3 => ?_))
      · rw [show chargeF c s a = (0, 4) by unfold chargeF; rw [if_neg (by rw [h1]; simp; omega), if_pos (.inl h3)]]
        (refine gw ?_; exact RetN.mk ⟨[], rfl, rfl, rfl⟩)
      · (refine gw ?_; first | refine IfB.dec (fun h4 => ?_) (fun h4 => ?_) | refine IfB.eq (fun h4 => ?_) (fun h4 => ?_) | refine IfB.ne (fun h4 => ?_) (fun h4 => ?_) | refine IfB.mk (fun h4 => ?_) (fun h4 => ?_))
        · rw [show chargeF c s a = (0, 4) by unfold chargeF; rw [if_neg (by rw [h1]; simp; omega), if_pos (.inr h4)]]
          (refine gw ?_; exact RetN.mk ⟨[], rfl, rfl, rfl⟩)
        · have cu := refUp_told (max (max s.toNat a.toNat) c.G) (by omega) (by omega)
          have e1 : (if a > s then a else s) = ((max s.toNat a.toNat : Nat) : Int) := by split <;> omega
          have e2 : (if ((c.G : Nat) : Int) > ((max s.toNat a.toNat : Nat) : Int) then ((c.G : Nat) : Int) else ((max s.toNat a.toNat : Nat) : Int)) = ((max (max s.toNat a.toNat) c.G : Nat) : Int) := by split <;> omega
          rw [← e2, ← e1] at cu
          rw [show chargeF c s a = (upN (max (max s.toNat a.toNat) c.G), 0) by unfold chargeF; rw [if_neg (by rw [h1]; simp; omega), if_neg (by omega)]]
          (refine gw ?_; refine Choice.mk ⟨false, Choice.mk ⟨true, _, _, cu, ?_⟩⟩)
          (refine gw ?_; exact RetN.mk ⟨[], rfl, rfl, rfl⟩)
theorem chargeF_bd {c : Cf} (hc : c.Ok) (s a : Int) : (chargeF c s a).1 ≤ 65536 ∧ ((chargeF c s a).2 = 0 → ∃ k, k ≤ c.L ∧ (chargeF c s a).1 = c.G * 2 ^ k ∧ 0 ≤ s ∧ s ≤ (chargeF c s a).1) := by
  unfold chargeF
  split
  · simp
  · split
    · simp
    · rename_i h1 h2
      simp only [not_or] at h1 h2
      have ha : a ≤ c.N := by omega
      have hN := hc.n
      obtain ⟨g, hg⟩ := hc.g
      have hpN : c.N = 2 ^ (g + c.L) := by rw [hN, hg, Nat.pow_add]
      have hle : upN (max (max s.toNat a.toNat) c.G) ≤ 2 ^ (g + c.L) := by
        refine upN_le ?_
        rw [← hpN]
        have hgN : c.G ≤ c.N := by rw [hN]; exact Nat.le_mul_of_pos_right _ (Nat.two_pow_pos _)
        omega
      have hb := hc.nM
      have hb2 := hc.mH
      refine ⟨by rw [← hpN] at hle; omega, fun _ => ?_⟩
      obtain ⟨e, he⟩ := pow_up (v := max s.toNat a.toNat) hc.g
      refine ⟨e, ?_, he, by omega, ?_⟩
      · rw [he, hg, ← Nat.pow_add] at hle
        have := (Nat.pow_le_pow_iff_right (a := 2) (by omega)).1 hle
        omega
      · have := le_upN (max (max s.toNat a.toNat) c.G)
        show s ≤ ((upN _ : Nat) : Int)
        omega
theorem refNew_told {c : Cf} (hc : c.Ok) (live s a : Int) (hl : -9223372036854775808 ≤ live ∧ live ≤ 9223372036854775807) (ha : a ≤ 9223372036854775807) : Told P T ref1_New [] [eC c, i64 live, i64 s, i64 a] (.tup [i64 ((newF c live s a).1 : Nat), i64 ((newF c live s a).2 : Nat)]) [] := by
  have h1 := hc.nM
  have h2 := hc.mH
  have h3 := hc.gpos
  have h4 : c.G ≤ c.N := by rw [hc.n]; exact Nat.le_mul_of_pos_right _ (Nat.two_pow_pos _)
  have hb := (chargeF_bd hc s a).1
  refine told_of_ev (fn := ref1_New_fn) tabOk mixed (by kernel_rfl) (by kernel_rfl) (by kernel_rfl) (by kernel_rfl) ?_
  (refine gw ?_; refine Choice.mk ⟨false, Choice.mk ⟨true, _, _, refCharge_told (by omega) (by omega) h3 s a ha, ?_⟩⟩)
  (refine gw ?_; first | refine IfB.dec (fun g1 => ?_) (fun g1 => ?_) | refine IfB.eq (fun g1 => ?_) (fun g1 => ?_) | refine IfB.ne (fun g1 => ?_) (fun g1 => ?_) | refine IfB.mk (fun g1 => ?_) (fun g1 => ?_))
  · rw [show newF c live s a = (0, (chargeF c s a).2) by unfold newF; rw [if_pos (by omega)]]
    (refine gw ?_; exact RetN.mk ⟨[], rfl, rfl, rfl⟩)
  · (refine gw ?_; first | refine IfB.dec (fun g2 => ?_) (fun g2 => ?_) | refine IfB.eq (fun g2 => ?_) (fun g2 => ?_) | refine IfB.ne (fun g2 => ?_) (fun g2 => ?_) | refine IfB.mk (fun g2 => ?_) (fun g2 => ?_))
    · rw [show newF c live s a = (0, 5) by unfold newF; rw [if_neg (by omega), if_pos g2]]
      (refine gw ?_; exact RetN.mk ⟨[], rfl, rfl, rfl⟩)
    · rw [show newF c live s a = ((chargeF c s a).1, 0) by unfold newF; rw [if_neg (by omega), if_neg g2]]
      (refine gw ?_; exact RetN.mk ⟨[], rfl, rfl, rfl⟩)
theorem prodF_bd {c : Cf} (n s : Int) : (prodF c n s).1 ≤ c.N := by
  unfold prodF; split
  · simp
  · split
    · show (n * s).toNat ≤ _; omega
    · simp
theorem refMany_told {c : Cf} (hc : c.Ok) (live n s : Int) (hl : -9223372036854775808 ≤ live ∧ live ≤ 9223372036854775807) (hn : -9223372036854775808 ≤ n ∧ n ≤ 9223372036854775807) (hs : -9223372036854775808 ≤ s ∧ s ≤ 9223372036854775807) : Told P T ref1_Many [] [eC c, i64 live, i64 n, i64 s] (.tup [i64 ((manyF c live n s).1 : Nat), i64 ((manyF c live n s).2 : Nat)]) [] := by
  have h1 := hc.nM
  have h2 := hc.mH
  have h3 := prodF_bd (c := c) n s
  refine told_of_ev (fn := ref1_Many_fn) tabOk mixed (by kernel_rfl) (by kernel_rfl) (by kernel_rfl) (by kernel_rfl) ?_
  (refine gw ?_; refine Choice.mk ⟨false, Choice.mk ⟨true, _, _, refProd_told (c := c) (by omega) n s hn hs, ?_⟩⟩)
  (refine gw ?_; first | refine IfB.dec (fun g1 => ?_) (fun g1 => ?_) | refine IfB.eq (fun g1 => ?_) (fun g1 => ?_) | refine IfB.ne (fun g1 => ?_) (fun g1 => ?_) | refine IfB.mk (fun g1 => ?_) (fun g1 => ?_))
  · rw [show manyF c live n s = (0, (prodF c n s).2) by unfold manyF; rw [if_pos (by omega)]]
    (refine gw ?_; exact RetN.mk ⟨[], rfl, rfl, rfl⟩)
  · rw [show manyF c live n s = newF c live (prodF c n s).1 1 by unfold manyF; rw [if_neg (by omega)]]
    (refine gw ?_; refine Choice.mk ⟨false, Choice.mk ⟨true, _, _, refNew_told hc live ((prodF c n s).1 : Nat) 1 hl (by omega), ?_⟩⟩)
    (refine gw ?_; exact RetN.mk ⟨[], rfl, rfl, rfl⟩)
theorem refAnew_told {c : Cf} (hc : c.Ok) (live old s : Int) (hl : -1000000 ≤ live ∧ live ≤ 1000000) (ho : -1000000 ≤ old ∧ old ≤ 1000000) : Told P T ref1_Anew [] [eC c, i64 live, i64 old, i64 s] (.tup [i64 ((newF c (live - old) s 1).1 : Nat), i64 ((newF c (live - old) s 1).2 : Nat)]) [] := by
  refine told_of_ev (fn := ref1_Anew_fn) tabOk mixed (by kernel_rfl) (by kernel_rfl) (by kernel_rfl) (by kernel_rfl) ?_
  (refine gw ?_; refine Choice.mk ⟨false, Choice.mk ⟨true, _, _, refNew_told hc (live - old) s 1 (by omega) (by omega), ?_⟩⟩)
  (refine gw ?_; exact RetN.mk ⟨[], rfl, rfl, rfl⟩)
end Go.Ev.W
namespace Go.Ev.W
open Go.Ev Go.Ev.N

theorem ovr_told (a n b m : Int) (h : -4000000000000000000 ≤ a ∧ a ≤ 4000000000000000000 ∧ 0 ≤ n ∧ n ≤ 4000000000000000000 ∧ -4000000000000000000 ≤ b ∧ b ≤ 4000000000000000000 ∧ 0 ≤ m ∧ m ≤ 4000000000000000000) : Told P T ref8_Over [] [.agg [i64 a, i64 n], .agg [i64 b, i64 m]] (.bool (ovr a n b m)) [] := by
  refine told_of_ev (fn := ref8_Over_fn) tabOk mixed (by kernel_rfl) (by kernel_rfl) (by kernel_rfl) (by kernel_rfl) ?_
  repeat' ((conv => whnf); first | (refine Sure.mk (by kernel_rfl) ?_) | (refine IfB.tt rfl ?_) | (refine IfB.ff rfl ?_) | (refine IfB.tt ?_ ?_; (focus (simp <;> fail))) | (refine IfB.ff ?_ ?_; (focus (simp <;> fail))) | (refine fits (wrap64 ?_ ?_) ?_; (focus omega); (focus omega)) | (refine fits (wrapU64 ?_ ?_) ?_; (focus omega); (focus omega)) | (refine Need.mk ?_ ?_; (focus omega)) | (refine InB.mk ?_ ?_ ?_; (focus omega); (focus omega)) | (refine IfB.dec (fun h => ?_) (fun h => ?_)) | (refine IfB.eq (fun h => ?_) (fun h => ?_)) | (refine IfB.ne (fun h => ?_) (fun h => ?_)))
  all_goals (refine gw ?_; refine RetN.mk ⟨[], rfl, ?_, rfl⟩)
  all_goals ((try (conv => lhs; whnf)); (try simp [ovr, *]); (try omega))
def findB (l : List Bk) (y : Int) : Option Nat := l.findIdx? fun x => decide (x.a = y)
theorem findB_some {l : List Bk} {y : Int} {i : Nat} (hi : i < l.length) (h : ∀ j (h : j < l.length), j < i → l[j].a ≠ y) (h2 : l[i].a = y) : findB l y = some i := by
  unfold findB
  rw [List.findIdx?_eq_some_iff_getElem]
  exact ⟨hi, by simpa using h2, fun j hj => by simpa using h j (by omega) hj⟩
theorem findB_none {l : List Bk} {y : Int} (h : ∀ j (h : j < l.length), l[j].a ≠ y) : findB l y = none := by
  unfold findB
  rw [List.findIdx?_eq_none_iff]
  intro x hx
  obtain ⟨j, hj, rfl⟩ := List.getElem_of_mem hx
  simpa using h j hj
theorem find17_told (l : List Bk) (hl : l.length ≤ 1000000) (y : Int) : Told P T ref17_Find [] [lK l, i64 y] (i64 (match findB l y with | some i => ((i : Nat) : Int) | none => -1)) [] := by
  have hml : (l.map eB).length = l.length := by simp
  refine told_of_ev (fn := ref17_Find_fn) tabOk mixed (by kernel_rfl) (by kernel_rfl) (by kernel_rfl) (by kernel_rfl) ?_
  (refine gw ?_; refine LoopN.mk ⟨[0,1,5], fun vs L => ∃ i : Nat, vs = [lK l, i64 y, i64 i] ∧ L = [] ∧ i ≤ l.length ∧ ∀ j (h : j < l.length), j < i → l[j].a ≠ y, fun vs L => match vs with | [_, _, .int _ i] => l.length - i.toNat | _ => 0, [], [], rfl, ⟨0, rfl, rfl, by omega, fun j _ h => by omega⟩, ?_⟩)
  rintro vs L ⟨i, rfl, rfl, hi, hn⟩
  (refine gw ?_; first | refine IfB.dec (fun h1 => ?_) (fun h1 => ?_) | refine IfB.eq (fun h1 => ?_) (fun h1 => ?_) | refine IfB.ne (fun h1 => ?_) (fun h1 => ?_) | refine IfB.mk (fun h1 => ?_) (fun h1 => ?_))
  · have hlt : i < l.length := by omega
    (refine gw ?_; refine idx_map (hlt) ?_)
    (refine gw ?_; first | refine IfB.dec (fun h2 => ?_) (fun h2 => ?_) | refine IfB.eq (fun h2 => ?_) (fun h2 => ?_) | refine IfB.ne (fun h2 => ?_) (fun h2 => ?_) | refine IfB.mk (fun h2 => ?_) (fun h2 => ?_))
    · rw [findB_some hlt hn h2]
      (refine gw ?_; exact RetN.mk ⟨[], rfl, rfl, rfl⟩)
    · (refine gw ?_; refine ⟨[], [], rfl, ⟨i + 1, rfl, rfl, hlt, fun j h hj => ?_⟩, (by omega : l.length - ((i : Int) + 1).toNat < l.length - (i : Int).toNat)⟩)
      rcases Nat.lt_or_ge j i with h' | h'
      · exact hn j h h'
      · have : j = i := by omega
        subst this; exact h2
  · rw [findB_none fun j hj => hn j hj (by omega)]
    (refine gw ?_; exact RetN.mk ⟨[], rfl, rfl, rfl⟩)
theorem allB_succ {p : Bk → Bool} {l : List Bk} {i : Nat} (h : i < l.length) : (l.take (i + 1)).all p = ((l.take i).all p && p l[i]) := by
  rw [List.take_succ_eq_append_getElem h, List.all_append]; simp
set_option maxHeartbeats 1000000 in
theorem lowest17_told {c : Cf} (hc : c.Ok) {l : List Bk} (ha : ApB c.H l) {n : Nat} (hn : 1 ≤ n) (hn2 : n ≤ 65536) : Told P T ref17_Lowest [] [eC c, lK l, i64 n] (.tup [i64 ((lowF c l n).1 : Nat), .bool (lowF c l n).2]) [] := by
  have hml : (l.map eB).length = l.length := by simp
  have hH := hc.h2
  have hd := Nat.div_mul_le_self c.H n
  have hdl := Nat.div_add_mod c.H n
  have hdm := Nat.mod_lt c.H hn
  have hlen : l.length ≤ 65536 := by
    have h1 := totalB_nonneg ha
    rcases Nat.lt_or_ge 65536 l.length with h | h
    · exfalso
      -- the last one begins no lower than its number
      have key : ∀ i (h : i < l.length), (i : Int) ≤ l[i].a := by
        intro i
        induction i with
        | zero => intro h; have := ha.b _ (List.getElem_mem h); omega
        | succ i ih =>
          intro h
          have h1 := ih (by omega)
          have h2 := List.pairwise_iff_getElem.1 ha.p i (i + 1) (by omega) h (by omega)
          have h3 := ha.b _ (List.getElem_mem (show i < l.length by omega))
          omega
      have h2 := key 65536 h
      have h3 := ha.b _ (List.getElem_mem h)
      omega
    · exact h
  obtain ⟨R, hR⟩ : ∃ R, lowF c l n = R := ⟨_, rfl⟩
  obtain ⟨D, hD⟩ : ∃ D, c.H / n = D := ⟨_, rfl⟩
  rw [hD] at hd hdl
  rw [hR]
  refine told_of_ev (fn := ref17_Lowest_fn) tabOk mixed (by kernel_rfl) (by kernel_rfl) (by kernel_rfl) (by kernel_rfl) ?_
  (refine gw ?_; refine LoopN.mk ⟨[1,2,3,8], fun vs L => ∃ k : Nat, vs = [lK l, i64 n, .ptr 0 0 0, i64 (k * n : Nat)] ∧ L = [.var (eC c)] ∧ k ≤ D ∧ R = lowGo l n (D - k) k, fun vs L => match vs with | [_, _, _, .int _ i] => c.H + n - i.toNat | _ => 0, [], [0], rfl, ⟨0, by rw [Nat.zero_mul]; rfl, rfl, by omega, by rw [← hR, ← hD]; rfl⟩, ?_⟩)
  rintro vs L ⟨k, rfl, rfl, hk, he⟩
  have hkn : k * n ≤ D * n := Nat.mul_le_mul_right _ hk
  have hsn : (k + 1) * n = k * n + n := by rw [Nat.succ_mul]
  have hlt : k * n + n ≤ c.H → k < D := fun h => by
    rcases Nat.lt_or_ge k D with h' | h'
    · exact h'
    · have : D * n ≤ k * n := Nat.mul_le_mul_right _ h'
      rw [Nat.mul_comm n D] at hdl
      omega
  have hge : k < D → k * n + n ≤ c.H := fun h => by
    have : (k + 1) * n ≤ D * n := Nat.mul_le_mul_right _ h
    omega
  obtain ⟨y, hy⟩ : ∃ y, k * n = y := ⟨_, rfl⟩
  rw [hy] at hkn hsn hlt hge ⊢
  (refine gw ?_; first | refine IfB.dec (fun h1 => ?_) (fun h1 => ?_) | refine IfB.eq (fun h1 => ?_) (fun h1 => ?_) | refine IfB.ne (fun h1 => ?_) (fun h1 => ?_) | refine IfB.mk (fun h1 => ?_) (fun h1 => ?_))
  · have hkD := hlt (by omega)
    have e1 : D - k = (D - (k + 1)) + 1 := by omega
    rw [e1, lowGo, hy] at he
    (refine gw ?_; refine LoopN.mk ⟨[1,2,3,8,9,10], fun vs L => ∃ j : Nat, vs = [lK l, i64 n, .ptr 0 0 0, i64 y, .bool ((l.take j).all fun b => !ovr y n b.a b.c), i64 j] ∧ L = [.var (eC c)] ∧ j ≤ l.length, fun vs L => match vs with | [_, _, _, _, _, .int _ i] => l.length - i.toNat | _ => 0, [], [0], rfl, ⟨0, rfl, rfl, by omega⟩, ?_⟩)
    rintro vs L ⟨j, rfl, rfl, hj⟩
    have fin : ∀ v, freeAt l n (y : Nat) = v → True := fun _ _ => trivial
    (refine gw ?_; first | refine IfB.dec (fun g1 => ?_) (fun g1 => ?_) | refine IfB.eq (fun g1 => ?_) (fun g1 => ?_) | refine IfB.ne (fun g1 => ?_) (fun g1 => ?_) | refine IfB.mk (fun g1 => ?_) (fun g1 => ?_))
    · have hjl : j < l.length := by omega
      have hs := allB_succ (p := fun b => !ovr y n b.a b.c) hjl
      cases g2 : (l.take j).all (fun b => !ovr y n b.a b.c) with
      | true =>
        rw [g2, Bool.true_and] at hs
        have hb := ha.b _ (List.getElem_mem hjl)
        (refine gw ?_; refine idx_map (hjl) ?_)
        (refine gw ?_; refine idx_map (hjl) ?_)
        (refine gw ?_; refine Choice.mk ⟨false, Choice.mk ⟨true, _, _, ovr_told y n l[j].a l[j].c (by omega), ?_⟩⟩)
        (refine gw ?_; refine ⟨[], [0], rfl, ⟨j + 1, by rw [hs]; rfl, rfl, hjl⟩, (by omega : l.length - ((j : Int) + 1).toNat < l.length - (j : Int).toNat)⟩)
      | false =>
        have hf : freeAt l n (y : Nat) = false := by
          unfold freeAt
          have : l.all (fun b => !ovr y n b.a b.c) = ((l.take j).all (fun b => !ovr y n b.a b.c) && (l.drop j).all (fun b => !ovr y n b.a b.c)) := by
            rw [← List.all_append, List.take_append_drop]
          rw [this, g2]; rfl
        rw [hf, if_neg (by simp)] at he
        (refine gw ?_; refine ⟨[], [0], rfl, ⟨k + 1, by rw [hsn]; rfl, rfl, hkD, he⟩, (by omega : c.H + n - ((y : Int) + (n : Int)).toNat < c.H + n - (y : Int).toNat)⟩)
    · have e : j = l.length := by omega
      subst e
      rw [List.take_length]
      cases g2 : freeAt l n (y : Nat) with
      | true =>
        rw [g2, if_pos rfl] at he
        rw [show (l.all fun b => !ovr y n b.a b.c) = true from g2, he]
        (refine gw ?_; exact RetN.mk ⟨[], rfl, rfl, rfl⟩)
      | false =>
        rw [g2, if_neg (by simp)] at he
        rw [show (l.all fun b => !ovr y n b.a b.c) = false from g2]
        (refine gw ?_; refine ⟨[], [0], rfl, ⟨k + 1, by rw [hsn]; rfl, rfl, hkD, he⟩, (by omega : c.H + n - ((y : Int) + (n : Int)).toNat < c.H + n - (y : Int).toNat)⟩)
  · have hkD : k = D := by
      rcases Nat.lt_or_ge k D with h' | h'
      · have := hge h'; omega
      · omega
    rw [hkD, Nat.sub_self, lowGo] at he
    rw [he]
    (refine gw ?_; exact RetN.mk ⟨[], rfl, rfl, rfl⟩)
end Go.Ev.W
namespace Go.Ev.W
open Go.Ev Go.Ev.N

/-- What stands in the new row behind i. -/
def outB (l : List Bk) (b : Bk) (i : Nat) : List Bk := if i ≤ lowB b.a l then l.take i else l.take (lowB b.a l) ++ b :: (l.take i).drop (lowB b.a l)
theorem outB_lo {l : List Bk} {b : Bk} {i : Nat} (h : i < lowB b.a l) (hl : i < l.length) : outB l b (i + 1) = outB l b i ++ [l[i]] := by
  unfold outB; rw [if_pos (by omega), if_pos (by omega), List.take_succ_eq_append_getElem hl]
theorem outB_at {l : List Bk} {b : Bk} {i : Nat} (h : i = lowB b.a l) (hl : i < l.length) : outB l b (i + 1) = outB l b i ++ [b] ++ [l[i]] := by
  subst h
  unfold outB; rw [if_neg (by omega), if_pos (Nat.le_refl _), List.take_succ_eq_append_getElem hl]
  have : (l.take (lowB b.a l)).length = lowB b.a l := by rw [List.length_take]; omega
  rw [List.drop_append_of_le_length (by omega), List.drop_eq_nil_of_le (by omega)]
  simp
theorem outB_hi {l : List Bk} {b : Bk} {i : Nat} (h : lowB b.a l < i) (hl : i < l.length) : outB l b (i + 1) = outB l b i ++ [l[i]] := by
  unfold outB; rw [if_neg (by omega), if_neg (by omega), List.take_succ_eq_append_getElem hl, List.drop_append_of_le_length (by rw [List.length_take]; omega)]
  simp
theorem outB_len {l : List Bk} {b : Bk} {i : Nat} : (outB l b i).length ≤ i + 1 := by
  unfold outB; split <;> simp <;> omega
set_option maxHeartbeats 1000000 in
theorem put17_told (l : List Bk) (hl : l.length ≤ 1000000) (b : Bk) : Told P T ref17_put [] [lK l, eB b] (.ref 0) [.row t_api_Block ((putB l b).map eB)] := by
  have hml : (l.map eB).length = l.length := by simp
  have hle := lowB_le b.a l
  refine told_of_ev (fn := ref17_put_fn) tabOk mixed (by kernel_rfl) (by kernel_rfl) (by kernel_rfl) (by kernel_rfl) ?_
  (refine gw ?_; refine LoopN.mk ⟨[0,3,5,6,7], fun vs L => ∃ i : Nat, vs = [lK l, .ptr 0 0 0, .ref 1, .bool (decide (lowB b.a l < i)), i64 i] ∧ L = [.var (eB b), .row t_api_Block ((outB l b i).map eB)] ∧ i ≤ l.length, fun vs L => match vs with | [_, _, _, _, .int _ i] => l.length - i.toNat | _ => 0, [], [0, 2], rfl, ⟨0, by rw [decide_eq_false (by omega)]; rfl, by rw [show outB l b 0 = [] by simp [outB]]; rfl, by omega⟩, ?_⟩)
  rintro vs L ⟨i, rfl, rfl, hi⟩
  have hol := outB_len (l := l) (b := b) (i := i)
  have hmo : ((outB l b i).map eB).length = (outB l b i).length := by simp
  (refine gw ?_; first | refine IfB.dec (fun h1 => ?_) (fun h1 => ?_) | refine IfB.eq (fun h1 => ?_) (fun h1 => ?_) | refine IfB.ne (fun h1 => ?_) (fun h1 => ?_) | refine IfB.mk (fun h1 => ?_) (fun h1 => ?_))
  · have hlt : i < l.length := by omega
    rcases Nat.lt_trichotomy (lowB b.a l) i with h | h | h
    · rw [decide_eq_true h]
      refine gw ?_
      (refine gw ?_; refine idx_map (hlt) ?_)
      (refine gw ?_; refine Room.mk (by first | omega | (simp; omega) | (simp <;> fail)) ?_)
      (refine gw ?_; refine ⟨[], [0, 3], rfl, ⟨i + 1, by rw [decide_eq_true (show lowB b.a l < i + 1 by omega)]; rfl, show [Blk.var _, Blk.row _ _] = [Blk.var _, Blk.row _ _] by rw [outB_hi h hlt, List.map_append]; rfl, hlt⟩, (by omega : l.length - ((i : Int) + 1).toNat < l.length - (i : Int).toNat)⟩)
    · rw [decide_eq_false (show ¬ lowB b.a l < i by omega)]
      have hg := lowB_ge (y := b.a) (l := l) (by omega)
      have hg : b.a < l[i].a := by subst h; exact hg
      (refine gw ?_; refine idx_map (hlt) ?_)
      (refine gw ?_; first | refine IfB.dec (fun h2 => ?_) (fun h2 => ?_) | refine IfB.eq (fun h2 => ?_) (fun h2 => ?_) | refine IfB.ne (fun h2 => ?_) (fun h2 => ?_) | refine IfB.mk (fun h2 => ?_) (fun h2 => ?_))
      · (refine gw ?_; refine Room.mk (by first | omega | (simp; omega) | (simp <;> fail)) ?_)
        (refine gw ?_; refine idx_map (hlt) ?_)
        (refine gw ?_; refine Room.mk (by first | omega | (simp; omega) | (simp <;> fail)) ?_)
        (refine gw ?_; refine ⟨[], [0, 5], rfl, ⟨i + 1, by rw [decide_eq_true (show lowB b.a l < i + 1 by omega)]; rfl, show [Blk.var _, Blk.row _ _] = [Blk.var _, Blk.row _ _] by rw [outB_at h.symm hlt, List.map_append, List.map_append]; rfl, hlt⟩, (by omega : l.length - ((i : Int) + 1).toNat < l.length - (i : Int).toNat)⟩)
      · omega
    · rw [decide_eq_false (show ¬ lowB b.a l < i by omega)]
      have hg := lowB_lt (y := b.a) hlt h
      (refine gw ?_; refine idx_map (hlt) ?_)
      (refine gw ?_; first | refine IfB.dec (fun h2 => ?_) (fun h2 => ?_) | refine IfB.eq (fun h2 => ?_) (fun h2 => ?_) | refine IfB.ne (fun h2 => ?_) (fun h2 => ?_) | refine IfB.mk (fun h2 => ?_) (fun h2 => ?_))
      · omega
      · (refine gw ?_; refine idx_map (hlt) ?_)
        (refine gw ?_; refine Room.mk (by first | omega | (simp; omega) | (simp <;> fail)) ?_)
        (refine gw ?_; refine ⟨[], [0, 3], rfl, ⟨i + 1, by rw [decide_eq_false (show ¬ lowB b.a l < i + 1 by omega)]; rfl, show [Blk.var _, Blk.row _ _] = [Blk.var _, Blk.row _ _] by rw [outB_lo h hlt, List.map_append]; rfl, hlt⟩, (by omega : l.length - ((i : Int) + 1).toNat < l.length - (i : Int).toNat)⟩)
  · have e : i = l.length := by omega
    subst e
    rcases Nat.lt_or_ge (lowB b.a l) l.length with h | h
    · rw [decide_eq_true h]
      refine gw ?_
      ((try (conv => whnf)); refine RetN.mk ⟨[1], rfl, rfl, ?_⟩)
      have e : outB l b l.length = putB l b := by unfold outB putB; rw [if_neg (by omega), List.take_length]
      show [Blk.row t_api_Block ((outB l b l.length).map eB)] = _
      rw [e]
    · rw [decide_eq_false (show ¬ lowB b.a l < l.length by omega)]
      (refine gw ?_; refine Room.mk (by first | omega | (simp; omega) | (simp <;> fail)) ?_)
      (refine gw ?_)
      refine RetN.mk ⟨[3], rfl, rfl, ?_⟩
      have e : outB l b l.length ++ [b] = putB l b := by
        have e2 : lowB b.a l = l.length := by omega
        unfold outB putB; rw [if_pos (by omega), e2, List.take_length, List.drop_length]
      show [Blk.row t_api_Block ((outB l b l.length).map eB ++ [eB b])] = _
      rw [← e, List.map_append]; rfl

theorem refAdd_gen (a b : Nat) (h : a + b ≤ 2000000) : Told P T ref1_Add [] [i64 a, i64 b] (.tup [i64 (a + b : Nat), .bool true]) [] := by
  refine told_of_ev (fn := ref1_Add_fn) tabOk mixed (by kernel_rfl) (by kernel_rfl) (by kernel_rfl) (by kernel_rfl) ?_
  repeat' ((conv => whnf); first | (refine Sure.mk (by kernel_rfl) ?_) | (refine IfB.tt rfl ?_) | (refine IfB.ff rfl ?_) | (refine IfB.tt ?_ ?_; (focus (simp <;> fail))) | (refine IfB.ff ?_ ?_; (focus (simp <;> fail))) | (refine fits (wrap64 ?_ ?_) ?_; (focus omega); (focus omega)) | (refine fits (wrapU64 ?_ ?_) ?_; (focus omega); (focus omega)) | (refine Need.mk ?_ ?_; (focus omega)) | (refine InB.mk ?_ ?_ ?_; (focus omega); (focus omega)) | (refine IfB.dec (fun h => ?_) (fun h => ?_)) | (refine IfB.eq (fun h => ?_) (fun h => ?_)) | (refine IfB.ne (fun h => ?_) (fun h => ?_)))
  all_goals first | omega | (refine gw ?_; exact RetN.mk ⟨[], rfl, rfl, rfl⟩)
theorem pages_told {pg y n : Nat} (hp : 1 ≤ pg) (hn : 1 ≤ n) (hy : y + n ≤ 1000000) : Told P T ref8_Pages [] [i64 pg, i64 y, i64 n] (.tup [i64 (y / pg : Nat), i64 ((y + n - 1) / pg + 1 : Nat)]) [] := by
  have e1 : ((y : Nat) : Int).tdiv (pg : Nat) = ((y / pg : Nat) : Int) := by rw [Int.tdiv_eq_ediv_of_nonneg (by omega)]; omega
  have e0 : ((y : Nat) : Int) + (((n : Nat) : Int) - 1) = ((y + n - 1 : Nat) : Int) := by omega
  have e2 : (((y + n - 1 : Nat)) : Int).tdiv (pg : Nat) = (((y + n - 1) / pg : Nat) : Int) := by rw [Int.tdiv_eq_ediv_of_nonneg (by omega)]; omega
  have d1 := Nat.div_le_self y pg
  have d2 := Nat.div_le_self (y + n - 1) pg
  have ca := refAdd_gen y (n - 1) (by omega)
  rw [show y + (n - 1) = y + n - 1 by omega, show ((n - 1 : Nat) : Int) = (n : Int) - 1 by omega] at ca
  have d3 : (0 : Int) ≤ ((y / pg : Nat) : Int) := Int.natCast_nonneg _
  have d4 : (0 : Int) ≤ (((y + n - 1) / pg : Nat) : Int) := Int.natCast_nonneg _
  refine told_of_ev (fn := ref8_Pages_fn) tabOk mixed (by kernel_rfl) (by kernel_rfl) (by kernel_rfl) (by kernel_rfl) ?_
  (refine gw ?_; first | refine IfB.dec (fun h1 => ?_) (fun h1 => ?_) | refine IfB.eq (fun h1 => ?_) (fun h1 => ?_) | refine IfB.ne (fun h1 => ?_) (fun h1 => ?_) | refine IfB.mk (fun h1 => ?_) (fun h1 => ?_))
  · omega
  · (refine gw ?_; first | refine IfB.dec (fun h2 => ?_) (fun h2 => ?_) | refine IfB.eq (fun h2 => ?_) (fun h2 => ?_) | refine IfB.ne (fun h2 => ?_) (fun h2 => ?_) | refine IfB.mk (fun h2 => ?_) (fun h2 => ?_))
    · omega
    · (refine gw ?_; refine Choice.mk ⟨false, Choice.mk ⟨true, _, _, ca, ?_⟩⟩)
      (refine gw ?_)
      rw [e1, e2]
      (refine gw ?_; exact RetN.mk ⟨[], rfl, rfl, rfl⟩)
end Go.Ev.W
namespace Go.Ev.W
open Go.Ev Go.Ev.N

def anyK (l : List Bk) (pg i k : Nat) : Bool := (l.take k).any fun b => ovr (i * pg : Nat) pg b.a b.c
theorem anyK_succ {l : List Bk} {pg i k : Nat} (h : k < l.length) : anyK l pg i (k + 1) = (anyK l pg i k || ovr (i * pg : Nat) pg l[k].a l[k].c) := by
  unfold anyK; rw [List.take_succ_eq_append_getElem h, List.any_append]; simp
set_option maxHeartbeats 1000000 in
theorem met8_told {pg size : Nat} (hp : 1 ≤ pg) (hs : size ≤ 65536) {l : List Bk} (hl : l.length ≤ 1000000) (hb : ∀ x ∈ l, 0 ≤ x.a ∧ 1 ≤ x.c ∧ x.a + x.c ≤ size) : Told P T ref8_Met [] [i64 pg, i64 size, lK l] (lT (metF pg size l)) [] := by
  have hml : (l.map eB).length = l.length := by simp
  have e1 : ((size : Nat) : Int).tdiv (pg : Nat) = ((size / pg : Nat) : Int) := by rw [Int.tdiv_eq_ediv_of_nonneg (by omega)]; omega
  have d1 := Nat.div_le_self size pg
  have d2 : (0 : Int) ≤ ((size / pg : Nat) : Int) := Int.natCast_nonneg _
  have hmul := Nat.div_mul_le_self size pg
  obtain ⟨D, hD⟩ : ∃ D, size / pg = D := ⟨_, rfl⟩
  have hfin : metF pg size l = (List.range D).map fun i => anyK l pg i l.length := by
    unfold metF anyK; rw [hD]; simp only [List.take_length]
  rw [hfin]
  rw [hD] at e1 d1 d2 hmul
  have hlen : ∀ f : Nat → AV, (tabF D f).length = D := tabF_len D
  refine told_of_ev (fn := ref8_Met_fn) tabOk mixed (by kernel_rfl) (by kernel_rfl) (by kernel_rfl) (by kernel_rfl) ?_
  (refine gw ?_; first | refine IfB.dec (fun h1 => ?_) (fun h1 => ?_) | refine IfB.eq (fun h1 => ?_) (fun h1 => ?_) | refine IfB.ne (fun h1 => ?_) (fun h1 => ?_) | refine IfB.mk (fun h1 => ?_) (fun h1 => ?_))
  · omega
  · (refine gw ?_; first | refine IfB.dec (fun h2 => ?_) (fun h2 => ?_) | refine IfB.eq (fun h2 => ?_) (fun h2 => ?_) | refine IfB.ne (fun h2 => ?_) (fun h2 => ?_) | refine IfB.mk (fun h2 => ?_) (fun h2 => ?_))
    · omega
    · (refine gw ?_)
      rw [e1]
      (refine gw ?_; refine Room.mk (by first | omega | (simp; omega) | (simp <;> fail)) ?_)
      (refine gw ?_; refine LoopN.mk ⟨[0,2,7,8], fun vs L => ∃ i : Nat, vs = [i64 pg, lK l, .ref 0, i64 i] ∧ L = [.row t_bool (tabF D fun j => .bool (decide (j < i) && anyK l pg j l.length))] ∧ i ≤ D, fun vs L => match vs with | [_, _, _, .int _ i] => D - i.toNat | _ => 0, [], [1], rfl, ⟨0, rfl, ?_, by omega⟩, ?_⟩)
      · show [Blk.row t_bool (List.replicate D (AV.bool false))] = _
        rw [tabF_rep]
        refine congrArg (fun z => [Blk.row t_bool z]) (tabF_congr fun k _ => ?_)
        rw [decide_eq_false (show ¬ k < 0 by omega)]; rfl
      rintro vs L ⟨i, rfl, rfl, hi⟩
      have hl1 := hlen fun j => .bool (decide (j < i) && anyK l pg j l.length)
      (refine gw ?_; first | refine IfB.dec (fun g1 => ?_) (fun g1 => ?_) | refine IfB.eq (fun g1 => ?_) (fun g1 => ?_) | refine IfB.ne (fun g1 => ?_) (fun g1 => ?_) | refine IfB.mk (fun g1 => ?_) (fun g1 => ?_))
      · have hiD : i < D := by omega
        have hip : i * pg + pg ≤ D * pg := by rw [← Nat.succ_mul]; exact Nat.mul_le_mul_right _ hiD
        have eip : ((i : Nat) : Int) * ((pg : Nat) : Int) = ((i * pg : Nat) : Int) := by rw [Int.natCast_mul]
        (refine gw ?_; refine LoopN.mk ⟨[0,2,7,8,9], fun vs L => ∃ k : Nat, vs = [i64 pg, lK l, .ref 0, i64 i, i64 k] ∧ L = [.row t_bool (tabF D fun j => .bool (if j = i then anyK l pg i k else decide (j < i) && anyK l pg j l.length))] ∧ k ≤ l.length, fun vs L => match vs with | [_, _, _, _, .int _ i] => l.length - i.toNat | _ => 0, [], [0], rfl, ⟨0, rfl, ?_, by omega⟩, ?_⟩)
        · refine congrArg (fun z => [Blk.row t_bool z]) (tabF_congr fun j _ => ?_)
          by_cases e : j = i
          · subst e; rw [decide_eq_false (show ¬ j < j by omega), if_pos rfl]; simp [anyK]
          · rw [if_neg e]
        rintro vs L ⟨k, rfl, rfl, hk⟩
        have hl2 := hlen fun j => .bool (if j = i then anyK l pg i k else decide (j < i) && anyK l pg j l.length)
        have hget : (tabF D fun j => AV.bool (if j = i then anyK l pg i k else decide (j < i) && anyK l pg j l.length))[((i : Nat) : Int).toNat]? = some (.bool (anyK l pg i k)) := by
          rw [Int.toNat_natCast, tabF_get hiD, if_pos rfl]
        have hset : ∀ v : Bool, v = anyK l pg i (k + 1) → (tabF D fun j => AV.bool (if j = i then anyK l pg i k else decide (j < i) && anyK l pg j l.length)).set ((i : Nat) : Int).toNat (.bool v) = tabF D fun j => .bool (if j = i then anyK l pg i (k + 1) else decide (j < i) && anyK l pg j l.length) := fun v hv => by
          rw [Int.toNat_natCast]
          refine tabF_set hiD fun j hj => ?_
          by_cases e : j = i
          · rw [if_pos e, if_pos e, hv]
          · rw [if_neg e, if_neg e, if_neg e]
        (refine gw ?_; first | refine IfB.dec (fun g2 => ?_) (fun g2 => ?_) | refine IfB.eq (fun g2 => ?_) (fun g2 => ?_) | refine IfB.ne (fun g2 => ?_) (fun g2 => ?_) | refine IfB.mk (fun g2 => ?_) (fun g2 => ?_))
        · have hkl : k < l.length := by omega
          have hx := hb _ (List.getElem_mem hkl)
          have hsu := anyK_succ (pg := pg) (i := i) hkl
          refine gw ?_
          refine At.mk ⟨.bool (anyK l pg i k), hget, ?_⟩
          cases g3 : anyK l pg i k with
          | true =>
            rw [g3, Bool.true_or] at hsu
            rw [g3] at hset
            (refine gw ?_; refine InB.mk (by omega) (by rw [tabF_len]; omega) ?_)
            (refine gw ?_; refine ⟨[], [0], rfl, ⟨k + 1, rfl, by rw [← hset true hsu.symm]; rfl, hkl⟩, (by omega : l.length - ((k : Int) + 1).toNat < l.length - (k : Int).toNat)⟩)
          | false =>
            rw [g3, Bool.false_or] at hsu
            rw [g3] at hset
            (refine gw ?_)
            rw [eip]
            (refine gw ?_; refine idx_map (hkl) ?_)
            (refine gw ?_; refine idx_map (hkl) ?_)
            (refine gw ?_; refine Choice.mk ⟨false, Choice.mk ⟨true, _, _, ovr_told (i * pg : Nat) pg l[k].a l[k].c (by omega), ?_⟩⟩)
            (refine gw ?_; refine InB.mk (by omega) (by rw [tabF_len]; omega) ?_)
            (refine gw ?_; refine ⟨[], [0], rfl, ⟨k + 1, rfl, by rw [← hset _ hsu.symm]; rfl, hkl⟩, (by omega : l.length - ((k : Int) + 1).toNat < l.length - (k : Int).toNat)⟩)
        · have e : k = l.length := by omega
          subst e
          (refine gw ?_; refine ⟨[], [0], rfl, ⟨i + 1, rfl, ?_, hiD⟩, (by omega : D - ((i : Int) + 1).toNat < D - (i : Int).toNat)⟩)
          refine congrArg (fun z => [Blk.row t_bool z]) (tabF_congr fun j _ => ?_)
          by_cases e : j = i
          · subst e; rw [if_pos rfl, decide_eq_true (show j < j + 1 by omega)]; rfl
          · rw [if_neg e]
            have : decide (j < i) = decide (j < i + 1) := decide_eq_decide.2 (by omega)
            rw [this]
      · have e : i = D := by omega
        subst e
        (refine gw ?_; refine RetN.fz ⟨[true], [], rfl, ?_, rfl⟩)
        show AV.lst t_bool (tabF i fun j => AV.bool (decide (j < i) && anyK l pg j l.length)) = AV.lst t_bool (((List.range i).map fun j => anyK l pg j l.length).map AV.bool)
        rw [← tabF_of]
        congr 1
        exact tabF_congr fun j hj => by rw [decide_eq_true hj]; rfl
theorem cntB_succ {l : List Bool} {i : Nat} (h : i < l.length) : cntB (l.take (i + 1)) = cntB (l.take i) + if l[i] = true then 1 else 0 := by
  unfold cntB; rw [List.take_succ_eq_append_getElem h, List.filter_append]
  cases l[i] <;> simp
theorem cntB_le (l : List Bool) : cntB l ≤ l.length := List.length_filter_le _ _
theorem count8_told (l : List Bool) (hl : l.length ≤ 1000000) : Told P T ref8_Count [] [lT l] (i64 (cntB l : Nat)) [] := by
  have hml : (l.map AV.bool).length = l.length := by simp
  refine told_of_ev (fn := ref8_Count_fn) tabOk mixed (by kernel_rfl) (by kernel_rfl) (by kernel_rfl) (by kernel_rfl) ?_
  (refine gw ?_; refine LoopN.mk ⟨[0,3,4], fun vs L => ∃ i : Nat, vs = [lT l, i64 (cntB (l.take i) : Nat), i64 i] ∧ L = [] ∧ i ≤ l.length, fun vs L => match vs with | [_, _, .int _ i] => l.length - i.toNat | _ => 0, [], [], rfl, ⟨0, rfl, rfl, by omega⟩, ?_⟩)
  rintro vs L ⟨i, rfl, rfl, hi⟩
  (refine gw ?_; first | refine IfB.dec (fun h1 => ?_) (fun h1 => ?_) | refine IfB.eq (fun h1 => ?_) (fun h1 => ?_) | refine IfB.ne (fun h1 => ?_) (fun h1 => ?_) | refine IfB.mk (fun h1 => ?_) (fun h1 => ?_))
  · have hlt : i < l.length := by omega
    have hs := cntB_succ hlt
    have hle := cntB_le (l.take i)
    rw [List.length_take] at hle
    (refine gw ?_; refine idx_map (hlt) ?_)
    cases h2 : l[i] with
    | true =>
      rw [h2, if_pos rfl] at hs
      (refine gw ?_; refine ⟨[], [], rfl, ⟨i + 1, by rw [hs]; rfl, rfl, hlt⟩, (by omega : l.length - ((i : Int) + 1).toNat < l.length - (i : Int).toNat)⟩)
    | false =>
      rw [h2, if_neg (by simp), Nat.add_zero] at hs
      (refine gw ?_; refine ⟨[], [], rfl, ⟨i + 1, by rw [hs]; rfl, rfl, hlt⟩, (by omega : l.length - ((i : Int) + 1).toNat < l.length - (i : Int).toNat)⟩)
  · have e : i = l.length := by omega
    subst e
    rw [List.take_length]
    (refine gw ?_; exact RetN.mk ⟨[], rfl, rfl, rfl⟩)
end Go.Ev.W
namespace Go.Ev.W
open Go.Ev Go.Ev.N

theorem lT_get {l : List Bool} {i : Nat} (h : i < l.length) : l.getD i false = l[i] := by simp [List.getD_eq_getElem?_getD, h]
def isIn (f b i : Nat) : Bool := decide (f ≤ i ∧ i < b)
def needF (met : List Bool) (f b i : Nat) : Bool := met.getD i false || isIn f b i
def freshL (on : List Bool) (f b i : Nat) : List Nat := (List.range i).filter fun j => isIn f b j && !on.getD j false
theorem freshL_succ (on : List Bool) (f b i : Nat) : freshL on f b (i + 1) = freshL on f b i ++ if (isIn f b i && !on.getD i false) = true then [i] else [] := by
  unfold freshL; rw [List.range_succ, List.filter_append]; simp [List.filter_cons]
theorem freshL_len (on : List Bool) (f b i : Nat) : (freshL on f b i).length ≤ i := by
  unfold freshL
  have := List.length_filter_le (fun j => isIn f b j && !on.getD j false) (List.range i)
  simpa using this
theorem commitF_eq (on met : List Bool) (f b most : Nat) : commitF on met f b most =
    if cntB ((List.range on.length).map (needF met f b)) > most then ([], [], false)
    else (if cntB ((List.range on.length).map (needF on f b)) > most then (List.range on.length).map fun i => needF on f b i && needF met f b i else (List.range on.length).map (needF on f b), freshL on f b on.length, true) := by
  unfold commitF
  simp only
  have e1 : ((List.range on.length).map fun i => met.getD i false || decide (f ≤ i ∧ i < b)) = (List.range on.length).map (needF met f b) := rfl
  have e2 : ((List.range on.length).map fun i => on.getD i false || decide (f ≤ i ∧ i < b)) = (List.range on.length).map (needF on f b) := rfl
  rw [e1, e2]
  have e3 : ((List.range on.length).map fun i => ((List.range on.length).map (needF on f b)).getD i false && ((List.range on.length).map (needF met f b)).getD i false) = (List.range on.length).map fun i => needF on f b i && needF met f b i := by
    refine List.map_congr_left fun i hi => ?_
    have hi : i < on.length := by simpa using hi
    simp [List.getD_eq_getElem?_getD, hi]
  rw [e3]
  rfl
set_option maxHeartbeats 4000000 in
theorem commit8_told {on met : List Bool} (hN : met.length = on.length) (hl : on.length ≤ 65536) {f b most : Nat} (hf : f ≤ b) (hb : b ≤ on.length) (hm : most ≤ 65536) : Told P T ref8_Commit [] [lT on, lT met, i64 f, i64 b, i64 most] (.tup [lT (commitF on met f b most).1, .lst t_int ((commitF on met f b most).2.1.map fun n => i64 (n : Nat)), .bool (commitF on met f b most).2.2]) [] := by
  have hmo : (on.map AV.bool).length = on.length := by simp
  have hmm : (met.map AV.bool).length = met.length := by simp
  have e3 := commitF_eq on met f b most
  obtain ⟨D, hD⟩ : ∃ D, on.length = D := ⟨_, rfl⟩
  rw [hD] at hN hl hb hmo e3
  refine told_of_ev (fn := ref8_Commit_fn) tabOk mixed (by kernel_rfl) (by kernel_rfl) (by kernel_rfl) (by kernel_rfl) ?_
  (refine gw ?_; refine IfB.ff (by rw [hmm, hmo, hN]; simp) ?_)
  (refine gw ?_; first | refine IfB.dec (fun h2 => ?_) (fun h2 => ?_) | refine IfB.eq (fun h2 => ?_) (fun h2 => ?_) | refine IfB.ne (fun h2 => ?_) (fun h2 => ?_) | refine IfB.mk (fun h2 => ?_) (fun h2 => ?_))
  · omega
  · (refine gw ?_; first | refine IfB.dec (fun h3 => ?_) (fun h3 => ?_) | refine IfB.eq (fun h3 => ?_) (fun h3 => ?_) | refine IfB.ne (fun h3 => ?_) (fun h3 => ?_) | refine IfB.mk (fun h3 => ?_) (fun h3 => ?_))
    · omega
    · (refine gw ?_; refine Room.mk (by rw [hmo]; omega) ?_)
      (refine gw ?_; refine Room.mk (by rw [hmo]; omega) ?_)
      (refine gw ?_; refine LoopN.mk ⟨[0,1,2,3,4,13,14,15,16], fun vs L => ∃ i : Nat, vs = [lT on, lT met, i64 f, i64 b, i64 most, .ref 0, .ref 1, .ref 2, i64 i] ∧ L = [.row t_bool (tabF D fun j => .bool (decide (j < i) && needF met f b j)), .row t_bool (tabF D fun j => .bool (decide (j < i) && needF on f b j)), .row t_int ((freshL on f b i).map fun n => i64 (n : Nat))] ∧ i ≤ D, fun vs L => match vs with | [_, _, _, _, _, _, _, _, .int _ i] => D - i.toNat | _ => 0, [], [2,3,4], rfl, ⟨0, rfl, ?_, by omega⟩, ?_⟩)
      · show [Blk.row t_bool (List.replicate (((on.map AV.bool).length : Nat) : Int).toNat (AV.bool false)), Blk.row t_bool (List.replicate (((on.map AV.bool).length : Nat) : Int).toNat (AV.bool false)), Blk.row t_int []] = _
        rw [Int.toNat_natCast, hmo, tabF_rep]
        have e0 : ∀ g : Nat → Bool, (tabF D fun _ => AV.bool false) = tabF D fun j => AV.bool (decide (j < 0) && g j) := fun g => tabF_congr fun k _ => by
          rw [decide_eq_false (show ¬ k < 0 by omega)]; rfl
        rw [← e0, ← e0]; rfl
      rintro vs L ⟨i, rfl, rfl, hi⟩
      have hfl := freshL_len on f b i
      have hset : ∀ (g : Nat → Bool) (v : Bool), i < D → v = g i → (tabF D fun j => AV.bool (decide (j < i) && g j)).set ((i : Nat) : Int).toNat (.bool v) = tabF D fun j => AV.bool (decide (j < i + 1) && g j) := fun g v hiD hv => by
        rw [Int.toNat_natCast]
        refine tabF_set hiD fun j hj => ?_
        by_cases e : j = i
        · subst e; rw [if_pos rfl, decide_eq_true (show j < j + 1 by omega), hv]; rfl
        · rw [if_neg e]
          have : decide (j < i + 1) = decide (j < i) := decide_eq_decide.2 (by omega)
          rw [this]
      (refine gw ?_; first | refine IfB.dec (fun g1 => ?_) (fun g1 => ?_) | refine IfB.eq (fun g1 => ?_) (fun g1 => ?_) | refine IfB.ne (fun g1 => ?_) (fun g1 => ?_) | refine IfB.mk (fun g1 => ?_) (fun g1 => ?_))
      · have hiD : i < D := by omega
        have hio : i < on.length := by omega
        have him : i < met.length := by omega
        have ho := lT_get hio
        have hme := lT_get him
        have hfs := freshL_succ on f b i
        have n1 : ∀ th, isIn f b i = th → needF met f b i = (met[i] || th) := fun th h => by unfold needF; rw [hme, h]
        have n2 : ∀ th, isIn f b i = th → needF on f b i = (on[i] || th) := fun th h => by unfold needF; rw [ho, h]
        rw [ho] at hfs
        have hth : isIn f b i = true ∨ isIn f b i = false := by cases isIn f b i <;> simp
        have hth1 : isIn f b i = true → f ≤ i ∧ i < b := fun h => of_decide_eq_true h
        have hth0 : isIn f b i = false → ¬ (f ≤ i ∧ i < b) := fun h => of_decide_eq_false h
        have stepB : ∀ (v w : Bool) (z z' : List AV), needF met f b i = v → needF on f b i = w → z = z' → [Blk.row t_bool ((tabF D fun j => AV.bool (decide (j < i) && needF met f b j)).set ((i : Nat) : Int).toNat (.bool v)), Blk.row t_bool ((tabF D fun j => AV.bool (decide (j < i) && needF on f b j)).set ((i : Nat) : Int).toNat (.bool w)), Blk.row t_int z] = [Blk.row t_bool (tabF D fun j => AV.bool (decide (j < i + 1) && needF met f b j)), Blk.row t_bool (tabF D fun j => AV.bool (decide (j < i + 1) && needF on f b j)), Blk.row t_int z'] := fun v w z z' hv hw hz => by
          rw [hset (needF met f b) v hiD hv.symm, hset (needF on f b) w hiD hw.symm, hz]
        have hfm : ((freshL on f b i).map fun n => i64 (n : Nat)).length = (freshL on f b i).length := by simp
        rcases hth with hth | hth
        · obtain ⟨q1, q2⟩ := hth1 hth
          rw [hth, Bool.true_and] at hfs
          (refine gw ?_; refine IfB.tt (by simp; omega) ?_)
          (refine gw ?_)
          rw [decide_eq_true (show ((i : Nat) : Int) < ((b : Nat) : Int) by omega)]
          have n1 := n1 true hth
          have n2 := n2 true hth
          rw [Bool.or_true] at n1 n2
          (refine gw ?_; refine idx_map (him) ?_)
          rcases hmv : met[i] with _ | _
          all_goals
            (refine gw ?_; refine idx_map (hio) ?_)
            rcases hov : on[i] with _ | _
          all_goals
            rw [hov] at hfs
            (refine gw ?_; refine InB.mk (by omega) (by rw [tabF_len]; omega) ?_)
            (refine gw ?_; refine InB.mk (by omega) (by rw [tabF_len]; omega) ?_)
            (refine gw ?_; refine idx_map (hio) ?_)
            rw [hov]
          case' inl.false.false | inl.true.false =>
            have hz : (freshL on f b i).map (fun n => i64 (n : Nat)) ++ [i64 (i : Nat)] = (freshL on f b (i + 1)).map fun n => i64 (n : Nat) := by rw [hfs]; simp
            (refine gw ?_; refine Room.mk (by first | omega | (simp; omega) | (simp <;> fail)) ?_)
            (refine gw ?_; refine ⟨[], [0,1,4], rfl, ⟨i + 1, rfl, stepB true true _ _ n1 n2 hz, hiD⟩, (by omega : D - ((i : Int) + 1).toNat < D - (i : Int).toNat)⟩)
          case' inl.false.true | inl.true.true =>
            have hz : (freshL on f b i).map (fun n => i64 (n : Nat)) = (freshL on f b (i + 1)).map fun n => i64 (n : Nat) := by rw [hfs]; simp
            (refine gw ?_; refine ⟨[], [0,1,2], rfl, ⟨i + 1, rfl, stepB true true _ _ n1 n2 hz, hiD⟩, (by omega : D - ((i : Int) + 1).toNat < D - (i : Int).toNat)⟩)
        · have hq := hth0 hth
          rw [hth, Bool.false_and] at hfs
          have hz : (freshL on f b i).map (fun n => i64 (n : Nat)) = (freshL on f b (i + 1)).map fun n => i64 (n : Nat) := by rw [hfs]; simp
          have n1 := n1 false hth
          have n2 := n2 false hth
          rw [Bool.or_false] at n1 n2
          (refine gw ?_; first | refine IfB.dec (fun q1 => ?_) (fun q1 => ?_) | refine IfB.eq (fun q1 => ?_) (fun q1 => ?_) | refine IfB.ne (fun q1 => ?_) (fun q1 => ?_) | refine IfB.mk (fun q1 => ?_) (fun q1 => ?_))
          all_goals
            (refine gw ?_)
            try rw [decide_eq_false (show ¬ ((i : Nat) : Int) < ((b : Nat) : Int) by omega)]
            (refine gw ?_; refine idx_map (him) ?_)
            rcases hmv : met[i] with _ | _
          all_goals
            (refine gw ?_; refine idx_map (hio) ?_)
            rcases hov : on[i] with _ | _
          all_goals
            rw [hmv] at n1
            rw [hov] at n2
            (refine gw ?_; refine InB.mk (by omega) (by rw [tabF_len]; omega) ?_)
            (refine gw ?_; refine InB.mk (by omega) (by rw [tabF_len]; omega) ?_)
            (refine gw ?_; refine ⟨[], [0,1,2], rfl, ⟨i + 1, rfl, stepB _ _ _ _ n1 n2 hz, hiD⟩, (by omega : D - ((i : Int) + 1).toNat < D - (i : Int).toNat)⟩)
      · have e : i = D := by omega
        subst e
        have f1 : ∀ g : Nat → Bool, (tabF i fun j => AV.bool (decide (j < i) && g j)) = ((List.range i).map g).map AV.bool := fun g => by
          rw [← tabF_of]; exact tabF_congr fun j hj => by rw [decide_eq_true hj]; rfl
        rw [f1, f1]
        have c1 := count8_told ((List.range i).map (needF met f b)) (by simp; omega)
        have c2 := count8_told ((List.range i).map (needF on f b)) (by simp; omega)
        (refine gw ?_; refine Choice.mk ⟨false, Choice.mk ⟨true, _, _, c1, ?_⟩⟩)
        (refine gw ?_; first | refine IfB.dec (fun g2 => ?_) (fun g2 => ?_) | refine IfB.eq (fun g2 => ?_) (fun g2 => ?_) | refine IfB.ne (fun g2 => ?_) (fun g2 => ?_) | refine IfB.mk (fun g2 => ?_) (fun g2 => ?_))
        · rw [e3, if_pos (by omega)]
          (refine gw ?_; exact RetN.fz ⟨[true, true, true], [], rfl, rfl, rfl⟩)
        · rw [if_neg (by omega)] at e3
          (refine gw ?_; refine Choice.mk ⟨false, Choice.mk ⟨true, _, _, c2, ?_⟩⟩)
          (refine gw ?_; first | refine IfB.dec (fun g3 => ?_) (fun g3 => ?_) | refine IfB.eq (fun g3 => ?_) (fun g3 => ?_) | refine IfB.ne (fun g3 => ?_) (fun g3 => ?_) | refine IfB.mk (fun g3 => ?_) (fun g3 => ?_))
          · rw [if_pos (by omega)] at e3
            have hlA : ((List.range i).map (needF on f b)).length = i := by simp
            have hlN : ((List.range i).map (needF met f b)).length = i := by simp
            have hgA : ∀ j, j < i → ((List.range i).map (needF on f b)).getD j false = needF on f b j := fun j hj => by simp [List.getD_eq_getElem?_getD, hj]
            have hgN : ∀ j, j < i → ((List.range i).map (needF met f b)).getD j false = needF met f b j := fun j hj => by simp [List.getD_eq_getElem?_getD, hj]
            (refine gw ?_; refine LoopN.mk ⟨[0,13,14,15,18], fun vs L => ∃ k : Nat, vs = [lT on, .ref 0, .ref 1, .ref 2, i64 k] ∧ L = [.row t_bool (tabF i fun j => .bool (needF met f b j)), .row t_bool (tabF i fun j => .bool (needF on f b j && or (decide (k ≤ j)) (needF met f b j))), .row t_int ((freshL on f b i).map fun n => i64 (n : Nat))] ∧ k ≤ i, fun vs L => match vs with | [_, _, _, _, .int _ i] => on.length - i.toNat | _ => 0, [], [0,1,2], rfl, ⟨0, rfl, ?_, by omega⟩, ?_⟩)
            · have q1 : (tabF i fun j => AV.bool (needF on f b j && or (decide (0 ≤ j)) (needF met f b j))) = ((List.range i).map (needF on f b)).map AV.bool := by
                rw [← tabF_of]; exact tabF_congr fun j _ => by rw [decide_eq_true (Nat.zero_le j)]; simp
              have q2 : (tabF i fun j => AV.bool (needF met f b j)) = ((List.range i).map (needF met f b)).map AV.bool := tabF_of _ _ _
              show [Blk.row t_bool _, Blk.row t_bool _, Blk.row t_int _] = _
              rw [q1, q2]
            rintro vs L ⟨k, rfl, rfl, hk⟩
            (refine gw ?_; first | refine IfB.dec (fun g1 => ?_) (fun g1 => ?_) | refine IfB.eq (fun g1 => ?_) (fun g1 => ?_) | refine IfB.ne (fun g1 => ?_) (fun g1 => ?_) | refine IfB.mk (fun g1 => ?_) (fun g1 => ?_))
            · have hki : k < i := by omega
              have hA := tabF_get (f := fun j => AV.bool (needF on f b j && or (decide (k ≤ j)) (needF met f b j))) hki
              have hN := tabF_get (f := fun j => AV.bool (needF met f b j)) hki
              have hkk : ((k : Nat) : Int).toNat = k := Int.toNat_natCast _
              have hse : ∀ v : Bool, (needF on f b k && needF met f b k) = v → (tabF i fun j => AV.bool (needF on f b j && or (decide (k ≤ j)) (needF met f b j))).set ((k : Nat) : Int).toNat (.bool v) = tabF i fun j => AV.bool (needF on f b j && or (decide (k + 1 ≤ j)) (needF met f b j)) := fun v hv => by
                rw [Int.toNat_natCast]
                refine tabF_set hki fun j hj => ?_
                by_cases e : j = k
                · subst e; rw [if_pos rfl, decide_eq_false (show ¬ j + 1 ≤ j by omega), Bool.false_or, hv]
                · rw [if_neg e]
                  have : decide (k + 1 ≤ j) = decide (k ≤ j) := decide_eq_decide.2 (by omega)
                  rw [this]
              rw [decide_eq_true (show k ≤ k by omega), Bool.true_or, Bool.and_true] at hA
              have hA1 : (tabF i fun j => AV.bool (needF on f b j && or (decide (k ≤ j)) (needF met f b j)))[((k : Nat) : Int).toNat]? = some (.bool (needF on f b k)) := by rw [hkk]; exact hA
              have hN1 : (tabF i fun j => AV.bool (needF met f b j))[((k : Nat) : Int).toNat]? = some (.bool (needF met f b k)) := by rw [hkk]; exact hN
              (refine gw ?_; refine InB.mk (by omega) (by rw [tabF_len]; omega) ?_)
              refine gw ?_
              refine At.mk ⟨.bool (needF on f b k), hA1, ?_⟩
              rcases gA : needF on f b k with _ | _
              · rw [gA, Bool.false_and] at hse
                (refine gw ?_; refine InB.mk (by omega) (by rw [tabF_len]; omega) ?_)
                (refine gw ?_; refine ⟨[], [0,1,2], rfl, ⟨k + 1, rfl, by rw [← hse _ rfl]; rfl, hki⟩, (by omega : on.length - ((k : Int) + 1).toNat < on.length - (k : Int).toNat)⟩)
              · rw [gA, Bool.true_and] at hse
                (refine gw ?_; refine InB.mk (by omega) (by rw [tabF_len]; omega) ?_)
                refine gw ?_
                refine At.mk ⟨.bool (needF met f b k), hN1, ?_⟩
                (refine gw ?_; refine InB.mk (by omega) (by rw [tabF_len]; omega) ?_)
                (refine gw ?_; refine ⟨[], [0,1,2], rfl, ⟨k + 1, rfl, by rw [← hse _ rfl]; rfl, hki⟩, (by omega : on.length - ((k : Int) + 1).toNat < on.length - (k : Int).toNat)⟩)
            · have e : k = i := by omega
              subst e
              have q1 : (tabF k fun j => AV.bool (needF on f b j && or (decide (k ≤ j)) (needF met f b j))) = ((List.range k).map fun i => needF on f b i && needF met f b i).map AV.bool := by
                rw [← tabF_of]; exact tabF_congr fun j hj => by rw [decide_eq_false (show ¬ k ≤ j by omega)]; simp
              rw [q1, e3]
              (refine gw ?_; exact RetN.fz ⟨[true, true, true], [], rfl, rfl, rfl⟩)
          · rw [if_neg (by omega)] at e3
            rw [e3]
            (refine gw ?_; exact RetN.fz ⟨[true, true, true], [], rfl, rfl, rfl⟩)
end Go.Ev.W
namespace Go.Ev.W
open Go.Ev Go.Ev.N

set_option maxHeartbeats 4000000 in
theorem byte8_told (seed page k : Nat) : Told P T ref8_Byte [] [i64 seed, i64 page, i64 k] (u8 (byteF seed page k)) [] := by
  have t1 : ∀ n : Nat, ((n : Nat) : Int).tmod 256 = ((n % 256 : Nat) : Int) := fun n => (Int.ofNat_tmod n 256).symm
  refine told_of_ev (fn := ref8_Byte_fn) tabOk mixed (by kernel_rfl) (by kernel_rfl) (by kernel_rfl) (by kernel_rfl) ?_
  (refine gw ?_)
  rw [t1, t1]
  (refine gw ?_)
  rw [t1]
  refine gw ?_
  rw [show ((seed % 256 : Nat) : Int) + 31 * ((page % 256 : Nat) : Int) + 7 * ((k % 256 : Nat) : Int) + 1 = ((seed % 256 + 31 * (page % 256) + 7 * (k % 256) + 1 : Nat) : Int) by omega, t1]
  (refine gw ?_)
  refine fits (by rw [IntKind.wrap_u8]; omega) ?_
  (refine gw ?_; refine RetN.mk ⟨[], rfl, ?_, rfl⟩)
  rfl

set_option maxHeartbeats 4000000 in
theorem trim8_told {on met : List Bool} (hN : met.length = on.length) (hl : on.length ≤ 65536) : Told P T ref8_Trim [] [lT on, lT met] (.tup [lT (trimF on met).1, i64 ((trimF on met).2 : Nat)]) [] := by
  have hmo : (on.map AV.bool).length = on.length := by simp
  have hmm : (met.map AV.bool).length = met.length := by simp
  obtain ⟨D, hD⟩ : ∃ D, on.length = D := ⟨_, rfl⟩
  refine told_of_ev (fn := ref8_Trim_fn) tabOk mixed (by kernel_rfl) (by kernel_rfl) (by kernel_rfl) (by kernel_rfl) ?_
  (refine gw ?_; refine Room.mk (by rw [hmo]; omega) ?_)
  (refine gw ?_; refine LoopN.mk ⟨[0,1,6,7,8], fun vs L => ∃ i : Nat, vs = [lT on, lT met, .ref 0, i64 (((List.range i).filter fun i => on.getD i false && !met.getD i false).length : Nat), i64 i] ∧ L = [.row t_bool (tabF D fun j => .bool (decide (j < i) && (on.getD j false && met.getD j false)))] ∧ i ≤ D, fun vs L => match vs with | [_, _, _, _, .int _ i] => D - i.toNat | _ => 0, [], [1], rfl, ⟨0, rfl, ?_, by omega⟩, ?_⟩)
  · show [Blk.row t_bool (List.replicate (((on.map AV.bool).length : Nat) : Int).toNat (AV.bool false))] = _
    rw [Int.toNat_natCast, hmo, tabF_rep, hD]
    refine congrArg (fun z => [Blk.row t_bool z]) (tabF_congr fun k _ => ?_)
    rw [decide_eq_false (show ¬ k < 0 by omega)]; rfl
  rintro vs L ⟨i, rfl, rfl, hi⟩
  have hset : ∀ (v : Bool), i < D → v = (on.getD i false && met.getD i false) → (tabF D fun j => AV.bool (decide (j < i) && (on.getD j false && met.getD j false))).set ((i : Nat) : Int).toNat (.bool v) = tabF D fun j => AV.bool (decide (j < i + 1) && (on.getD j false && met.getD j false)) := fun v hiD hv => by
    rw [Int.toNat_natCast]
    refine tabF_set hiD fun j hj => ?_
    by_cases e : j = i
    · subst e; rw [if_pos rfl, decide_eq_true (show j < j + 1 by omega), hv]; rfl
    · rw [if_neg e]
      have : decide (j < i + 1) = decide (j < i) := decide_eq_decide.2 (by omega)
      rw [this]
  (refine gw ?_; first | refine IfB.dec (fun g1 => ?_) (fun g1 => ?_) | refine IfB.eq (fun g1 => ?_) (fun g1 => ?_) | refine IfB.ne (fun g1 => ?_) (fun g1 => ?_) | refine IfB.mk (fun g1 => ?_) (fun g1 => ?_))
  · have hiD : i < D := by omega
    have hio : i < on.length := by omega
    have him : i < met.length := by omega
    have ho := lT_get hio
    have hm := lT_get him
    have hs : (List.filter (fun i => on.getD i false && !met.getD i false) (List.range (i + 1))).length = (List.filter (fun i => on.getD i false && !met.getD i false) (List.range i)).length + if (on[i] && !met[i]) = true then 1 else 0 := by
      rw [List.range_succ, List.filter_append, List.length_append, ← ho, ← hm]; simp only [List.filter_cons, List.filter_nil]; split <;> rfl
    have hs2 : (List.filter (fun i => on.getD i false && !met.getD i false) (List.range i)).length ≤ i := by
      simpa using List.length_filter_le (fun i => on.getD i false && !met.getD i false) (List.range i)
    rw [ho, hm] at hset
    (refine gw ?_; refine idx_map (hio) ?_)
    rcases hov : on[i] with _ | _
    · rw [hov] at hs hset
      rw [Bool.false_and] at hs hset
      have hs : (List.filter (fun i => on.getD i false && !met.getD i false) (List.range (i + 1))).length = (List.filter (fun i => on.getD i false && !met.getD i false) (List.range i)).length := hs
      (refine gw ?_; refine InB.mk (by omega) (by rw [tabF_len]; omega) ?_)
      (refine gw ?_; refine idx_map (hio) ?_)
      rw [hov]
      (refine gw ?_; refine ⟨[], [0], rfl, ⟨i + 1, by rw [hs]; rfl, by rw [← hset false hiD rfl]; rfl, hiD⟩, (by omega : D - ((i : Int) + 1).toNat < D - (i : Int).toNat)⟩)
    · rw [hov] at hs hset
      rw [Bool.true_and] at hs hset
      (refine gw ?_; refine IfB.tt (by rw [hmm]; simp; omega) ?_)
      (refine gw ?_; refine idx_map (him) ?_)
      rcases hmv : met[i] with _ | _
      · rw [hmv] at hs hset
        have hs : (List.filter (fun i => on.getD i false && !met.getD i false) (List.range (i + 1))).length = (List.filter (fun i => on.getD i false && !met.getD i false) (List.range i)).length + 1 := hs
        have hg : ∀ g : Nat → Bool, g i = false → (tabF D fun j => AV.bool (decide (j < i + 1) && g j))[((i : Nat) : Int).toNat]? = some (.bool false) := fun g hg => by
          rw [Int.toNat_natCast, tabF_get hiD, hg, Bool.and_false]
        (refine gw ?_; refine InB.mk (by omega) (by rw [tabF_len]; omega) ?_)
        (refine gw ?_; refine idx_map (hio) ?_)
        rw [hov]
        (refine gw ?_)
        rw [hset (bif true then false else false) hiD rfl]
        (refine gw ?_; refine InB.mk (by omega) (by rw [tabF_len]; omega) ?_)
        refine gw ?_
        refine At.mk ⟨.bool false, hg _ (by rw [ho, hm, hov, hmv]; rfl), ?_⟩
        refine gw ?_
        (refine gw ?_; refine ⟨[], [0], rfl, ⟨i + 1, by rw [hs]; rfl, rfl, hiD⟩, (by omega : D - ((i : Int) + 1).toNat < D - (i : Int).toNat)⟩)
      · rw [hmv] at hs hset
        have hs : (List.filter (fun i => on.getD i false && !met.getD i false) (List.range (i + 1))).length = (List.filter (fun i => on.getD i false && !met.getD i false) (List.range i)).length := hs
        have hg : ∀ g : Nat → Bool, g i = true → (tabF D fun j => AV.bool (decide (j < i + 1) && g j))[((i : Nat) : Int).toNat]? = some (.bool true) := fun g hg => by
          rw [Int.toNat_natCast, tabF_get hiD, hg, decide_eq_true (show i < i + 1 by omega)]; rfl
        (refine gw ?_; refine InB.mk (by omega) (by rw [tabF_len]; omega) ?_)
        (refine gw ?_; refine idx_map (hio) ?_)
        rw [hov]
        (refine gw ?_)
        rw [hset (bif true then true else false) hiD rfl]
        (refine gw ?_; refine InB.mk (by omega) (by rw [tabF_len]; omega) ?_)
        refine gw ?_
        refine At.mk ⟨.bool true, hg _ (by rw [ho, hm, hov, hmv]; rfl), ?_⟩
        (refine gw ?_; refine ⟨[], [0], rfl, ⟨i + 1, by rw [hs]; rfl, rfl, hiD⟩, (by omega : D - ((i : Int) + 1).toNat < D - (i : Int).toNat)⟩)
  · have e : i = D := by omega
    subst e
    have f1 : ∀ g : Nat → Bool, (tabF i fun j => AV.bool (decide (j < i) && g j)) = ((List.range i).map g).map AV.bool := fun g => by
      rw [← tabF_of]; exact tabF_congr fun j hj => by rw [decide_eq_true hj]; rfl
    rw [f1]
    unfold trimF
    rw [hD]
    (refine gw ?_; exact RetN.fz ⟨[true, true], [], rfl, rfl, rfl⟩)
end Go.Ev.W
namespace Go.Ev.W
open Go.Ev Go.Ev.N

def fAt (mem : List Nat) (seed page size j : Nat) : Nat := if j / size = page then byteF seed page (j % size) else mem.getD j 0
theorem fillF_eq (mem : List Nat) (seed page size : Nat) : fillF mem seed page size = (List.range mem.length).map (fAt mem seed page size) := rfl
theorem lU_tab (mem : List Nat) : mem.map u8 = tabF mem.length fun k => u8 (mem.getD k 0) := tabF_map mem u8 0
set_option maxHeartbeats 4000000 in
theorem fill8_told {mem : List Nat} (hl : mem.length ≤ 65536) {seed page size : Nat} (hs : 0 < size) : Told P T ref8_Fill [] [lU mem, i64 seed, i64 page, i64 size] (lU (fillF mem seed page size)) [] := by
  obtain ⟨D, hD⟩ : ∃ D, mem.length = D := ⟨_, rfl⟩
  have hmu : (mem.map u8).length = D := by simp [hD]
  have hml : (mem.map u8).length = mem.length := by simp
  refine told_of_ev (fn := ref8_Fill_fn) tabOk mixed (by kernel_rfl) (by kernel_rfl) (by kernel_rfl) (by kernel_rfl) ?_
  (refine gw ?_; refine Room.mk (by first | omega | (simp; omega) | (simp <;> fail)) ?_)
  (refine gw ?_; refine LoopN.mk ⟨[1,2,3,9,10], fun vs L => ∃ k : Nat, vs = [i64 seed, i64 page, i64 size, .ref 0, i64 k] ∧ L = [.row t_uint8 (tabF D fun j => u8 (if j < k then fAt mem seed page size j else mem.getD j 0))] ∧ k ≤ D, fun vs L => match vs with | [_, _, _, _, .int _ i] => D - i.toNat | _ => 0, [], [2], rfl, ⟨0, rfl, ?_, by omega⟩, ?_⟩)
  · show [Blk.row t_uint8 (mem.map u8)] = _
    rw [lU_tab, hD]
    exact congrArg (fun z => [Blk.row t_uint8 z]) (tabF_congr fun k _ => rfl)
  rintro vs L ⟨k, rfl, rfl, hk⟩
  have hset : k < D → ∀ v : Nat, fAt mem seed page size k = v → (tabF D fun j => u8 (if j < k then fAt mem seed page size j else mem.getD j 0)).set ((k : Nat) : Int).toNat (u8 v) = tabF D fun j => u8 (if j < k + 1 then fAt mem seed page size j else mem.getD j 0) := fun hkD v hv => by
    rw [Int.toNat_natCast]
    refine tabF_set hkD fun j hj => ?_
    by_cases e : j = k
    · subst e; rw [if_pos rfl, if_pos (by omega), hv]
    · rw [if_neg e]
      by_cases e2 : j < k
      · rw [if_pos e2, if_pos (by omega)]
      · rw [if_neg e2, if_neg (by omega)]
  have hskip : k < D → fAt mem seed page size k = mem.getD k 0 → (tabF D fun j => u8 (if j < k then fAt mem seed page size j else mem.getD j 0)) = tabF D fun j => u8 (if j < k + 1 then fAt mem seed page size j else mem.getD j 0) := fun hkD hv => by
    refine tabF_congr fun j hj => ?_
    by_cases e : j = k
    · subst e; rw [if_neg (by omega), if_pos (by omega), hv]
    · by_cases e2 : j < k
      · rw [if_pos e2, if_pos (by omega)]
      · rw [if_neg e2, if_neg (by omega)]
  have hb := tabF_len D (fun j => u8 (if j < k then fAt mem seed page size j else mem.getD j 0))
  (refine gw ?_)
  rw [hb]
  (refine gw ?_; first | refine IfB.dec (fun g1 => ?_) (fun g1 => ?_) | refine IfB.eq (fun g1 => ?_) (fun g1 => ?_) | refine IfB.ne (fun g1 => ?_) (fun g1 => ?_) | refine IfB.mk (fun g1 => ?_) (fun g1 => ?_))
  · have hkD : k < D := by omega
    have d1 : ((k : Nat) : Int).tdiv ((size : Nat) : Int) = ((k / size : Nat) : Int) := (Int.ofNat_tdiv k size).symm
    have d2 : ((k : Nat) : Int).tmod ((size : Nat) : Int) = ((k % size : Nat) : Int) := (Int.ofNat_tmod k size).symm
    (refine gw ?_; refine IfB.tt (by simp; omega) ?_)
    (refine gw ?_)
    rw [d1]
    have hd := Nat.div_le_self k size
    have hr := Nat.mod_le k size
    have hf1 : k / size = page → fAt mem seed page size k = byteF seed page (k % size) := fun hp => by unfold fAt; rw [if_pos hp]
    have hf2 : ¬ k / size = page → fAt mem seed page size k = mem.getD k 0 := fun hp => by unfold fAt; rw [if_neg hp]
    generalize k / size = d at *
    generalize k % size = r at *
    by_cases hp : d = page
    · have hf := hf1 hp
      (refine gw ?_; refine IfB.tt (by simp [hp]) ?_)
      (refine gw ?_)
      rw [d2]
      (refine gw ?_; refine Choice.mk ⟨false, Choice.mk ⟨true, _, _, byte8_told seed page r, ?_⟩⟩)
      (refine gw ?_; refine ⟨[], [0], rfl, ⟨k + 1, rfl, by rw [← hset hkD _ hf]; rfl, hkD⟩, (by omega : D - ((k : Int) + 1).toNat < D - (k : Int).toNat)⟩)
    · have hf := hf2 hp
      (refine gw ?_; refine IfB.ff (by simp; omega) ?_)
      (refine gw ?_; refine ⟨[], [0], rfl, ⟨k + 1, rfl, by rw [← hskip hkD hf]; rfl, hkD⟩, (by omega : D - ((k : Int) + 1).toNat < D - (k : Int).toNat)⟩)
  · have e : k = D := by omega
    subst e
    have f1 : (tabF k fun j => u8 (if j < k then fAt mem seed page size j else mem.getD j 0)) = (fillF mem seed page size).map u8 := by
      rw [fillF_eq, hD, ← tabF_of]; exact tabF_congr fun j hj => by rw [if_pos hj]
    rw [f1]
    (refine gw ?_; exact RetN.fz ⟨[true], [], rfl, rfl, rfl⟩)

theorem there8_told {mem : List Nat} (hl : mem.length ≤ 65536) {a n : Nat} (h : a + n ≤ mem.length) : Told P T ref8_there [] [lU mem, i64 a, i64 n] (.bool true) [] := by
  have hmu : (mem.map u8).length = mem.length := by simp
  refine told_of_ev (fn := ref8_there_fn) tabOk mixed (by kernel_rfl) (by kernel_rfl) (by kernel_rfl) (by kernel_rfl) ?_
  (refine gw ?_; refine IfB.tt (by simp; omega) ?_)
  (refine gw ?_; refine RetN.mk ⟨[], rfl, ?_, rfl⟩)
  rw [hmu]
  refine congrArg AV.bool (decide_eq_true ?_)
  omega
end Go.Ev.W
namespace Go.Ev.W
open Go.Ev Go.Ev.N

theorem totalB_le {H : Nat} : ∀ {l : List Bk} {lo : Int}, (l.Pairwise fun x y => x.a + x.c ≤ y.a) → (∀ x ∈ l, lo ≤ x.a ∧ 1 ≤ x.c ∧ x.a + x.c ≤ H) → lo ≤ H → totalB l ≤ H - lo
  | [], lo, _, _, h => by simp [totalB]; omega
  | x :: l, lo, hp, hb, h => by
    have hx := hb x (by simp)
    rw [List.pairwise_cons] at hp
    have := totalB_le (l := l) (lo := x.a + x.c) hp.2 (fun y hy => ⟨hp.1 y hy, (hb y (by simp [hy])).2⟩) hx.2.2
    have e : totalB (x :: l) = x.c + totalB l := by simp only [totalB, List.map_cons, List.sum_cons]
    rw [e]; omega
theorem ApB.tot {H : Nat} {l : List Bk} (h : ApB H l) : totalB l ≤ H := by
  have := totalB_le (lo := 0) h.p (fun x hx => ⟨(h.b x hx).1, (h.b x hx).2.1, (h.b x hx).2.2⟩) (by omega)
  omega
theorem ApB.len {H : Nat} {l : List Bk} (h : ApB H l) : l.length ≤ H := by have := h.tot; have := totalB_nonneg h; omega
theorem totalB_succ {l : List Bk} {i : Nat} (h : i < l.length) : totalB (l.take (i + 1)) = totalB (l.take i) + l[i].c := by
  unfold totalB; rw [List.take_succ_eq_append_getElem h, List.map_append, List.sum_append]; simp
theorem totalB_take {H : Nat} {l : List Bk} (h : ApB H l) (i : Nat) : 0 ≤ totalB (l.take i) ∧ totalB (l.take i) ≤ H := by
  have h' := h.sub (List.take_sublist i l)
  have := h'.tot; have := totalB_nonneg h'
  exact ⟨by omega, by omega⟩
theorem fillF_len (mem : List Nat) (a b c : Nat) : (fillF mem a b c).length = mem.length := by simp [fillF]
theorem fills_len (sd pg : Nat) : ∀ (fs : List Nat) (mem : List Nat), (fs.foldl (fun mem p => fillF mem sd p pg) mem).length = mem.length
  | [], _ => rfl
  | f :: fs, mem => by rw [List.foldl_cons, fills_len sd pg fs, fillF_len]
theorem fills_succ (sd pg : Nat) {fs : List Nat} (mem : List Nat) {i : Nat} (h : i < fs.length) : (fs.take (i + 1)).foldl (fun mem p => fillF mem sd p pg) mem = fillF ((fs.take i).foldl (fun mem p => fillF mem sd p pg) mem) sd fs[i] pg := by
  rw [List.take_succ_eq_append_getElem h, List.foldl_append]; rfl

theorem Cf.Ok.pgH {c : Cf} (h : c.Ok) : ∃ k, c.H = c.Pg * k := by
  obtain ⟨e, he⟩ := h.p
  obtain ⟨q, hq⟩ := h.m
  have hd : ∃ r, max c.N c.Pg = c.Pg * r := by
    rcases Nat.le_total c.N c.Pg with h1 | h1
    · exact ⟨1, by rw [Nat.max_eq_right h1]; omega⟩
    · rw [Nat.max_eq_left h1]
      have hg := h.gpos
      have hn := h.n
      rw [hn, he] at h1 ⊢
      have h2 := Nat.le_of_mul_le_mul_left h1 (by omega)
      have h3 := (Nat.pow_le_pow_iff_right (by omega : 1 < 2)).1 h2
      exact ⟨2 ^ (c.L - e), by rw [Nat.mul_assoc, ← Nat.pow_add]; congr 2; omega⟩
  obtain ⟨r, hr⟩ := hd
  have h1 : c.M / 2 = c.Pg * r * q := by rw [hq, hr, show 2 * (c.Pg * r) * q = 2 * (c.Pg * r * q) by rw [Nat.mul_assoc 2]]; omega
  refine ⟨r * q * 2 + c.L * (r * q), ?_⟩
  rw [h.h, h1, hq, hr, Nat.mul_add]
  have e1 : 2 * (c.Pg * r) * q = c.Pg * (r * q * 2) := by simp only [Nat.mul_assoc, Nat.mul_comm, Nat.mul_left_comm]
  have e2 : c.L * (c.Pg * r * q) = c.Pg * (c.L * (r * q)) := by simp only [Nat.mul_assoc, Nat.mul_comm, Nat.mul_left_comm]
  rw [e1, e2]
theorem Cf.Ok.pgpos {c : Cf} (h : c.Ok) : 1 ≤ c.Pg := by
  obtain ⟨e, he⟩ := h.p
  have := h.gpos
  have := Nat.one_le_two_pow (n := e)
  rw [he]; exact Nat.mul_pos (by omega) (by omega)
theorem Cf.Ok.pages {c : Cf} (h : c.Ok) {y n : Nat} (hn : 1 ≤ n) (hy : y + n ≤ c.H) : y / c.Pg ≤ (y + n - 1) / c.Pg + 1 ∧ (y + n - 1) / c.Pg + 1 ≤ c.H / c.Pg := by
  have hp := h.pgpos
  obtain ⟨k, hk⟩ := h.pgH
  refine ⟨?_, ?_⟩
  · have := Nat.div_le_div_right (c := c.Pg) (show y ≤ y + n - 1 by omega); omega
  · rw [hk, Nat.mul_div_cancel_left _ (by omega)]
    refine Nat.div_lt_of_lt_mul ?_
    rw [← hk]; omega

def eMx (c : Cf) (bs : List Bk) (live peak mark : Int) (on : List Bool) (mem : List Nat) : AV := .agg [i64 c.G, i64 c.N, i64 c.M, i64 c.L, i64 c.Pg, i64 c.P, i64 c.H, i64 c.Sd, lK bs, i64 live, i64 peak, i64 mark, lT on, lU mem]
def mo0 : AV := .agg [i64 0, i64 0, i64 0, i64 0, i64 0, i64 0, i64 0, i64 0, .lst t_api_Block [], i64 0, i64 0, i64 0, .lst t_bool [], .lst t_uint8 []]
set_option maxHeartbeats 8000000 in
theorem place17_told {m : Mo} (hm : MoOk m) {l : List Bk} (ha : ApB m.c.H l) {n : Nat} (hn : 1 ≤ n) (hn2 : n ≤ m.c.N) {q : Int} : Told P T ref17_place [] [eM m, lK l, i64 n, i64 q] (.tup [eM (placeF m l n q).1, i64 (placeF m l n q).2.1, i64 (placeF m l n q).2.2]) [] := by
  have hH := hm.c.h2
  have hNM := hm.c.nM
  have hMH : m.c.M ≤ m.c.H := by have := hm.c.h; omega
  have hlen := ha.len
  have hpg := hm.c.pgpos
  obtain ⟨R, hR⟩ : ∃ R, lowF m.c l n = R := ⟨_, rfl⟩
  have c1 := lowest17_told hm.c ha hn (by omega)
  have hsp := lowF_spec (c := m.c) (l := l) hn
  rw [hR] at c1 hsp
  unfold placeF
  simp only []
  rw [hR]
  obtain ⟨y, ok⟩ := R
  refine told_of_ev (fn := ref17_place_fn) tabOk mixed (by kernel_rfl) (by kernel_rfl) (by kernel_rfl) (by kernel_rfl) ?_
  (refine gw ?_; refine Choice.mk ⟨false, Choice.mk ⟨true, _, _, c1, ?_⟩⟩)
  cases ok with
  | false =>
    rw [if_pos rfl]
    (refine gw ?_; exact RetN.mk ⟨[], rfl, rfl, rfl⟩)
  | true =>
    obtain ⟨j, h1, h2, h3, h4⟩ := hsp rfl
    simp only at h1 h2 h3 h4 ⊢
    rw [← h1] at h2
    rw [if_neg (by simp)]
    have hpa := hm.c.pages hn h2
    have hml : (metF m.c.Pg m.c.H l).length = m.on.length := by rw [hm.o]; simp [metF]
    have hol : m.on.length ≤ 65536 := by have := hm.o; have := Nat.div_le_self m.c.H m.c.Pg; omega
    have c2 := pages_told (pg := m.c.Pg) (y := y) (n := n) hpg hn (by omega)
    have c3 := met8_told (pg := m.c.Pg) (size := m.c.H) hpg hH (l := l) (by omega) ha.b
    have c4 := commit8_told (on := m.on) hml hol (f := y / m.c.Pg) (b := (y + n - 1) / m.c.Pg + 1) (most := m.c.P) hpa.1 (by rw [hm.o]; exact hpa.2) hm.c.b
    obtain ⟨C, hC⟩ : ∃ C, commitF m.on (metF m.c.Pg m.c.H l) (y / m.c.Pg) ((y + n - 1) / m.c.Pg + 1) m.c.P = C := ⟨_, rfl⟩
    rw [hC] at c4 ⊢
    obtain ⟨on', fr, ok'⟩ := C
    (refine gw ?_; refine Choice.mk ⟨false, Choice.mk ⟨true, _, _, c2, ?_⟩⟩)
    (refine gw ?_; refine Choice.mk ⟨false, Choice.mk ⟨false, _, _, c3, ?_⟩⟩)
    (refine gw ?_; refine Choice.mk ⟨false, Choice.mk ⟨false, _, _, c4, ?_⟩⟩)
    cases ok' with
    | false =>
      rw [if_pos rfl]
      (refine gw ?_; exact RetN.mk ⟨[], rfl, rfl, rfl⟩)
    | true =>
      rw [if_neg (by simp)]
      have hput := putB_ok ha (b := ⟨y, n, q⟩) h3 (by simp; omega)
      have c5 := put17_told l (by omega) ⟨y, n, q⟩
      obtain ⟨bs, hbs⟩ : ∃ bs, putB l ⟨y, n, q⟩ = bs := ⟨_, rfl⟩
      rw [hbs] at hput c5
      simp only
      rw [hbs]
      have hfl : fr.length ≤ 65536 := by
        have : fr = (commitF m.on (metF m.c.Pg m.c.H l) (y / m.c.Pg) ((y + n - 1) / m.c.Pg + 1) m.c.P).2.1 := by rw [hC]
        rw [this, commitF_eq]; split
        · simp
        · exact Nat.le_trans (freshL_len _ _ _ _) hol
      have hfm : (fr.map fun n => i64 (n : Nat)).length = fr.length := by simp
      have hmem := hm.mm
      (refine gw ?_; refine LoopN.mk ⟨[1,2,3,4,8,11,16,17,18], fun vs L => ∃ k : Nat, vs = [lK l, i64 n, i64 q, .ptr 0 0 0, .ptr 1 0 0, i64 y, .lst t_int (fr.map fun n => i64 (n : Nat)), .ptr 2 0 0, i64 k] ∧ L = [.var (eM m), .var mo0, .var (eM { m with on := on', mem := (fr.take k).foldl (fun mem p => fillF mem m.c.Sd p m.c.Pg) m.mem })] ∧ k ≤ fr.length, fun vs L => match vs with | [_, _, _, _, _, _, _, _, .int _ i] => fr.length - i.toNat | _ => 0, [9008,9012,9013], [0,1,5], rfl, ⟨0, rfl, rfl, by omega⟩, ?_⟩)
      rintro vs L ⟨k, rfl, rfl, hk⟩
      have hfk := fills_len m.c.Sd m.c.Pg (fr.take k) m.mem
      (refine gw ?_; first | refine IfB.dec (fun g1 => ?_) (fun g1 => ?_) | refine IfB.eq (fun g1 => ?_) (fun g1 => ?_) | refine IfB.ne (fun g1 => ?_) (fun g1 => ?_) | refine IfB.mk (fun g1 => ?_) (fun g1 => ?_))
      · have hkf : k < fr.length := by omega
        have hsu := fills_succ m.c.Sd m.c.Pg m.mem hkf
        have c6 := fill8_told (mem := (fr.take k).foldl (fun mem p => fillF mem m.c.Sd p m.c.Pg) m.mem) (by rw [hfk]; omega) (seed := m.c.Sd) (page := fr[k]) (size := m.c.Pg) hpg
        (refine gw ?_; refine idx_map (hkf) ?_)
        (refine gw ?_; refine Choice.mk ⟨false, Choice.mk ⟨false, _, _, c6, ?_⟩⟩)
        (refine gw ?_; refine ⟨[], [0,1,2], rfl, ⟨k + 1, rfl, by rw [hsu]; rfl, hkf⟩, (by omega : fr.length - ((k : Int) + 1).toNat < fr.length - (k : Int).toNat)⟩)
      · have e : k = fr.length := by omega
        subst e
        rw [List.take_length]
        (refine gw ?_; refine Choice.mk ⟨false, Choice.mk ⟨false, _, _, c5, ?_⟩⟩)
        have hbl := hput.1.len
        have hbm : (bs.map eB).length = bs.length := by simp
        (refine gw ?_; refine LoopN.mk ⟨[2,8,11,17,19], fun vs L => ∃ k : Nat, vs = [i64 n, .ptr 0 0 0, i64 y, .ptr 1 0 0, i64 k] ∧ L = [.var mo0, .var (eMx m.c bs (totalB (bs.take k)) m.peak m.mark on' (fr.foldl (fun mem p => fillF mem m.c.Sd p m.c.Pg) m.mem))] ∧ k ≤ bs.length, fun vs L => match vs with | [_, _, _, _, .int _ i] => bs.length - i.toNat | _ => 0, [18008], [1,2], rfl, ⟨0, rfl, rfl, by omega⟩, ?_⟩)
        rintro vs L ⟨k, rfl, rfl, hk⟩
        have ht1 := totalB_take hput.1 k
        have ht2 := totalB_take hput.1 (k + 1)
        (refine gw ?_; first | refine IfB.dec (fun g2 => ?_) (fun g2 => ?_) | refine IfB.eq (fun g2 => ?_) (fun g2 => ?_) | refine IfB.ne (fun g2 => ?_) (fun g2 => ?_) | refine IfB.mk (fun g2 => ?_) (fun g2 => ?_))
        · have hkb : k < bs.length := by omega
          have hsu := totalB_succ hkb
          rw [hsu] at ht2
          (refine gw ?_; refine idx_map (hkb) ?_)
          (refine gw ?_; refine ⟨[], [0,1], rfl, ⟨k + 1, rfl, by rw [hsu]; rfl, hkb⟩, (by omega : bs.length - ((k : Int) + 1).toNat < bs.length - (k : Int).toNat)⟩)
        · have e : k = bs.length := by omega
          subst e
          rw [List.take_length]
          have htot := ht1
          rw [List.take_length] at htot
          have hmark := hm.k
          have hpk := hm.p
          have emax : ∀ a b : Int, max a b = if b > a then b else a := fun a b => by split <;> omega
          (refine gw ?_; refine RetN.mk ⟨[], rfl, ?_, rfl⟩)
          rw [emax, emax]
          rfl
end Go.Ev.W
namespace Go.Ev.X
open Go.Ev Go.Ev.N

theorem fits {k : IntKind} {n : Int} {Q : Int → Prop} (h : k.wrap n = n) (q : Q n) : Fits k n Q := ⟨by rw [h]; exact q⟩
theorem wrap64 {n : Int} (h1 : -9223372036854775808 ≤ n) (h2 : n ≤ 9223372036854775807) : IntKind.i64.wrap n = n := by rw [IntKind.wrap_i64]; omega

structure O where
  k : Int
  p : Int
  s : Int
  a : Int
  n : Int
  b : Int
  deriving DecidableEq

def encO (o : O) : AV := .agg [.int .i64 o.k, .int .i64 o.p, .int .i64 o.s, .int .i64 o.a, .int .i64 o.n, .int .u8 o.b]

end Go.Ev.X
namespace Go.Ev.W
open Go.Ev Go.Ev.N

def SzB (c : Cf) (x : Bk) : Prop := ∃ k, k ≤ c.L ∧ x.c = ((c.G * 2 ^ k : Nat) : Int) ∧ x.a % x.c = 0 ∧ 0 ≤ x.q ∧ x.q ≤ x.c
theorem cnt_mono {n : Nat} {f g : Nat → Bool} (h : ∀ i, f i = true → g i = true) : cntB ((List.range n).map f) ≤ cntB ((List.range n).map g) := by
  unfold cntB
  rw [List.filter_map, List.filter_map, List.length_map, List.length_map, ← List.countP_eq_length_filter, ← List.countP_eq_length_filter]
  exact List.countP_mono_left fun i _ hi => h i hi
theorem commitF_ok {on met : List Bool} {f b most : Nat} (h : (commitF on met f b most).2.2 = true) : (commitF on met f b most).1.length = on.length ∧ cntB (commitF on met f b most).1 ≤ most := by
  rw [commitF_eq] at h ⊢
  split at h
  · simp at h
  · rename_i h1
    rw [if_neg h1]
    refine ⟨?_, ?_⟩
    · simp only; split <;> simp
    · simp only
      split
      · have := cnt_mono (n := on.length) (f := fun i => needF on f b i && needF met f b i) (g := needF met f b) fun i hi => by rw [Bool.and_eq_true] at hi; exact hi.2
        omega
      · omega
theorem fillF_b {mem : List Nat} (h : IsB mem) (a b c : Nat) : IsB (fillF mem a b c) := fun x hx => by
  obtain ⟨i, hi, rfl⟩ := List.mem_map.1 hx
  split
  · exact Nat.mod_lt _ (by omega)
  · have hi : i < mem.length := by simpa using hi
    rw [List.getD_eq_getElem?_getD, List.getElem?_eq_getElem hi]
    exact h _ (List.getElem_mem hi)
theorem fills_b (sd pg : Nat) : ∀ (fs : List Nat) (mem : List Nat), IsB mem → IsB (fs.foldl (fun mem p => fillF mem sd p pg) mem)
  | [], _, h => h
  | f :: fs, mem, h => fills_b sd pg fs _ (fillF_b h _ _ _)
theorem placeF_no {m : Mo} {l : List Bk} {n : Nat} {q : Int} (h : (placeF m l n q).2.2 ≠ 0) : (placeF m l n q).1 = m := by
  unfold placeF at h ⊢
  simp only at h ⊢
  split
  · rfl
  · split
    · rfl
    · rename_i h1 h2
      rw [if_neg h1, if_neg h2] at h
      exact absurd rfl h
/-- A block has been put. -/
structure Put (m : Mo) (l : List Bk) (n : Nat) (q : Int) (m' : Mo) (y : Int) : Prop where
  ok : MoOk m'
  c : m'.c = m.c
  y0 : 0 ≤ y
  yH : y + n ≤ m.c.H
  f : freeAt l n y = true
  bs : m'.bs = putB l ⟨y, n, q⟩
  li : m'.live = totalB l + n
  ml : m'.mem.length = m.mem.length
  low : ∃ j : Nat, y = ((j * n : Nat) : Int) ∧ ∀ i, i < j → freeAt l n ((i * n : Nat) : Int) = false
theorem placeF_ok {m : Mo} (hm : MoOk m) {l : List Bk} (ha : ApB m.c.H l) (hz : ∀ x ∈ l, SzB m.c x) {n : Nat} {q : Int} (hn : ∃ k, k ≤ m.c.L ∧ n = m.c.G * 2 ^ k) (hq : 0 ≤ q ∧ q ≤ n) (ht : totalB l + n ≤ m.c.M) (hk : ∀ x ∈ l, x.a + x.c ≤ m.mark) (h : (placeF m l n q).2.2 = 0) : Put m l n q (placeF m l n q).1 (placeF m l n q).2.1 := by
  obtain ⟨k, hkL, hkn⟩ := hn
  have hn1 : 1 ≤ n := by rw [hkn]; exact Nat.mul_pos hm.c.gpos (Nat.two_pow_pos _)
  have hsp := lowF_spec (c := m.c) (l := l) hn1
  have hco := commitF_ok (on := m.on) (met := metF m.c.Pg m.c.H l) (f := (lowF m.c l n).1 / m.c.Pg) (b := ((lowF m.c l n).1 + n - 1) / m.c.Pg + 1) (most := m.c.P)
  unfold placeF at h ⊢
  simp only at h ⊢
  split at h
  · simp at h
  · rename_i h1
    rw [if_neg h1]
    split at h
    · simp at h
    · rename_i h2
      rw [if_neg h2]
      have h1' : (lowF m.c l n).2 = true := by simpa using h1
      have h2' := hco (by simpa using h2)
      obtain ⟨j, e1, e2, e3, e4⟩ := hsp h1'
      rw [← e1] at e2
      generalize (lowF m.c l n).1 = y at *
      have hput := putB_ok ha (b := ⟨y, n, q⟩) e3 (by simp; omega)
      obtain ⟨p1, p2, p3, p4⟩ := hput
      have p3 : totalB (putB l ⟨y, n, q⟩) = totalB l + n := p3
      have htb := totalB_nonneg ha
      have hMH : m.c.M ≤ m.c.H := by have := hm.c.h; omega
      refine ⟨?_, rfl, by simp, by simp; omega, e3, rfl, p3, fills_len _ _ _ _, ⟨j, by rw [← e1], e4⟩⟩
      refine ⟨hm.c, p1, fun x hx => ?_, rfl, by rw [p3]; exact ht, ⟨by simp only; omega, ?_⟩, ⟨fun x hx => ?_, ?_, ?_⟩, by rw [h2'.1]; exact hm.o, h2'.2, by rw [fills_len]; exact hm.mm, fills_b _ _ _ _ hm.b⟩
      · rcases (p2 x).1 hx with rfl | hx
        · refine ⟨k, hkL, by rw [← hkn], ?_, hq⟩
          show ((y : Nat) : Int) % ((n : Nat) : Int) = 0
          rw [e1, Int.natCast_mul]
          exact Int.mul_emod_left _ _
        · exact hz x hx
      · have := hm.p
        simp only
        rw [p3]; omega
      · rcases (p2 x).1 hx with rfl | hx
        · simp only; omega
        · have := hk x hx
          simp only; omega
      · have := hm.k; simp only; omega
      · have := hm.k; simp only; omega

theorem newF_ok {c : Cf} (hc : c.Ok) {live s a : Int} (h : (newF c live s a).2 = 0) : (∃ k, k ≤ c.L ∧ (newF c live s a).1 = c.G * 2 ^ k) ∧ 0 ≤ s ∧ s ≤ (newF c live s a).1 ∧ live + (newF c live s a).1 ≤ c.M := by
  have hb := (chargeF_bd hc s a).2
  unfold newF at h ⊢
  split at h
  · rename_i h1; exact absurd h h1
  · rename_i h1
    rw [if_neg h1]
    split at h
    · simp at h
    · rename_i h2
      rw [if_neg h2]
      obtain ⟨k, h3, h4, h5, h6⟩ := hb (by simpa using h1)
      exact ⟨⟨k, h3, h4⟩, h5, h6, by simp only; omega⟩
theorem prodF_ok {c : Cf} {n s : Int} (h : (prodF c n s).2 = 0) : 0 ≤ n ∧ 0 ≤ s ∧ n * s ≤ c.N ∧ ((prodF c n s).1 : Int) = n * s := by
  unfold prodF at h ⊢
  split at h
  · simp at h
  · rename_i h1
    rw [if_neg h1]
    split at h
    · rename_i h2
      rw [if_pos h2]
      have := Int.mul_nonneg (show 0 ≤ n by omega) (show 0 ≤ s by omega)
      exact ⟨by omega, by omega, h2, by simp only; omega⟩
    · simp at h
theorem manyF_ok {c : Cf} (hc : c.Ok) {live n s : Int} (h : (manyF c live n s).2 = 0) : (∃ k, k ≤ c.L ∧ (manyF c live n s).1 = c.G * 2 ^ k) ∧ 0 ≤ n * s ∧ n * s ≤ (manyF c live n s).1 ∧ live + (manyF c live n s).1 ≤ c.M ∧ n * s ≤ c.N := by
  unfold manyF at h ⊢
  split at h
  · rename_i h1; exact absurd h h1
  · rename_i h1
    rw [if_neg h1]
    obtain ⟨a1, a2, a3, a4⟩ := prodF_ok (by simpa using h1)
    have b := newF_ok hc h
    rw [a4] at b ⊢
    exact ⟨b.1, b.2.1, b.2.2.1, b.2.2.2, a3⟩

def zeroF (mem : List Nat) (a n : Nat) : List Nat := (List.range mem.length).map fun j => if a ≤ j ∧ j < a + n then 0 else mem.getD j 0
theorem zeroF_len (mem : List Nat) (a n : Nat) : (zeroF mem a n).length = mem.length := by simp [zeroF]
theorem zeroF_b {mem : List Nat} (h : IsB mem) (a n : Nat) : IsB (zeroF mem a n) := fun x hx => by
  obtain ⟨i, hi, rfl⟩ := List.mem_map.1 hx
  split
  · omega
  · have hi : i < mem.length := by simpa using hi
    rw [List.getD_eq_getElem?_getD, List.getElem?_eq_getElem hi]
    exact h _ (List.getElem_mem hi)
/-- An operation's words. -/
structure OpOk (o : X.O) : Prop where
  k : -9223372036854775808 ≤ o.k ∧ o.k ≤ 9223372036854775807
  p : -9223372036854775808 ≤ o.p ∧ o.p ≤ 9223372036854775807
  s : -9223372036854775808 ≤ o.s ∧ o.s ≤ 9223372036854775807
  a : -9223372036854775808 ≤ o.a ∧ o.a ≤ 9223372036854775807
  n : -9223372036854775808 ≤ o.n ∧ o.n ≤ 9223372036854775807
  b : 0 ≤ o.b ∧ o.b < 256
def giveF (m : Mo) (o : X.O) : Mo × An :=
  let ce := if o.k = 2 then manyF m.c m.live o.n o.s else newF m.c m.live o.s (if o.k = 3 then o.a else 1)
  if ce.2 ≠ 0 then (m, anE ce.2)
  else
    let p := placeF m m.bs ce.1 (if o.k = 2 then o.n * o.s else o.s)
    if p.2.2 ≠ 0 then (m, anE p.2.2)
    else (if o.k = 2 then { p.1 with mem := zeroF p.1.mem p.2.1.toNat ce.1 } else p.1, { an0 with at' := p.2.1 })
def dropB (l : List Bk) (i : Nat) : List Bk := l.take i ++ l.drop (i + 1)
def bk0 : Bk := ⟨0, 0, 0⟩
def ofB (m : Mo) (o : X.O) (i : Nat) : Mo × An :=
  let b := m.bs.getD i bk0
  if o.k = 4 then
    let ce := newF m.c (m.live - b.c) o.s 1
    if ce.2 ≠ 0 then (m, anE ce.2)
    else
      let p := placeF m (dropB m.bs i) ce.1 o.s
      if p.2.2 ≠ 0 then (m, anE p.2.2)
      else
        let n := min (ce.1 : Int) b.c
        ({ p.1 with mem := p.1.mem.take p.2.1.toNat ++ (m.mem.take (b.a + n).toNat).drop b.a.toNat ++ p.1.mem.drop (p.2.1 + n).toNat }, { an0 with at' := p.2.1 })
  else if o.k = 5 then ({ m with bs := dropB m.bs i, live := m.live - b.c }, an0)
  else if o.k = 6 then (m, { an0 with n := b.c })
  else if o.n < 0 ∨ o.n ≥ b.c then (m, anE 9)
  else if o.k = 7 then (m, { an0 with b := m.mem.getD (b.a + o.n).toNat 0 })
  else ({ m with mem := m.mem.set (b.a + o.n).toNat o.b.toNat }, an0)
def doF (m : Mo) (o : X.O) : Mo × An :=
  if o.k = 1 ∨ o.k = 3 ∨ o.k = 2 then giveF m o
  else if o.k = 9 then ({ m with on := (trimF m.on (metF m.c.Pg m.c.H m.bs)).1 }, { an0 with n := (trimF m.on (metF m.c.Pg m.c.H m.bs)).2 })
  else if o.k = 10 then (m, { an0 with live := m.live, peak := m.peak, mark := m.mark, pg := cntB m.on })
  else if o.k = 4 ∨ o.k = 5 ∨ o.k = 6 ∨ o.k = 7 ∨ o.k = 8 then
    match findB m.bs o.p with
    | none => (m, anE 8)
    | some i => ofB m o i
  else (m, anE 2)
def allF : Mo → List X.O → Mo × List An
  | m, [] => (m, [])
  | m, o :: os => ((allF (doF m o).1 os).1, (doF m o).2 :: (allF (doF m o).1 os).2)
end Go.Ev.W
