/- Words and lemmas for the law s of this seat (a part of its proof). -/
import Derived.Test.YtjddlmnlgfgddaaSd8
set_option linter.unusedVariables false
set_option linter.unusedSimpArgs false
namespace Go.Ev.W
open Go.Ev Go.Ev.N

def dget (y : Int) : List M → Option Int
  | [] => none
  | m :: ds => bif y == m.at' then some m.cl else dget y ds
def dset (x : M) : List M → List M
  | [] => [x]
  | m :: ds => bif x.at' == m.at' then x :: ds else m :: dset x ds
def ddel (y : Int) : List M → List M
  | [] => []
  | m :: ds => bif y == m.at' then ds else m :: ddel y ds
def encD (ds : List M) : List (AV × AV) := ds.map fun m => (.int .i64 m.at', .int .i64 m.cl)
theorem mget_encD (y : Int) : ∀ ds, mget (encD ds) (.int .i64 y) = (dget y ds).map fun c => .int .i64 c
  | [] => rfl
  | m :: ds => by
    show (bif (y == m.at') then some (AV.int .i64 m.cl) else mget (encD ds) (.int .i64 y)) = _
    unfold dget
    cases y == m.at' with
    | true => rfl
    | false => exact mget_encD y ds
theorem mset_encD (x : M) : ∀ ds, mset (encD ds) (.int .i64 x.at') (.int .i64 x.cl) = encD (dset x ds)
  | [] => rfl
  | m :: ds => by
    show (bif (x.at' == m.at') then (AV.int .i64 x.at', AV.int .i64 x.cl) :: encD ds else (AV.int .i64 m.at', AV.int .i64 m.cl) :: mset (encD ds) (.int .i64 x.at') (.int .i64 x.cl)) = _
    unfold dset
    cases x.at' == m.at' with
    | true => rfl
    | false => show _ :: _ = _; rw [mset_encD x ds]; rfl
theorem mdel_encD (y : Int) : ∀ ds, mdel (encD ds) (.int .i64 y) = encD (ddel y ds)
  | [] => rfl
  | m :: ds => by
    show (bif (y == m.at') then encD ds else (AV.int .i64 m.at', AV.int .i64 m.cl) :: mdel (encD ds) (.int .i64 y)) = _
    unfold ddel
    cases y == m.at' with
    | true => rfl
    | false => show _ :: _ = _; rw [mdel_encD y ds]; rfl

/-- A map's entries are a row's marks. -/
def Same (ds l : List M) : Prop := ds.Pairwise (fun a b => a.at' ≠ b.at') ∧ ∀ m, m ∈ ds ↔ m ∈ l
theorem dget_mem {y c : Int} : ∀ {ds : List M}, ds.Pairwise (fun a b => a.at' ≠ b.at') → (dget y ds = some c ↔ (⟨y, c⟩ : M) ∈ ds)
  | [], _ => by simp [dget]
  | m :: ds, h => by
    obtain ⟨h1, h2⟩ := List.pairwise_cons.1 h
    unfold dget
    cases he : y == m.at' with
    | true =>
      have he := eq_of_beq he
      subst he
      constructor
      · intro e; simp at e; subst e; cases m; simp
      · intro e
        rcases List.mem_cons.1 e with e | e
        · rw [← e]; rfl
        · exact absurd (rfl : m.at' = m.at') (h1 (⟨m.at', c⟩ : M) e)
    | false =>
      have hne : y ≠ m.at' := by simpa using he
      rw [cond_false, dget_mem h2]
      constructor
      · intro e; simp [e]
      · intro e
        rcases List.mem_cons.1 e with e | e
        · exact absurd (by rw [← e]) hne
        · exact e
theorem dset_mem {x : M} : ∀ {ds : List M}, ds.Pairwise (fun a b => a.at' ≠ b.at') → (dset x ds).Pairwise (fun a b => a.at' ≠ b.at') ∧ ∀ m, m ∈ dset x ds ↔ (m = x ∨ (m ∈ ds ∧ m.at' ≠ x.at'))
  | [], _ => by simp [dset]
  | a :: ds, h => by
    obtain ⟨h1, h2⟩ := List.pairwise_cons.1 h
    unfold dset
    cases he : x.at' == a.at' with
    | true =>
      have he := eq_of_beq he
      refine ⟨List.pairwise_cons.2 ⟨fun b hb => by rw [he]; exact h1 b hb, h2⟩, fun m => ?_⟩
      constructor
      · intro hm
        rcases List.mem_cons.1 hm with rfl | hm
        · exact .inl rfl
        · exact .inr ⟨by simp [hm], by rw [he]; exact (h1 m hm).symm⟩
      · rintro (rfl | ⟨hm, hne⟩)
        · simp
        · rcases List.mem_cons.1 hm with rfl | hm
          · exact absurd he.symm hne
          · simp [hm]
    | false =>
      have hne : x.at' ≠ a.at' := by simpa using he
      obtain ⟨i1, i2⟩ := dset_mem (x := x) h2
      refine ⟨List.pairwise_cons.2 ⟨fun b hb => ?_, i1⟩, fun m => ?_⟩
      · rcases (i2 b).1 hb with rfl | ⟨hb, _⟩
        · exact hne.symm
        · exact h1 b hb
      · constructor
        · intro hm
          rcases List.mem_cons.1 hm with rfl | hm
          · exact .inr ⟨by simp, hne.symm⟩
          · rcases (i2 m).1 hm with e | ⟨e1, e2⟩
            · exact .inl e
            · exact .inr ⟨by simp [e1], e2⟩
        · rintro (rfl | ⟨hm, hn⟩)
          · exact List.mem_cons_of_mem _ ((i2 _).2 (.inl rfl))
          · rcases List.mem_cons.1 hm with rfl | hm
            · simp
            · exact List.mem_cons_of_mem _ ((i2 _).2 (.inr ⟨hm, hn⟩))
theorem ddel_mem {y : Int} : ∀ {ds : List M}, ds.Pairwise (fun a b => a.at' ≠ b.at') → (ddel y ds).Pairwise (fun a b => a.at' ≠ b.at') ∧ ∀ m, m ∈ ddel y ds ↔ (m ∈ ds ∧ m.at' ≠ y)
  | [], _ => by simp [ddel]
  | a :: ds, h => by
    obtain ⟨h1, h2⟩ := List.pairwise_cons.1 h
    unfold ddel
    cases he : y == a.at' with
    | true =>
      have he := eq_of_beq he
      refine ⟨h2, fun m => ⟨fun hm => ⟨by simp [show m ∈ ds from hm], by rw [he]; exact (h1 m hm).symm⟩, fun ⟨hm, hne⟩ => ?_⟩⟩
      rcases List.mem_cons.1 hm with rfl | hm
      · exact absurd he.symm hne
      · exact hm
    | false =>
      have hne : y ≠ a.at' := by simpa using he
      obtain ⟨i1, i2⟩ := ddel_mem (y := y) h2
      refine ⟨List.pairwise_cons.2 ⟨fun b hb => h1 b ((i2 b).1 hb).1, i1⟩, fun m => ?_⟩
      constructor
      · intro hm
        rcases List.mem_cons.1 hm with rfl | hm
        · exact ⟨by simp, hne.symm⟩
        · exact ⟨List.mem_cons_of_mem _ ((i2 m).1 hm).1, ((i2 m).1 hm).2⟩
      · rintro ⟨hm, hn⟩
        rcases List.mem_cons.1 hm with rfl | hm
        · simp
        · exact List.mem_cons_of_mem _ ((i2 m).2 ⟨hm, hn⟩)

theorem rise_nodup {l : List M} (hr : Rise l) : l.Pairwise (fun a b => a.at' ≠ b.at') := hr.imp fun h => by omega
theorem nodup_at {l : List M} (h : l.Pairwise (fun a b => a.at' ≠ b.at')) : l.Nodup := h.imp fun hne e => hne (by rw [e])
theorem Same.len {ds l : List M} (s : Same ds l) (hr : Rise l) : ds.length = l.length :=
  ((List.perm_ext_iff_of_nodup (nodup_at s.1) (nodup_at (rise_nodup hr))).2 s.2).length_eq

/-- What stands at a place, and what there is. -/
theorem cls_mem {l : List M} (hr : Rise l) {y c : Int} : (isAt y l = true ∧ clsM l y = c) ↔ (⟨y, c⟩ : M) ∈ l := by
  constructor
  · rintro ⟨h1, h2⟩
    obtain ⟨x, hx, he⟩ := isAt_get h1
    unfold clsM at h2
    rw [hx] at h2
    have := List.mem_of_getElem? hx
    have hx' : x = ⟨y, c⟩ := by cases x; simp at he h2; rw [he, h2]
    rw [← hx']; exact this
  · intro h
    obtain ⟨k, hk, e⟩ := List.mem_iff_getElem.1 h
    have h3 := (low_at (y := y) hr hk).1 (by rw [e])
    refine ⟨h3.2, ?_⟩
    unfold clsM
    rw [← h3.1, List.getElem?_eq_getElem hk, e]
theorem mem_putM {l : List M} (hr : Rise l) (x : M) : ∀ m, m ∈ putM l x ↔ (m = x ∨ (m ∈ l ∧ m.at' ≠ x.at')) := by
  intro m
  have hle := low_le x.at' l
  have other : ∀ {k : Nat} (hk : k < l.length), (isAt x.at' l = true ∧ k = low x.at' l) ↔ (l[k]).at' = x.at' := fun hk => by rw [low_at hr hk]; exact ⟨fun ⟨a, b⟩ => ⟨b, a⟩, fun ⟨a, b⟩ => ⟨b, a⟩⟩
  unfold putM
  split
  · rename_i h
    have hlt := isAt_lt h
    rw [List.mem_iff_getElem]
    constructor
    · rintro ⟨k, hk, e⟩
      rw [List.length_set] at hk
      rw [List.getElem_set] at e
      split at e
      · exact .inl e.symm
      · rename_i hne
        refine .inr ⟨by rw [← e]; exact List.getElem_mem _, fun e2 => hne ?_⟩
        rw [← e] at e2
        exact ((other hk).2 e2).2.symm
    · rintro (rfl | ⟨hm, hne⟩)
      · exact ⟨low m.at' l, by simpa using hlt, by simp⟩
      · obtain ⟨k, hk, e⟩ := List.mem_iff_getElem.1 hm
        refine ⟨k, by simpa using hk, ?_⟩
        rw [List.getElem_set]
        split
        · rename_i h4
          exact absurd (by rw [← e]; exact (other hk).1 ⟨h, h4.symm⟩) hne
        · exact e
  · rename_i h
    have h : isAt x.at' l = false := by simpa using h
    have all : m ∈ l ↔ (m ∈ l.take (low x.at' l) ∨ m ∈ l.drop (low x.at' l)) := by
      rw [← List.mem_append, List.take_append_drop]
    have ne : m ∈ l → m.at' ≠ x.at' := by
      intro hm e
      obtain ⟨k, hk, e'⟩ := List.mem_iff_getElem.1 hm
      have := ((other hk).2 (by rw [e', e])).1
      rw [h] at this; cases this
    rw [List.mem_append, List.mem_cons]
    constructor
    · rintro (a | a | a)
      · exact .inr ⟨all.2 (.inl a), ne (all.2 (.inl a))⟩
      · exact .inl a
      · exact .inr ⟨all.2 (.inr a), ne (all.2 (.inr a))⟩
    · rintro (a | ⟨a, _⟩)
      · exact .inr (.inl a)
      · rcases all.1 a with a | a
        · exact .inl a
        · exact .inr (.inr a)
theorem mem_takeM {l : List M} (hr : Rise l) {y : Int} (h : isAt y l = true) : ∀ m, m ∈ takeM l y ↔ (m ∈ l ∧ m.at' ≠ y) := by
  intro m
  have hlt := isAt_lt h
  have hy := (low_at (y := y) hr hlt).2 ⟨rfl, h⟩
  have split' : l = l.take (low y l) ++ l[low y l] :: l.drop (low y l + 1) := by rw [← List.drop_eq_getElem_cons hlt, List.take_append_drop]
  have nd : l.Pairwise (fun a b => a.at' ≠ b.at') := rise_nodup hr
  rw [split'] at nd
  obtain ⟨n1, n2, n3⟩ := List.pairwise_append.1 nd
  obtain ⟨n4, n5⟩ := List.pairwise_cons.1 n2
  have hm : m ∈ l ↔ (m ∈ l.take (low y l) ∨ m = l[low y l] ∨ m ∈ l.drop (low y l + 1)) := by
    conv => lhs; rw [split']
    rw [List.mem_append, List.mem_cons]
  unfold takeM
  rw [List.mem_append, hm]
  constructor
  · rintro (a | a)
    · exact ⟨.inl a, fun e => n3 m a _ (List.mem_cons_self ..) (by rw [e, hy])⟩
    · exact ⟨.inr (.inr a), fun e => n4 m a (by rw [e, hy])⟩
  · rintro ⟨a | a | a, hne⟩
    · exact .inl a
    · exact absurd (by rw [a, hy]) hne
    · exact .inr a
theorem rise_take {l : List M} (hr : Rise l) (y : Int) : Rise (takeM l y) := by
  unfold takeM
  refine List.Pairwise.sublist ?_ hr
  conv => rhs; rw [← List.take_append_drop (low y l) l]
  refine List.Sublist.append_left ?_ _
  rw [← List.drop_drop]
  exact List.drop_sublist _ _
theorem Same.put {ds l : List M} (s : Same ds l) (hr : Rise l) (x : M) : Same (dset x ds) (putM l x) := by
  obtain ⟨i1, i2⟩ := dset_mem (x := x) s.1
  exact ⟨i1, fun m => by rw [i2, mem_putM hr, s.2]⟩
theorem Same.take {ds l : List M} (s : Same ds l) (hr : Rise l) {y : Int} (h : isAt y l = true) : Same (ddel y ds) (takeM l y) := by
  obtain ⟨i1, i2⟩ := ddel_mem (y := y) s.1
  exact ⟨i1, fun m => by rw [i2, mem_takeM hr h, s.2]⟩
theorem Same.no {ds l : List M} (s : Same ds l) (hr : Rise l) {y : Int} (h : isAt y l = false) : Same (ddel y ds) l := by
  obtain ⟨i1, i2⟩ := ddel_mem (y := y) s.1
  refine ⟨i1, fun m => ?_⟩
  rw [i2, s.2]
  refine ⟨fun a => a.1, fun a => ⟨a, fun e => ?_⟩⟩
  have := (cls_mem (y := y) (c := m.cl) hr).2 (by rw [← e]; exact a)
  rw [h] at this; cases this.1
/-- What the map tells is what stands there. -/
theorem Same.get {ds l : List M} (s : Same ds l) (hr : Rise l) (y : Int) : dget y ds = if isAt y l = true then some (clsM l y) else none := by
  split
  · rename_i h
    exact (dget_mem s.1).2 ((s.2 _).2 ((cls_mem hr).1 ⟨h, rfl⟩))
  · rename_i h
    cases hg : dget y ds with
    | none => rfl
    | some c => exact absurd ((cls_mem hr).2 ((s.2 _).1 ((dget_mem s.1).1 hg))).1 h
end Go.Ev.W

