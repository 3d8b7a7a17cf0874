/- An operation tells one thing. -/
import Derived.Test.YtdnelcadmoeeiaaGreatEvStep
set_option linter.unusedVariables false
set_option linter.unusedSimpArgs false
namespace Go.Ev
def DetQ (F : (AV → Prop) → Prop) : Prop := ∀ Q, F Q → ∃ v, Q v ∧ F (fun a => a = v)
def DetB (F : (Bool → Prop) → Prop) : Prop := ∀ Q, F Q → ∃ v, Q v ∧ F (fun a => a = v)
def Det (F : (AV → Ups → Nat → Prop) → Prop) : Prop := ∀ K, F K → ∃ v us nx', K v us nx' ∧ F (fun a b c => a = v ∧ b = us ∧ c = nx')

theorem Det.q {F : (AV → Prop) → Prop} (d : DetQ F) (nx : Nat) : Det fun K => F fun v => K v [] nx := by
  intro K hr
  obtain ⟨v, h1, h2⟩ := d _ hr
  refine ⟨v, [], nx, h1, ?_⟩
  have : (fun v' => v' = v ∧ ([] : Ups) = [] ∧ nx = nx) = fun v' => v' = v := by funext v'; simp
  show F (fun v' => v' = v ∧ ([] : Ups) = [] ∧ nx = nx)
  rw [this]; exact h2

theorem det_force (v : AV) : DetQ (force v) := fun Q hr => ⟨v, force_iff.1 hr, force_iff.2 rfl⟩

theorem det_readAt (t : TI) (x : AV) (off : Nat) : DetQ (readAt t x off) := by
  intro Q
  unfold readAt
  repeat' split
  all_goals intro hr
  all_goals first
    | exact hr.p.elim
    | exact det_force _ _ hr
    | exact ⟨_, hr, rfl⟩

theorem det_loadV (T : Tab) (t : Nat) (p : AV) (h : AHeap) : DetQ (loadV T t p h) := by
  intro Q
  unfold loadV
  repeat' split
  all_goals intro hr
  all_goals first
    | exact det_readAt _ _ _ _ hr
    | exact hr.p.elim
    | (obtain ⟨x, hx, hr⟩ := hr.p
       obtain ⟨v, h1, h2⟩ := det_readAt _ _ _ _ hr
       exact ⟨v, h1, ⟨x, hx, h2⟩⟩)

theorem det_indexV (T : Tab) (t : Nat) (x i : AV) (h : AHeap) : DetQ (indexV T t x i h) := by
  intro Q
  unfold indexV
  repeat' split
  all_goals intro hr
  all_goals first
    | exact hr.p.elim
    | (obtain ⟨x, h1, h2, h3⟩ := hr.p; exact ⟨_, h3, ⟨x, h1, h2, rfl⟩⟩)
    | exact ⟨_, hr.p, ⟨hr.lo, hr.hi, rfl⟩⟩

theorem det_appendV (T : Tab) (t : Nat) (x y : AV) (h : AHeap) (nx : Nat) : Det (appendV T t x y h nx) := by
  intro K
  unfold appendV
  repeat' split
  all_goals intro hr
  all_goals first
    | exact hr.p.elim
    | exact ⟨_, _, _, hr.p, ⟨hr.n, rfl, rfl, rfl⟩⟩

theorem det_storeV (T : Tab) (t : Nat) (x y : AV) (h : AHeap) (nx : Nat) : Det (storeV T t x y h nx) := by
  intro K
  unfold storeV
  simp only [forceV_eq, forceC_eq]
  generalize fzv h y = z
  repeat' split
  all_goals intro hr
  all_goals first
    | exact hr.p.elim
    | exact ⟨_, _, _, hr, rfl, rfl, rfl⟩
    | skip
  all_goals
    obtain ⟨x, hx, hr⟩ := hr.p
    revert hr
    cases x with
    | agg cs =>
      dsimp only
      split
      · rename_i hl
        intro hr
        refine ⟨_, _, _, hr, ⟨_, hx, ?_⟩⟩
        dsimp only
        rw [hl]
        exact ⟨rfl, rfl, rfl⟩
      · intro hr; exact hr.p.elim
    | _ => intro hr; exact hr.p.elim

theorem det_newVar (T : Tab) (t : Nat) (v : AV) (nx : Nat) : Det (newVar T t v nx) := by
  intro K
  unfold newVar
  repeat' split
  all_goals intro hr
  all_goals first
    | exact hr.p.elim
    | exact ⟨_, _, _, hr, rfl, rfl, rfl⟩

theorem det_moveV (v : AV) (nx : Nat) : Det (moveV v nx) := by
  intro K
  unfold moveV
  intro hr
  cases v <;> exact ⟨_, _, _, hr, rfl, rfl, rfl⟩

theorem det_pickV (c x y : AV) : DetQ (pickV c x y) := by
  intro Q
  unfold pickV
  repeat' split
  all_goals intro hr
  all_goals first
    | exact hr.p.elim
    | exact ⟨_, hr, rfl⟩

theorem det_buildV (T : Tab) (t : Nat) (ps : List (Nat × AV)) : DetQ (buildV T t ps) := by
  intro Q
  unfold buildV
  repeat' split
  all_goals intro hr
  all_goals first
    | exact hr.p.elim
    | exact ⟨_, hr, rfl⟩

theorem det_bsliceV (T : Tab) (t n : Nat) (ps : List (Nat × AV)) (h : AHeap) (nx : Nat) : Det (bsliceV T t n ps h nx) := by
  intro K
  unfold bsliceV
  simp only [forceVs_eq]
  repeat' split
  all_goals intro hr
  all_goals first
    | exact hr.p.elim
    | exact ⟨_, _, _, hr, rfl, rfl, rfl⟩

theorem det_unV (op : UnOp) (v : AV) : DetQ (unV op v) := by
  intro Q
  unfold unV
  repeat' split
  all_goals intro hr
  all_goals first
    | exact ⟨_, hr.p, ⟨rfl⟩⟩
    | exact hr.p.elim
    | exact ⟨_, hr, rfl⟩

theorem det_convV (T : Tab) (s d : Nat) (v : AV) (h : AHeap) (nx : Nat) : Det (convV T s d v h nx) := by
  intro K
  unfold convV
  repeat' split
  all_goals intro hr
  all_goals first
    | exact ⟨_, _, _, hr.p, ⟨rfl, rfl, rfl⟩⟩
    | exact ⟨_, _, _, hr.p, ⟨hr.n, rfl, rfl, rfl⟩⟩
    | (obtain ⟨s, h1, h2⟩ := hr.p; exact ⟨_, _, _, h2, ⟨s, h1, rfl, rfl, rfl⟩⟩)
    | exact hr.p.elim
    | exact ⟨_, _, _, hr, rfl, rfl, rfl⟩

theorem det_mksliceV (T : Tab) (t : Nat) (l c : AV) (nx : Nat) : Det (mksliceV T t l c nx) := by
  intro K
  unfold mksliceV
  repeat' split
  all_goals intro hr
  all_goals first
    | exact ⟨_, _, _, hr.p.p.p, ⟨hr.c, hr.p.c, hr.p.p.n, rfl, rfl, rfl⟩⟩
    | exact hr.p.elim

theorem det_fieldAddrV (T : Tab) (t : Nat) (p : AV) (f : Nat) (h : AHeap) : DetQ (fieldAddrV T t p f h) := by
  intro Q
  unfold fieldAddrV
  repeat' split
  all_goals intro hr
  all_goals first
    | exact hr.p.elim
    | exact ⟨_, hr, rfl⟩

theorem det_fieldV (T : Tab) (t : Nat) (p : AV) (f : Nat) : DetQ (fieldV T t p f) := by
  intro Q
  unfold fieldV
  repeat' split
  all_goals intro hr
  all_goals first
    | exact det_readAt _ _ _ _ hr
    | exact hr.p.elim

theorem det_extractV (v : AV) (i : Nat) : DetQ (extractV v i) := by
  intro Q
  unfold extractV
  repeat' split
  all_goals intro hr
  all_goals first
    | exact det_force _ _ hr
    | exact hr.p.elim

theorem det_lengthV (T : Tab) (t : Nat) (x : AV) (h : AHeap) : DetQ (lengthV T t x h) := by
  intro Q
  unfold lengthV
  repeat' split
  all_goals intro hr
  all_goals first
    | exact hr.p.elim
    | exact ⟨_, hr, rfl⟩

theorem det_maxV (l : List AV) : DetQ (maxV l) := by
  intro Q
  unfold maxV
  split
  all_goals (try split)
  all_goals intro hr
  all_goals first
    | exact hr.p.elim
    | exact ⟨_, hr, rfl⟩
theorem det_minV (l : List AV) : DetQ (minV l) := by
  intro Q
  unfold minV
  split
  all_goals (try split)
  all_goals intro hr
  all_goals first
    | exact hr.p.elim
    | exact ⟨_, hr, rfl⟩

theorem det_copyV (T : Tab) (t : Nat) (x y : AV) (h : AHeap) (nx : Nat) : Det (copyV T t x y h nx) := by
  intro K
  unfold copyV
  repeat' split
  all_goals intro hr
  all_goals first
    | exact hr.p.elim
    | exact ⟨_, _, _, hr, rfl, rfl, rfl⟩
theorem det_clearV (T : Tab) (t : Nat) (x : AV) (h : AHeap) (nx : Nat) : Det (clearV T t x h nx) := by
  intro K
  unfold clearV
  repeat' split
  all_goals intro hr
  all_goals first
    | exact hr.p.elim
    | exact ⟨_, _, _, hr, rfl, rfl, rfl⟩

theorem det_delV (T : Tab) (t : Nat) (x y : AV) (h : AHeap) (nx : Nat) : Det (delV T t x y h nx) := by
  intro K
  unfold delV
  repeat' split
  all_goals intro hr
  all_goals first
    | exact hr.p.elim
    | exact ⟨_, _, _, hr, rfl, rfl, rfl⟩
theorem det_updV (T : Tab) (t : Nat) (x y z : AV) (h : AHeap) (nx : Nat) : Det (updV T t x y z h nx) := by
  intro K
  unfold updV
  repeat' split
  all_goals intro hr
  all_goals first
    | exact hr.p.elim
    | exact ⟨_, _, _, hr, rfl, rfl, rfl⟩
theorem det_mkmapV (T : Tab) (t nx : Nat) : Det (mkmapV T t nx) := by
  intro K
  unfold mkmapV
  repeat' split
  all_goals intro hr
  all_goals first
    | exact hr.p.elim
    | exact ⟨_, _, _, hr, rfl, rfl, rfl⟩
theorem det_lookupV (T : Tab) (t : Nat) (m k : AV) (ok : Bool) (h : AHeap) : DetQ (lookupV T t m k ok h) := by
  intro Q
  unfold lookupV
  repeat' split
  all_goals intro hr
  all_goals first
    | exact hr.p.elim
    | exact ⟨_, hr, rfl⟩
    | (revert hr
       generalize mget _ _ = g
       intro hr
       cases ok <;> cases g <;> exact ⟨_, hr.p, ⟨rfl⟩⟩)

theorem det_sliceL (lo hi : Option AV) (e : Nat) (es : List AV) (l m : Nat) : DetQ (sliceL lo hi e es l m) := by
  intro Q
  unfold sliceL
  repeat' split
  all_goals exact fun hr => ⟨_, hr, rfl⟩

theorem det_sliceV (T : Tab) (e : Nat) (x : AV) (lo hi mx : Option AV) (h : AHeap) : DetQ (sliceV T e x lo hi mx h) := by
  intro Q
  unfold sliceV
  repeat' split
  all_goals intro hr
  all_goals first
    | (obtain ⟨v, h1, h2⟩ := det_sliceL _ _ _ _ _ _ _ hr.p; exact ⟨v, h1, ⟨hr.lo, hr.mid, hr.hi, h2⟩⟩)
    | exact ⟨_, hr.p, ⟨hr.lo, hr.mid, hr.hi, rfl⟩⟩
    | exact ⟨_, hr.p.p, ⟨hr.c, ⟨hr.p.lo, hr.p.mid, hr.p.hi, rfl⟩⟩⟩
    | exact hr.p.elim

theorem mono_eqCells : ∀ (ks : List TK) (cs ds : List AV) {K K' : Bool → Prop}, (∀ r, K r → K' r) → eqCells ks cs ds K → eqCells ks cs ds K' := by
  intro ks
  induction ks with
  | nil =>
    intro cs ds K K' hk
    cases cs <;> cases ds <;> first
      | exact hk true
      | exact id
  | cons k ks ih =>
    intro cs ds K K' hk
    cases k with
    | int k0 =>
      cases cs with
      | nil => exact id
      | cons c cs =>
        cases c with
        | int k1 a =>
          cases ds with
          | nil => exact id
          | cons d ds =>
            cases d with
            | int k2 b =>
              unfold eqCells
              split
              · exact ih cs ds fun r => hk _
              · exact id
            | _ => exact id
        | _ => exact id
    | bool =>
      cases cs with
      | nil => exact id
      | cons c cs =>
        cases c with
        | bool a =>
          cases ds with
          | nil => exact id
          | cons d ds =>
            cases d with
            | bool b =>
              unfold eqCells
              exact ih cs ds fun r => hk _
            | _ => exact id
        | _ => exact id
    | _ => exact id

theorem det_eqCells : ∀ (ks : List TK) (cs ds : List AV), DetB (eqCells ks cs ds) := by
  intro ks
  induction ks with
  | nil =>
    intro cs ds K
    cases cs <;> cases ds <;> first
      | exact fun hr => ⟨_, hr, rfl⟩
      | exact fun hr => (show Stuck from hr).p.elim
  | cons k ks ih =>
    intro cs ds K hr
    cases k with
    | int k0 =>
      cases cs with
      | nil => exact (show Stuck from hr).p.elim
      | cons c cs =>
        cases c with
        | int k1 a =>
          cases ds with
          | nil => exact (show Stuck from hr).p.elim
          | cons d ds =>
            cases d with
            | int k2 b =>
              revert hr
              unfold eqCells
              split
              · intro hr
                obtain ⟨r, h1, h2⟩ := ih cs ds _ hr
                exact ⟨_, h1, mono_eqCells ks cs ds (fun r' e => by rw [e]) h2⟩
              · intro hr; exact hr.p.elim
            | _ => exact (show Stuck from hr).p.elim
        | _ => exact (show Stuck from hr).p.elim
    | bool =>
      cases cs with
      | nil => exact (show Stuck from hr).p.elim
      | cons c cs =>
        cases c with
        | bool a =>
          cases ds with
          | nil => exact (show Stuck from hr).p.elim
          | cons d ds =>
            cases d with
            | bool b =>
              revert hr
              unfold eqCells
              intro hr
              obtain ⟨r, h1, h2⟩ := ih cs ds _ hr
              exact ⟨_, h1, mono_eqCells ks cs ds (fun r' e => by rw [e]) h2⟩
            | _ => exact (show Stuck from hr).p.elim
        | _ => exact (show Stuck from hr).p.elim
    | _ => exact (show Stuck from hr).p.elim

theorem det_binInt (op : BinOp) (k k' : IntKind) (a b : Int) : DetQ (binInt op k k' a b) := by
  intro Q
  unfold binInt
  repeat' split
  all_goals intro hr
  all_goals first
    | exact ⟨_, hr.p.p, ⟨hr.c, ⟨rfl⟩⟩⟩
    | exact ⟨_, hr.p, ⟨hr.c, rfl⟩⟩
    | exact ⟨_, hr.p, ⟨rfl⟩⟩
    | exact hr.p.elim
    | exact ⟨_, hr, rfl⟩

theorem det_binV (T : Tab) (h : AHeap) (op : BinOp) (t : Nat) (x y : AV) : DetQ (binV T h op t x y) := by
  intro Q
  unfold binV
  split
  · exact det_binInt _ _ _ _ _ _
  · repeat' split
    all_goals intro hr
    all_goals first
      | exact hr.p.elim
      | exact ⟨_, hr, rfl⟩
  · repeat' split
    all_goals intro hr
    all_goals first
      | exact ⟨_, hr.p, ⟨hr.n, rfl⟩⟩
      | exact hr.p.elim
      | exact ⟨_, hr, rfl⟩
  · repeat' split
    all_goals intro hr
    all_goals first
      | (obtain ⟨r, h1, h2⟩ := det_eqCells _ _ _ _ hr
         exact ⟨_, h1, mono_eqCells _ _ _ (fun r' e => by rw [e]) h2⟩)
      | exact hr.p.elim
  · repeat' split
    all_goals intro hr
    all_goals first
      | exact hr.p.elim
      | exact ⟨_, hr, rfl⟩
  · repeat' split
    all_goals intro hr
    all_goals first
      | exact hr.p.elim
      | exact ⟨_, hr, rfl⟩
  · intro hr; exact hr.p.elim

theorem det_evCall0 (D : Den) (f : Nat) (lend bor : Bool) (args : List AV) (h : AHeap) (nx : Nat) : Det (evCall0 D f lend bor args h nx) := by
  intro K
  unfold evCall0
  simp only [forceL_eq]
  generalize lentAll h (lent0 lend args) = l
  split
  · intro hr; exact hr.p.elim
  · rintro ⟨r, L', h1, hr⟩
    cases bor with
    | false => exact ⟨_, _, _, hr, r, L', h1, rfl, rfl, rfl⟩
    | true =>
      cases l with
      | cons b l => exact (show Stuck from hr).p.elim
      | nil =>
        dsimp only at hr
        cases hs : scal3 r with
        | true =>
          rw [hs] at hr
          cases L' with
          | nil => exact ⟨_, _, _, hr, r, [], h1, by rw [hs]; exact ⟨rfl, rfl, rfl⟩⟩
          | cons B L' => exact (show Stuck from hr).p.elim
        | false =>
          rw [hs] at hr
          cases r with
          | ref i =>
            cases i with
            | succ i => exact (show Stuck from hr).p.elim
            | zero =>
              cases L' with
              | nil => exact (show Stuck from hr).p.elim
              | cons B L' =>
                cases L' with
                | cons _ _ => exact (show Stuck from hr).p.elim
                | nil => exact ⟨_, _, _, hr.p, .ref 0, [B], h1, ⟨hr.c, rfl, rfl, rfl⟩⟩
          | _ => exact (show Stuck from hr).p.elim

theorem det_evCallR (D : Den) (f : Nat) (lend : Bool) (l : List Nat) (args : List AV) (h : AHeap) (nx : Nat) : Det (evCallR D f lend l args h nx) := by
  intro K
  unfold evCallR
  simp only
  split
  · intro hr; exact hr.p.elim
  · rintro ⟨r, L', h1, hr⟩
    exact ⟨_, _, _, hr.p, r, L', h1, hr.c, rfl, rfl, rfl⟩
theorem det_evCall1 (D : Den) (f : Nat) (lend bor : Bool) (args : List AV) (h : AHeap) (nx : Nat) : Det (evCall1 D f lend bor args h nx) := by
  intro K
  unfold evCall1
  cases bor with
  | false => exact det_evCall0 D f lend false args h nx K
  | true =>
    simp only [forceL_eq]
    cases lentAll h (lent0 lend args) with
    | nil => exact det_evCall0 D f lend true args h nx K
    | cons b l => exact det_evCallR D f lend (b :: l) args h nx K

theorem det_evCall (D : Den) (f : Nat) (args : List AV) (h : AHeap) (nx : Nat) : Det (evCall D f args h nx) := by
  intro K hr
  obtain ⟨lend, ⟨bor, hr⟩⟩ := hr.p
  obtain ⟨v, us, nx', k1, k2⟩ := det_evCall1 D f lend bor args h nx K hr
  exact ⟨v, us, nx', k1, ⟨lend, ⟨bor, k2⟩⟩⟩

theorem det_evOp (D : Den) (T : Tab) (o : Op) (ty : Nat) (s : St) (h : AHeap) (nx : Nat) : Det (evOp D T o ty s h nx) := by
  intro K
  unfold evOp
  split
  · exact det_moveV _ _ _
  · exact det_moveV _ _ _
  · exact Det.q (det_pickV _ _ _) nx _
  · exact det_newVar _ _ _ _ _
  · split
    · intro hr; exact hr.p.elim
    · exact det_newVar _ _ _ _ _
  · exact Det.q (det_buildV _ _ _) nx _
  · exact det_bsliceV _ _ _ _ _ _ _
  · exact Det.q (det_loadV _ _ _ _) nx _
  · exact det_storeV _ _ _ _ _ _ _
  · repeat' split
    all_goals intro hr
    all_goals first
      | exact hr.p.elim
      | exact ⟨_, _, _, hr, rfl, rfl, rfl⟩
  · exact Det.q (det_binV _ _ _ _ _ _) nx _
  · exact Det.q (det_unV _ _) nx _
  · exact det_convV _ _ _ _ _ _ _
  · exact det_mksliceV _ _ _ _ _ _
  · split
    · exact Det.q (det_sliceV _ _ _ _ _ _ _) nx _
    · intro hr; exact hr.p.elim
  · exact Det.q (det_fieldAddrV _ _ _ _ _) nx _
  · exact Det.q (det_fieldV _ _ _ _) nx _
  · exact Det.q (det_indexV _ _ _ _ _) nx _
  · exact Det.q (det_extractV _ _) nx _
  · split
    · intro hr; exact ⟨_, _, _, hr, rfl, rfl, rfl⟩
    · intro hr; exact hr.p.elim
  · split
    · exact det_evCall _ _ _ _ _ _
    · split
      · exact det_evCall _ _ _ _ _ _
      · intro hr; exact hr.p.elim
    · split
      · exact Det.q (det_lengthV _ _ _ _) nx _
      · intro hr; exact hr.p.elim
    · exact Det.q (det_maxV _) nx _
    · exact Det.q (det_minV _) nx _
    · split
      · split
        · exact det_appendV _ _ _ _ _ _ _
        · intro hr; exact hr.p.elim
      · intro hr; exact hr.p.elim
    · split
      · exact det_copyV _ _ _ _ _ _ _
      · intro hr; exact hr.p.elim
    · split
      · exact det_clearV _ _ _ _ _ _
      · intro hr; exact hr.p.elim
    · split
      · exact det_delV _ _ _ _ _ _ _
      · intro hr; exact hr.p.elim
    · intro hr; exact hr.p.elim
  · exact Det.q (det_lookupV _ _ _ _ _ _) nx _
  · exact det_updV _ _ _ _ _ _ _ _
  · exact det_mkmapV _ _ _ _
  · intro hr; exact hr.p.elim

end Go.Ev
