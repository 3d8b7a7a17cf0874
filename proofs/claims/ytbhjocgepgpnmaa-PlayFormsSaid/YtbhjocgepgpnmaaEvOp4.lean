/- Operations that make no block and write none. -/
import Derived.Test.YtbhjocgepgpnmaaEvOp3
import Derived.Laws.StructEq
import Derived.Laws.Pointers
set_option linter.unusedVariables false
set_option linter.unusedSimpArgs false
namespace Go.Ev

section
variable {P : Program} {T : Tab} {Z : Base} {S : Nat → Prop} {w : World} {h : AHeap} {ρ : Rho} {K : AV → Ups → Nat → Prop} {nx : Nat} {N : Value → World → Prop}

/-- What is owed once an operation has told. -/
def Nexts (T : Tab) (Z : Base) (S : Nat → Prop) (w : World) (h : AHeap) (ρ : Rho) (K : AV → Ups → Nat → Prop) (N : Value → World → Prop) : Prop :=
  ∀ v us nx' u w' S' ρ', K v us nx' → HR T Z S' (happ h us) ρ' w' → Goes T S w h ρ S' w' (happ h us) ρ' → VLt T S' w' (happ h us) ρ' v u → N u w'
/-- The new blocks' numbers are free. -/
def Fr (h : AHeap) (nx : Nat) (K : AV → Ups → Nat → Prop) : Prop := ∀ v us nx', K v us nx' → ∀ b, nx ≤ b → b < nx' → h b = .none
def Gives (P : Program) (m : Sem Value) (w : World) (N : Value → World → Prop) : Prop := ∃ u w', m.run P w = .ok u w' ∧ N u w'

theorem Nexts.pure (hn : Nexts T Z S w h ρ K N) (H : HR T Z S h ρ w) {v : AV} {u : Value} (hK : K v [] nx) (hv : VLt T S w h ρ v u) : N u w :=
  hn v [] nx u w S ρ hK H (Goes.refl ..) hv
theorem Gives.pure {m : Sem Value} (hn : Nexts T Z S w h ρ K N) (H : HR T Z S h ρ w) {v : AV} {u : Value} (hK : K v [] nx) (hr : m.run P w = .ok u w) (hv : VLt T S w h ρ v u) : Gives P m w N :=
  ⟨u, w, hr, hn.pure H hK hv⟩

-- what a value of a head is
theorem vl_int {k : IntKind} {n : Int} {v : Value} (a : VLt T S w h ρ (.int k n) v) : v = .int k n := by cases (show VF T S w (.int k n) v from a); rfl
theorem vl_bool {b : Bool} {v : Value} (a : VLt T S w h ρ (.bool b) v) : v = .bool b := by cases (show VF T S w (.bool b) v from a); rfl
theorem vl_str {s : ByteArray} {v : Value} (a : VLt T S w h ρ (.str s) v) : v = .string s := by cases (show VF T S w (.str s) v from a); rfl
theorem vl_npt {v : Value} (a : VLt T S w h ρ .npt v) : v = .pointer none := by cases (show VF T S w .npt v from a); rfl
theorem vl_nmp {v : Value} (a : VLt T S w h ρ .nmp v) : v = .map none := by cases (show VF T S w .nmp v from a); rfl
theorem vl_nsl {e : Nat} {v : Value} (a : VLt T S w h ρ (.nsl e) v) : v = .slice none 0 0 := by cases (show VF T S w (.nsl e) v from a); rfl
theorem vl_skp {v : Value} (a : VLt T S w h ρ .skp v) : v = undef := by cases (show VF T S w .skp v from a); rfl
theorem vl_mkint (k : IntKind) (n : Int) : VLt T S w h ρ (.int k n) (.int k n) := VF.int k n
theorem vl_mkbool (b : Bool) : VLt T S w h ρ (.bool b) (.bool b) := VF.bool b

theorem vf_vlc {c : AV} {v : Value} (a : VF T S w c v) : VLc T S w h ρ c v := by cases a <;> constructor <;> assumption
theorem vf_vlv {c : AV} {v : Value} (a : VF T S w c v) : VLv T S w h ρ c v := by
  cases c with
  | agg cs => cases a with | agg cs vs hl h1 hv => exact ⟨vs, rfl, hl, fun j c u a b => ⟨vf_vlc (hv j c u a b), h1 j c u a b⟩⟩
  | fn f caps => cases a with | fn f caps vs hl hv => exact ⟨vs, rfl, hl, fun j c u a b => vf_vlc (hv j c u a b)⟩
  | _ => exact vf_vlc (h := h) (ρ := ρ) a
theorem vf_vlt {c : AV} {v : Value} (a : VF T S w c v) : VLt T S w h ρ c v := by
  cases c with
  | tup xs => cases a
  | _ => exact vf_vlv (h := h) (ρ := ρ) a
theorem vlc_vlv {c : AV} {v : Value} (a : VLc T S w h ρ c v) : VLv T S w h ρ c v := by
  cases c with
  | agg cs => exact vf_vlv (show VF T S w (.agg cs) v from a)
  | fn f caps => exact vf_vlv (show VF T S w (.fn f caps) v from a)
  | _ => exact a
theorem vlv_vlt {c : AV} {v : Value} (a : VLv T S w h ρ c v) : VLt T S w h ρ c v := by
  cases c with
  | tup xs => cases (show VF T S w (.tup xs) v from a)
  | _ => exact a

/-- The slots. -/
def TM (T : Tab) (S : Nat → Prop) (w : World) (h : AHeap) (ρ : Rho) (s : St) (a : Act) : Prop := ∀ t, VLt T S w h ρ (s t) (a.tmps.getD t undef)

theorem ofV_ok (T : Tab) (t : Nat) (v : Value) : VLt T S w h ρ (ofV T t v) v := by
  unfold ofV
  split
  · exact .int _ _
  · exact .bool _
  · exact .str _
  · split
    · exact .nsl _
    · exact .und _
  · exact .npt
  · exact .nmp
  · exact .und _
theorem opnd_ok {s : St} {a : Act} (tm : TM T S w h ρ s a) (ty : Nat) (x : Operand) : VLt T S w h ρ (opnd T ty s x) (a.eval x) := by
  cases x with
  | tmp t => exact tm t
  | const v => exact ofV_ok T ty v
  | global g => exact VF.und _
  | func f => exact ⟨#[], rfl, rfl, fun j c u hc => by simp at hc⟩

theorem force_iff {v : AV} {Q : AV → Prop} : force v Q ↔ Q v := by cases v <;> exact Iff.rfl

-- numbers
theorem bitsOp_run (op : BinOp) (k : IntKind) (a b : Int) (hop : op = .and ∨ op = .or ∨ op = .xor ∨ op = .andNot) : Op.intBits op k a b = pure (.int k (bitsOp op k a b)) := by
  rcases hop with rfl | rfl | rfl | rfl <;> rfl

theorem binInt_ok {op : BinOp} {k k' : IntKind} {a b : Int} {Q : AV → Prop} {t : Nat} (hr : binInt op k k' a b Q) :
    ∃ v u, Q v ∧ (binOp op t (.int k a) (.int k' b)).run P w = .ok u w ∧ ((∃ k n, v = .int k n ∧ u = .int k n) ∨ (∃ c, v = .bool c ∧ u = .bool c)) := by
  unfold binInt at hr
  cases op <;> simp only at hr <;> first
    | (-- shifts
       have h0 := hr.c
       have hK := hr.p.p
       refine ⟨_, _, hK, ?_, .inl ⟨_, _, rfl, rfl⟩⟩
       have : ¬ b < 0 := by omega
       simp [binOp, Op.shift, this]; done)
    | (have h0 := hr.c
       have hK := hr.p
       refine ⟨_, _, hK, ?_, .inl ⟨_, _, rfl, rfl⟩⟩
       have : ¬ b < 0 := by omega
       simp [binOp, Op.shift, this]; done)
    | skip
  all_goals
    cases hk : Nat.beq (kIx k) (kIx k') with
    | false => rw [hk] at hr; exact hr.p.elim
    | true =>
      obtain rfl := kIx_eq hk
      rw [hk] at hr
      simp only at hr
      first
        | exact hr.p.elim
        | (refine ⟨_, _, hr, ?_, .inr ⟨_, rfl, rfl⟩⟩; simp [binOp, Op.intCmp]; done)
        | (refine ⟨_, _, hr, ?_, .inl ⟨_, _, rfl, rfl⟩⟩; simp only [binOp, bitsOp_run _ _ _ _ (.inl rfl), bitsOp_run _ _ _ _ (.inr (.inl rfl)), bitsOp_run _ _ _ _ (.inr (.inr (.inl rfl))), bitsOp_run _ _ _ _ (.inr (.inr (.inr rfl)))]; simp; done)
        | (refine ⟨_, _, hr.p, ?_, .inl ⟨_, _, rfl, rfl⟩⟩; simp [binOp, Op.intArith]; done)
        | (refine ⟨_, _, hr.p, ?_, .inl ⟨_, _, rfl, rfl⟩⟩; simp [binOp, Op.intDiv, hr.c]; done)
        | (refine ⟨_, _, hr.p.p, ?_, .inl ⟨_, _, rfl, rfl⟩⟩; simp [binOp, Op.intDiv, hr.c]; done)

-- '==' of structs
theorem part_scalar (hT : TabOk P T) {t : Nat} (hk : kOk (T t).k = true) (ha : (T t).agg = false) {cs : Array Value} {off : Nat} {v : Value} (hv : cs[off]? = some v) :
    (part t cs off).run P w = .ok v w := by
  simp [part, hT.isAgg w hk, ha, hv]
theorem eqFields_ok (hT : TabOk P T) {xs ys : Array Value} (d : Nat) : ∀ {fs : List (Nat × Nat)} {gs : List Field} {i : Nat} {cs ds : List AV} {Q : Bool → Prop}, fieldsOk fs gs = true → (∀ g ∈ gs, g.name ≠ "_") →
    ((fs.zipIdx i).all fun p => Nat.beq p.1.1 p.2) = true →
    (∀ (j : Nat) (c : AV), cs[j]? = some c → ∃ u, xs[i + j]? = some u ∧ VLc T S w h ρ c u) → (∀ (j : Nat) (c : AV), ds[j]? = some c → ∃ u, ys[i + j]? = some u ∧ VLc T S w h ρ c u) →
    eqCells (fs.map fun f => (T f.2).k) cs ds Q → ∃ r, Q r ∧ (Op.eqFields (d + 1) xs ys gs).run P w = .ok r w := by
  intro fs
  induction fs with
  | nil =>
    intro gs i cs ds Q hf hn ha hx hy hr
    cases gs with
    | cons g gs => simp [fieldsOk] at hf
    | nil =>
      cases cs <;> cases ds <;> simp only [List.map_nil, eqCells] at hr <;> first | exact ⟨true, hr, rfl⟩ | exact hr.p.elim
  | cons f fs ih =>
    intro gs i cs ds Q hf hn ha hx hy hr
    cases gs with
    | nil => simp [fieldsOk] at hf
    | cons g gs =>
      simp only [fieldsOk, Bool.and_eq_true] at hf
      obtain ⟨⟨f1, f2⟩, f3⟩ := hf
      have f1 := Nat.eq_of_beq_eq_true f1
      have f2 := Nat.eq_of_beq_eq_true f2
      simp only [List.zipIdx_cons, List.all_cons, Bool.and_eq_true] at ha
      obtain ⟨a1, a3⟩ := ha
      have a1 := Nat.eq_of_beq_eq_true a1
      have hname : g.name ≠ "_" := hn g (by simp)
      have step : ∀ (c d' : AV) (cs' ds' : List AV) (u v : Value) (b : Bool), cs = c :: cs' → ds = d' :: ds' → xs[i]? = some u → ys[i]? = some v → kOk (T g.type).k = true → (T g.type).agg = false →
          (Op.equalIn (d + 1) g.type u v).run P w = .ok b w → (eqCells (fs.map fun f => (T f.2).k) cs' ds' fun r => Q (b && r)) → ∃ r, Q r ∧ (Op.eqFields (d + 1) xs ys (g :: gs)).run P w = .ok r w := by
        intro c d' cs' ds' u v b hcs hds hu hv hk1 hk2 hb hr'
        subst hcs hds
        have pu : (part g.type xs g.offset).run P w = .ok u w := part_scalar hT hk1 hk2 (by rw [← f1, a1]; exact hu)
        have pv : (part g.type ys g.offset).run P w = .ok v w := part_scalar hT hk1 hk2 (by rw [← f1, a1]; exact hv)
        obtain ⟨r, r1, r2⟩ := ih f3 (fun g hg => hn g (by simp [hg])) a3 (fun j c hj => by have := hx (j + 1) c (by simpa using hj); rwa [show i + (j + 1) = i + 1 + j by omega] at this)
          (fun j c hj => by have := hy (j + 1) c (by simpa using hj); rwa [show i + (j + 1) = i + 1 + j by omega] at this) hr'
        simp only [Op.eqFields, ne_eq, hname, not_false_eq_true, if_true, Sem.run_bind, pu, pv, Result.andThen_ok, hb]
        cases b with
        | false => exact ⟨false, r1, by simp⟩
        | true => exact ⟨r, by simpa using r1, by simpa using r2⟩
      cases hq : (T f.2).k with
      | int kk =>
        rw [List.map_cons, hq] at hr
        cases cs with
        | nil => simp only [eqCells] at hr; exact hr.p.elim
        | cons c cs =>
          cases ds with
          | nil => cases c <;> simp only [eqCells] at hr <;> exact hr.p.elim
          | cons d' ds =>
            obtain ⟨u, u1, u2⟩ := hx 0 c rfl
            obtain ⟨v, v1, v2⟩ := hy 0 d' rfl
            cases c with
            | int k n =>
              cases d' with
              | int k' m =>
                have hu : u = .int k n := vl_int (h := h) (ρ := ρ) u2
                have hv : v = .int k' m := vl_int (h := h) (ρ := ρ) v2
                subst hu hv
                simp only [eqCells] at hr
                cases hkk : Nat.beq (kIx k) (kIx k') with
                | false => rw [hkk] at hr; exact hr.p.elim
                | true =>
                  obtain rfl := kIx_eq hkk
                  rw [hkk] at hr
                  exact step _ _ _ _ _ _ (n == m) rfl rfl u1 v1 (by rw [← f2, hq]; rfl) (by rw [← f2]; simp [TI.agg, hq]) (by rw [← f2]; exact run_equalIn_int w d _ k kk n m (hT.int hq)) hr
              | _ => simp only [eqCells] at hr; exact hr.p.elim
            | _ => cases d' <;> simp only [eqCells] at hr <;> exact hr.p.elim
      | bool =>
        rw [List.map_cons, hq] at hr
        cases cs with
        | nil => simp only [eqCells] at hr; exact hr.p.elim
        | cons c cs =>
          cases ds with
          | nil => cases c <;> simp only [eqCells] at hr <;> exact hr.p.elim
          | cons d' ds =>
            obtain ⟨u, u1, u2⟩ := hx 0 c rfl
            obtain ⟨v, v1, v2⟩ := hy 0 d' rfl
            cases c with
            | bool n =>
              cases d' with
              | bool m =>
                have hu : u = .bool n := vl_bool (h := h) (ρ := ρ) u2
                have hv : v = .bool m := vl_bool (h := h) (ρ := ρ) v2
                subst hu hv
                simp only [eqCells] at hr
                exact step _ _ _ _ _ _ (n == m) rfl rfl u1 v1 (by rw [← f2, hq]; rfl) (by rw [← f2]; simp [TI.agg, hq]) (by rw [← f2]; exact run_equalIn_bool' w d _ n m (hT.bool hq)) hr
              | _ => simp only [eqCells] at hr; exact hr.p.elim
            | _ => cases d' <;> simp only [eqCells] at hr <;> exact hr.p.elim
      | _ => rw [List.map_cons, hq] at hr; cases cs <;> cases ds <;> simp only [eqCells] at hr <;> exact hr.p.elim

theorem eqGuard_flat (hT : TabOk P T) {t : Nat} {ks : List TK} (hks : ks = kindsOf T t) {cs ds : List AV} {Q : Bool → Prop} (hf : flatEq T t = true) (hr : eqCells ks cs ds Q) : ∀ d, P.eqGuardType (d + 2) t = false := by
  unfold flatEq at hf
  unfold kindsOf at hks
  cases hk : (T t).k with
  | struct fs =>
    rw [hk] at hks
    obtain ⟨gs, h1, h2, h3, h4, h5, h6⟩ := hT.struct hk
    have key : ∀ (fs : List (Nat × Nat)) (gs : List Field) (cs ds : List AV) (Q : Bool → Prop), fieldsOk fs gs = true → eqCells (fs.map fun f => (T f.2).k) cs ds Q → ∀ d, ∀ g ∈ gs, P.eqGuardType (d + 1) g.type = false := by
      intro fs
      induction fs with
      | nil => intro gs cs ds Q h1 _ d g hg; cases gs with | nil => simp at hg | cons a b => simp [fieldsOk] at h1
      | cons f fs ih =>
        intro gs cs ds Q h1 h2 d g hg
        cases gs with
        | nil => simp at hg
        | cons a gs =>
          simp only [fieldsOk, Bool.and_eq_true] at h1
          obtain ⟨⟨_, f2⟩, f3⟩ := h1
          have f2 := Nat.eq_of_beq_eq_true f2
          have hd : (∃ k, P.underlying a.type = some (.int k)) ∨ P.underlying a.type = some .bool := by
            rw [← f2]
            cases hq : (T f.2).k with
            | int k => exact .inl ⟨k, hT.int hq⟩
            | bool => exact .inr (hT.bool hq)
            | _ => rw [List.map_cons, hq] at h2; cases cs <;> cases ds <;> simp only [eqCells] at h2 <;> exact h2.p.elim
          rcases List.mem_cons.1 hg with rfl | hg
          · rcases hd with ⟨k, hd⟩ | hd <;> simp [Program.eqGuardType, hd]
          · have : ∃ cs' ds' Q', eqCells (fs.map fun f => (T f.2).k) cs' ds' Q' := by
              rw [List.map_cons] at h2
              cases hq : (T f.2).k <;> rw [hq] at h2 <;> cases cs <;> cases ds <;> (try (simp only [eqCells] at h2; exact h2.p.elim)) <;> rename_i c cs d' ds <;> cases c <;> cases d' <;> simp only [eqCells] at h2 <;> first
                | exact h2.p.elim
                | exact ⟨_, _, _, h2⟩
                | (split at h2 <;> first | exact ⟨_, _, _, h2⟩ | exact h2.p.elim)
            obtain ⟨cs', ds', Q', h2'⟩ := this
            exact ih gs cs' ds' Q' f3 h2' d g hg
    subst hks
    intro d
    simp only [Program.eqGuardType, h1]
    rw [Array.any_eq_false']
    intro g hg hne
    have := key fs gs.toList cs ds Q h2 hr d g (by simpa using hg)
    simp only [Program.eqGuardType] at this
    rw [this] at hne; simp at hne
  | _ => rw [hk] at hf; simp at hf

theorem fieldsOf_eq {t : Nat} {gs : Array Field} (hu : P.underlying t = some (.struct gs)) : P.underlying t = some (.struct (P.fieldsOf t)) ∧ (P.fieldsOf t) = gs := by
  simp [Program.fieldsOf, hu]

theorem bin_eql_ptr (t : Nat) (a b : Option Addr) : binOp .eql t (.pointer a) (.pointer b) = (do pure (.bool (← Op.equal t (.pointer a) (.pointer b)))) := by cases a <;> rfl
theorem bin_neq_ptr (t : Nat) (a b : Option Addr) : binOp .neq t (.pointer a) (.pointer b) = (do pure (.bool (!(← Op.equal t (.pointer a) (.pointer b))))) := by cases a <;> rfl
theorem eq_nil (w : World) {t e : Nat} (hu : P.underlying t = some (.pointer e)) (a : Option Addr) : (Op.equal t (.pointer a) (.pointer none)).run P w = .ok a.isNone w := by
  have key : ∀ d, (Op.equalIn (d + 1) t (.pointer a) (.pointer none)).run P w = .ok a.isNone w := fun d => by
    cases a <;> simp [Op.equalIn, run_underlying hu]
  exact key 9999

theorem binV_ok (hT : TabOk P T) {op : BinOp} {t : Nat} {x y : Operand} {ax ay : AV} {ux uy : Value} {Q : AV → Prop} (hx : VLt T S w h ρ ax ux) (hy : VLt T S w h ρ ay uy)
    (hr : binV T h op t ax ay Q) : ∃ v u, Q v ∧ (do eqGuard op t x y ux uy; binOp op t ux uy : Sem Value).run P w = .ok u w ∧ VLt T S w h ρ v u := by
  cases ax with
  | int k a =>
    cases ay with
    | int k' b =>
      obtain rfl := vl_int hx
      obtain rfl := vl_int hy
      obtain ⟨v, u, h1, h2, h3⟩ := binInt_ok (P := P) (w := w) (t := t) hr
      refine ⟨v, u, h1, ?_, ?_⟩
      · have : (eqGuard op t x y (.int k a) (.int k' b)).run P w = .ok () w := by cases op <;> simp [eqGuard]
        simp [this, h2]
      · rcases h3 with ⟨k, n, rfl, rfl⟩ | ⟨c, rfl, rfl⟩
        · exact vl_mkint _ _
        · exact vl_mkbool _
    | _ => exact hr.p.elim
  | bool a =>
    cases ay with
    | bool b =>
      obtain rfl := vl_bool hx
      obtain rfl := vl_bool hy
      simp only [binV] at hr
      cases hk : (T t).k with
      | bool =>
        rw [hk] at hr
        have hu := hT.bool hk
        have g : (eqGuard op t x y (.bool a) (.bool b)).run P w = .ok () w := by cases op <;> simp [eqGuard]
        cases op <;> first
          | exact hr.p.elim
          | (refine ⟨_, .bool (a == b), hr, ?_, vl_mkbool _⟩; simp [g, binOp, Op.equal, Op.maxDepth, run_equalIn_bool w _ t a b hu]; done)
          | (refine ⟨_, .bool (!(a == b)), hr, ?_, vl_mkbool _⟩; simp [g, binOp, Op.equal, Op.maxDepth, run_equalIn_bool w _ t a b hu]; done)
      | _ => rw [hk] at hr; exact hr.p.elim
    | _ => exact hr.p.elim
  | str a =>
    cases ay with
    | str b =>
      obtain rfl := vl_str hx
      obtain rfl := vl_str hy
      simp only [binV] at hr
      have g : (eqGuard op t x y (.string a) (.string b)).run P w = .ok () w := by cases op <;> simp [eqGuard]
      cases op <;> first
        | exact hr.p.elim
        | (refine ⟨_, _, hr, ?_, vl_mkbool _⟩; simp [g, binOp, Op.stringOp]; done)
        | skip
      have := hr.n
      refine ⟨_, .string (a ++ b), hr.p, ?_, VF.str _⟩
      have hlt : ¬ (IntKind.i64.max < ((a.size + b.size : Nat) : Int)) := by simp [IntKind.max, IntKind.signed, IntKind.bits]; omega
      simp only [Int.natCast_add] at hlt
      simp [g, binOp, Op.stringOp]
      omega
    | _ => exact hr.p.elim
  | agg cs =>
    cases ay with
    | agg ds =>
      obtain ⟨xs, rfl, hxl, hxc⟩ := (show VLv T S w h ρ (.agg cs) ux from hx)
      obtain ⟨ys, rfl, hyl, hyc⟩ := (show VLv T S w h ρ (.agg ds) uy from hy)
      simp only [binV] at hr
      have rd : ∀ {cs : List AV} {xs : Array Value}, xs.size = cs.length → (∀ (j : Nat) (c : AV) (u : Value), cs[j]? = some c → xs[j]? = some u → VLc T S w h ρ c u ∧ u.oneCell' = true) → ∀ (j : Nat) (c : AV), cs[j]? = some c → ∃ u, xs[0 + j]? = some u ∧ VLc T S w h ρ c u := by
        intro cs xs hl hc j c hj
        have hlt := (List.getElem?_eq_some_iff.1 hj).1
        have : xs[j]? = some xs[j] := Array.getElem?_eq_getElem (by omega)
        exact ⟨xs[j], by simp, (hc j c _ hj this).1⟩
      cases hf : flatEq T t with
      | false => rw [hf] at hr; cases op <;> exact hr.p.elim
      | true =>
        rw [hf] at hr
        have main : ∀ Q', eqCells (kindsOf T t) cs ds Q' → ∃ r, Q' r ∧ (Op.equalIn 10000 t (.agg xs) (.agg ys)).run P w = .ok r w ∧ ∀ op, (eqGuard op t x y (.agg xs) (.agg ys)).run P w = .ok () w := by
          intro Q' hq
          have hg := eqGuard_flat hT rfl hf hq
          have hf' := hf
          unfold flatEq at hf'
          unfold kindsOf at hq
          cases hk : (T t).k with
          | struct fs =>
            rw [hk] at hf' hq
            obtain ⟨gs, h1, h2, h3, h4, h5, h6⟩ := hT.struct hk
            simp only [Bool.and_eq_true] at hf'
            obtain ⟨r, r1, r2⟩ := eqFields_ok (xs := xs) (ys := ys) hT 9998 h2 h5 (i := 0) hf'.1 (rd hxl hxc) (rd hyl hyc) hq
            refine ⟨r, r1, ?_, fun op => run_eqGuard_agg w op t x y xs ys (hg _)⟩
            rw [run_equalIn_struct w 9999 t xs ys (fieldsOf_eq h1).1 h4, (fieldsOf_eq h1).2]
            exact r2
          | _ => rw [hk] at hf'; simp at hf'
        cases op <;> first
          | exact hr.p.elim
          | (obtain ⟨r, r1, r2, r3⟩ := main _ hr; exact ⟨_, .bool r, r1, by simp [r3, run_eql_struct, r2], vl_mkbool _⟩)
          | (obtain ⟨r, r1, r2, r3⟩ := main _ hr; exact ⟨_, .bool (!r), r1, by simp [r3, run_neq_struct, r2], vl_mkbool _⟩)
    | _ => exact hr.p.elim
  | npt =>
    cases ay with
    | npt =>
      obtain rfl := vl_npt hx
      obtain rfl := vl_npt hy
      simp only [binV] at hr
      have g : (eqGuard op t x y (.pointer none) (.pointer none)).run P w = .ok () w := by cases op <;> simp [eqGuard]
      cases hk : (T t).k with
      | ptr e =>
        rw [hk] at hr
        have hu := hT.ptr hk
        cases op <;> first
          | exact hr.p.elim
          | (refine ⟨_, .bool true, hr, ?_, vl_mkbool _⟩; rw [Sem.run_bind, g, Result.andThen_ok, bin_eql_ptr, Sem.run_bind, eq_nil w hu]; rfl)
          | (refine ⟨_, .bool false, hr, ?_, vl_mkbool _⟩; rw [Sem.run_bind, g, Result.andThen_ok, bin_neq_ptr, Sem.run_bind, eq_nil w hu]; rfl)
      | _ => rw [hk] at hr; cases op <;> exact hr.p.elim
    | _ => exact hr.p.elim
  | ptr b i off =>
    cases ay with
    | npt =>
      obtain rfl := vl_npt hy
      simp only [binV] at hr
      cases hl : isVar (h b) with
      | false => rw [hl] at hr; exact hr.p.elim
      | true =>
      rw [hl] at hr
      cases hk : (T t).k with
      | ptr e =>
        rw [hk] at hr
        have hu := hT.ptr hk
        have hux : ∃ a, ux = .pointer (some a) := by
          have hx' : VLc T S w h ρ (.ptr b i off) ux := hx
          simp only [VLc] at hx'
          cases hb : h b <;> rw [hb] at hl hx' <;> simp [isVar] at hl <;> simp only [vw] at hx' <;> obtain ⟨blk, o, _, rfl⟩ := hx' <;> exact ⟨_, rfl⟩
        obtain ⟨a, rfl⟩ := hux
        have g : (eqGuard op t x y (.pointer (some a)) (.pointer none)).run P w = .ok () w := by cases op <;> simp [eqGuard]
        cases op <;> first
          | exact hr.p.elim
          | (refine ⟨_, .bool false, hr, ?_, vl_mkbool _⟩; rw [Sem.run_bind, g, Result.andThen_ok, bin_eql_ptr, Sem.run_bind, eq_nil w hu]; rfl)
          | (refine ⟨_, .bool true, hr, ?_, vl_mkbool _⟩; rw [Sem.run_bind, g, Result.andThen_ok, bin_neq_ptr, Sem.run_bind, eq_nil w hu]; rfl)
      | _ => rw [hk] at hr; cases op <;> exact hr.p.elim
    | _ => exact hr.p.elim
  | _ => exact hr.p.elim

end
end Go.Ev
