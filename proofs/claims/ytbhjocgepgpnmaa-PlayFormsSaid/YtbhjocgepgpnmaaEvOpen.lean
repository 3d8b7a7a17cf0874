/- What comes in, as abstract values. -/
import Derived.Test.YtbhjocgepgpnmaaEvFn
import Derived.Deep.Slices
import Derived.OpenShut
import Derived.Carry
import Derived.Below
import Derived.WideShapes
set_option linter.unusedVariables false
set_option linter.unusedSimpArgs false
namespace Go.Ev

def contigFrom (T : Tab) : Nat → List (Nat × Nat) → Nat → Bool
  | off, [], e => Nat.beq off e
  | off, p :: fs, e => Nat.beq p.1 off && contigFrom T (off + (T p.2).size) fs e

/-- Types of whole numbers, bools, texts, and slices, structs, arrays of such. -/
def plainB (T : Tab) : Nat → Nat → Bool
  | 0, _ => false
  | f + 1, t => match (T t).k with
    | .int _ => true
    | .bool => true
    | .str => true
    | .slice e => plainB T f e
    | .struct fs => contigFrom T 0 fs (T t).size && fs.all fun p => plainB T f p.2
    | .arr _ e => plainB T f e
    | _ => false

/-- A value of a type. -/
def Shp (T : Tab) : Nat → Nat → AV → Prop
  | 0, _, _ => False
  | f + 1, t, x => match (T t).k with
    | .int k => ∃ n, x = .int k n ∧ (Lit.int k n).wf = true
    | .bool => ∃ b, x = .bool b
    | .str => ∃ s, x = .str s
    | .slice e => ∃ es, x = .lst e es ∧ es.length ≤ maxLen ∧ ∀ y ∈ es, Shp T f e y
    | .struct fs => ∃ ys : List AV, x = .agg (ys.flatMap cells) ∧ ys.length = fs.length ∧ ∀ (i : Nat) (p : Nat × Nat) (y : AV), fs[i]? = some p → ys[i]? = some y → Shp T f p.2 y
    | .arr n e => ∃ ys : List AV, x = .agg (ys.flatMap cells) ∧ ys.length = n ∧ ∀ y ∈ ys, Shp T f e y
    | _ => False

section
variable {H : Type} {enc : TypeId × Value → H} {P : Program} {T : Tab} {w : World} {base : Nat} {spare : Nat → Bool} {held : Bool}

theorem cellsOf_eq (hT : TabOk P T) {t : Nat} (hk : kOk (T t).k = true) : P.cellsOf t = (T t).size := by
  obtain ⟨i, z, i1, i2, _⟩ := hT.info hk
  simp [Program.cellsOf, i1, i2]

/-- A row of cells stands for a value's cells. -/
def Row (T : Tab) (w : World) (cs : List AV) (vs : List Value) : Prop :=
  vs.length = cs.length ∧ ∀ (j : Nat) (c : AV) (u : Value), cs[j]? = some c → vs[j]? = some u → VF T (· < w.heap.size) w c u ∧ u.oneCell' = true

theorem Row.append {cs ds : List AV} {vs us : List Value} (a : Row T w cs vs) (b : Row T w ds us) : Row T w (cs ++ ds) (vs ++ us) := by
  refine ⟨by simp [a.1, b.1], fun j c u h1 h2 => ?_⟩
  by_cases hj : j < cs.length
  · rw [List.getElem?_append_left hj] at h1
    rw [List.getElem?_append_left (by rw [a.1]; exact hj)] at h2
    exact a.2 j c u h1 h2
  · rw [List.getElem?_append_right (by omega)] at h1
    rw [List.getElem?_append_right (by rw [a.1]; omega), a.1] at h2
    exact b.2 _ c u h1 h2

theorem Row.one {c : AV} {u : Value} (h : VF T (· < w.heap.size) w c u) (h1 : u.oneCell' = true) : Row T w [c] [u] := by
  refine ⟨rfl, fun j x y a b => ?_⟩
  cases j with
  | zero => simp at a b; subst a b; exact ⟨h, h1⟩
  | succ j => simp at a

theorem open_fields (hT : TabOk P T) {f n : Nat} (ih : ∀ (t : Nat) (cs : List Value) (y : DataW H × List MemPlace), plainB T f t = true → DataW.trod enc P w base spare held n t cs = some y → ∃ x, Shp T f t x ∧ Row T w (cells x) cs) :
    ∀ {fs : List (Nat × Nat)} {gs : List Field} {xs : List (DataW H × List MemPlace)} {off e : Nat} {cs : List Value}, fieldsOk fs gs = true → (∀ p ∈ fs, kOk (T p.2).k = true) → contigFrom T off fs e = true → (fs.all fun p => plainB T f p.2) = true →
      cs.length = e → xs.length = gs.length → (∀ (i : Nat) (g : Field), gs[i]? = some g → DataW.trod enc P w base spare held n g.type ((cs.drop g.offset).take (P.cellsOf g.type)) = xs[i]?) →
      ∃ ys : List AV, ys.length = fs.length ∧ (∀ (i : Nat) (p : Nat × Nat) (y : AV), fs[i]? = some p → ys[i]? = some y → Shp T f p.2 y) ∧ Row T w (ys.flatMap cells) (cs.drop off)
  | [], gs, xs, off, e, cs, _, _, h1, _, h2, _, _ => by
    simp only [contigFrom] at h1
    have := Nat.eq_of_beq_eq_true h1
    refine ⟨[], rfl, fun i p y h => by simp at h, by simp; omega, fun j c u h => by simp at h⟩
  | p :: fs, [], xs, off, e, cs, h0, _, _, _, _, _, _ => by simp [fieldsOk] at h0
  | p :: fs, g :: gs, xs, off, e, cs, h0, hk, h1, h2, h3, h4, h5 => by
    simp only [fieldsOk, Bool.and_eq_true] at h0
    simp only [contigFrom, Bool.and_eq_true] at h1
    simp only [List.all_cons, Bool.and_eq_true] at h2
    obtain ⟨⟨e1, e2⟩, h0'⟩ := h0
    have e1 := Nat.eq_of_beq_eq_true e1
    have e2 := Nat.eq_of_beq_eq_true e2
    have e3 := Nat.eq_of_beq_eq_true h1.1
    cases xs with
    | nil => simp at h4
    | cons x xs =>
      have hx := h5 0 g rfl
      simp only [List.getElem?_cons_zero] at hx
      rw [← e2, ← e1, e3, cellsOf_eq hT (hk p (by simp))] at hx
      obtain ⟨y, hy, ry⟩ := ih p.2 _ _ h2.1 hx
      obtain ⟨ys, y1, y2, y3⟩ := open_fields hT ih (fs := fs) (gs := gs) (xs := xs) (off := off + (T p.2).size) (e := e) (cs := cs) h0' (fun q hq => hk q (by simp [hq])) h1.2 h2.2 h3 (by simpa using h4)
        (fun i g' hg => by have := h5 (i + 1) g' (by simpa using hg); simpa using this)
      refine ⟨y :: ys, by simp [y1], fun i q z hq hz => ?_, ?_⟩
      · cases i with
        | zero => simp at hq hz; subst hq hz; exact hy
        | succ i => exact y2 i q z (by simpa using hq) (by simpa using hz)
      · rw [List.flatMap_cons]
        have := ry.append y3
        rw [← List.drop_drop, List.take_append_drop] at this
        exact this

theorem open_elems (hT : TabOk P T) {f n : Nat} {t : Nat} (hk : kOk (T t).k = true) (ih : ∀ (cs : List Value) (y : DataW H × List MemPlace), DataW.trod enc P w base spare held n t cs = some y → ∃ x, Shp T f t x ∧ Row T w (cells x) cs) :
    ∀ (m i : Nat) (cs : List Value), cs.length = (i + m) * (T t).size → (∀ j, i ≤ j → j < i + m → ∃ y, DataW.trod enc P w base spare held n t ((cs.drop (j * P.cellsOf t)).take (P.cellsOf t)) = some y) →
      ∃ ys : List AV, ys.length = m ∧ (∀ y ∈ ys, Shp T f t y) ∧ Row T w (ys.flatMap cells) (cs.drop (i * (T t).size))
  | 0, i, cs, h1, _ => ⟨[], rfl, fun y h => by simp at h, by simp; rw [h1]; simp, fun j c u h => by simp at h⟩
  | m + 1, i, cs, h1, h2 => by
    obtain ⟨y, hy⟩ := h2 i (Nat.le_refl _) (by omega)
    rw [cellsOf_eq hT hk] at hy
    obtain ⟨x, hx, rx⟩ := ih _ _ hy
    obtain ⟨ys, y1, y2, y3⟩ := open_elems hT hk ih m (i + 1) cs (by rw [h1]; congr 1; omega) (fun j a b => h2 j (by omega) (by omega))
    refine ⟨x :: ys, by simp [y1], fun z hz => ?_, ?_⟩
    · rcases List.mem_cons.1 hz with rfl | hz
      · exact hx
      · exact y2 z hz
    · rw [List.flatMap_cons]
      have := rx.append y3
      rw [Nat.succ_mul, ← List.drop_drop, List.take_append_drop] at this
      exact this

theorem open_shp (hT : TabOk P T) : ∀ (f t : Nat) (fuel : Nat) (cs : List Value) (y : DataW H × List MemPlace), plainB T f t = true → DataW.trod enc P w base spare held fuel t cs = some y → ∃ x, Shp T f t x ∧ Row T w (cells x) cs
  | 0, t, fuel, cs, y, hp, _ => by simp [plainB] at hp
  | f + 1, t, fuel, cs, y, hp, h => by
    have ih := open_shp hT f
    unfold plainB at hp
    unfold Shp
    cases hk : (T t).k with
    | int k =>
      have hu := hT.int hk
      cases fuel with
      | zero => simp [DataW.trod] at h
      | succ fuel =>
        unfold DataW.trod at h
        rw [hu] at h
        split at h <;> simp_all
        rename_i k' n he
        obtain ⟨⟨rfl, hw⟩, _⟩ := h
        exact ⟨_, ⟨n, rfl, hw⟩, Row.one (VF.int _ _) rfl⟩
    | bool =>
      have hu := hT.bool hk
      cases fuel with
      | zero => simp [DataW.trod] at h
      | succ fuel =>
        unfold DataW.trod at h
        rw [hu] at h
        split at h <;> simp_all
        rename_i b
        cases b with
        | true => exact .inr (Row.one (VF.bool _) rfl)
        | false => exact .inl (Row.one (VF.bool _) rfl)
    | str =>
      have hu := hT.str hk
      cases fuel with
      | zero => simp [DataW.trod] at h
      | succ fuel =>
        unfold DataW.trod at h
        rw [hu] at h
        split at h <;> simp_all
        rename_i s
        exact ⟨_, ⟨s, rfl⟩, Row.one (VF.str _) rfl⟩
    | slice e =>
      obtain ⟨hu, he, hz⟩ := hT.slice hk
      rw [hk] at hp
      simp only at hp
      rcases Go.Deep.open_slice hu h with ⟨rfl, _⟩ | ⟨a, len, cap, m, n, D, Pl, rfl, hb, hl, hm, hmm, _, hx⟩
      · exact ⟨.lst e [], ⟨[], rfl, Nat.zero_le _, fun y hy => by simp at hy⟩, Row.one (VF.nil e none 0) rfl⟩
      · have hlm : len ≤ m := by rw [hmm]; split <;> omega
        have each : ∀ i, i < len → ∃ x, Shp T f e x ∧ (cells x).length = (T e).size ∧ ∀ (j : Nat) (c : AV), (cells x)[j]? = some c → ∃ u, w.cell? ((a.add (i * (T e).size)).add j) = some u ∧ VF T (· < w.heap.size) w c u ∧ u.oneCell' = true := by
          intro i hi
          obtain ⟨cs', h1, h2⟩ := hx i (by omega)
          obtain ⟨_, c1, c2⟩ := World.cells?_some h1
          rw [cellsOf_eq hT he] at c1 c2
          obtain ⟨x, hx1, hx2⟩ := ih e n cs' _ hp h2
          refine ⟨x, hx1, by rw [← hx2.1]; exact c1, fun j c hj => ?_⟩
          have hjl := (List.getElem?_eq_some_iff.1 hj).1
          have hj' : j < cs'.length := by rw [hx2.1]; exact hjl
          have := c2 j (by omega)
          rw [List.getElem?_eq_getElem hj'] at this
          exact ⟨_, this, hx2.2 j c _ hj (List.getElem?_eq_getElem hj')⟩
        cases len with
        | zero => exact ⟨.lst e [], ⟨[], rfl, Nat.zero_le _, fun y hy => by simp at hy⟩, Row.one (VF.nil e (some a) cap) rfl⟩
        | succ len =>
          have hinh : Nonempty AV := ⟨.und⟩
          have ch : ∃ g : Nat → AV, ∀ i, i < len + 1 → Shp T f e (g i) ∧ (cells (g i)).length = (T e).size ∧ ∀ (j : Nat) (c : AV), (cells (g i))[j]? = some c → ∃ u, w.cell? ((a.add (i * (T e).size)).add j) = some u ∧ VF T (· < w.heap.size) w c u ∧ u.oneCell' = true := by
            classical
            refine ⟨fun i => if hi : i < len + 1 then Classical.choose (each i hi) else .und, fun i hi => ?_⟩
            simp only [hi, dif_pos]
            exact Classical.choose_spec (each i hi)
          obtain ⟨g, hg⟩ := ch
          -- the address has no spot
          obtain ⟨g1, g2, g3⟩ := hg 0 (by omega)
          have hc0 : ∃ c, (cells (g 0))[0]? = some c := ⟨_, List.getElem?_eq_getElem (by omega)⟩
          obtain ⟨c0, hc0⟩ := hc0
          obtain ⟨u0, hu0, _⟩ := g3 0 c0 hc0
          have ha : a = ⟨a.block, a.off, none⟩ := by
            simp only [Nat.zero_mul, Addr.add, if_pos] at hu0
            unfold World.cell? at hu0
            split at hu0
            · split at hu0
              · cases hu0
              · rename_i hs
                cases a with
                | mk b o sp => cases sp with | none => rfl | some _ => simp at hs
            · cases hu0
          have hlt : a.block < w.heap.size := by
            simp only [Nat.zero_mul, Addr.add, if_pos] at hu0
            unfold World.cell? at hu0
            cases hq : w.heap[a.block]? with
            | none => rw [hq] at hu0; cases hu0
            | some o => exact (Array.getElem?_eq_some_iff.1 hq).1
          have hes : ((List.range (len + 1)).map g).length = len + 1 := by simp
          refine ⟨.lst e ((List.range (len + 1)).map g), ⟨_, rfl, by rw [hes]; omega, fun y hy => ?_⟩, ?_⟩
          · obtain ⟨i, hi, rfl⟩ := List.mem_map.1 hy
            exact (hg i (by simpa using hi)).1
          · refine Row.one ?_ rfl
            have at' : ∀ (i : Nat) (x : AV), ((List.range (len + 1)).map g)[i]? = some x → i < len + 1 ∧ x = g i := by
              intro i x hi
              have h1 := (List.getElem?_eq_some_iff.1 hi).1
              simp only [hes] at h1
              rw [List.getElem?_map, List.getElem?_range h1] at hi
              exact ⟨h1, by simpa using hi.symm⟩
            have rd : ∀ (i : Nat) (x : AV) (j : Nat) (c : AV), ((List.range (len + 1)).map g)[i]? = some x → (cells x)[j]? = some c → ∃ u, w.cell? ⟨a.block, a.off + (i * (T e).size + j), none⟩ = some u ∧ VF T (· < w.heap.size) w c u ∧ u.oneCell' = true := by
              intro i x j c hi hj
              obtain ⟨h1, rfl⟩ := at' i x hi
              obtain ⟨u, u1, u2⟩ := (hg i h1).2.2 j c hj
              refine ⟨u, ?_, u2⟩
              rw [← u1, ha, add_lit, add_lit, Nat.add_assoc]
            have := VF.lst (T := T) (S := (· < w.heap.size)) (w := w) e ((List.range (len + 1)).map g) a.block a.off cap (fun i j => (w.cell? ⟨a.block, a.off + (i * (T e).size + j), none⟩).getD undef) hlt (by rw [hes]; exact hl)
              (fun x hx => by obtain ⟨i, hi, rfl⟩ := List.mem_map.1 hx; exact (hg i (by simpa using hi)).2.1)
              (fun i x j c hi hj => by obtain ⟨u, u1, _⟩ := rd i x j c hi hj; rw [u1]; rfl)
              (fun i x j c hi hj => by obtain ⟨u, u1, _, u3⟩ := rd i x j c hi hj; rw [u1]; exact u3)
              (fun i x j c hi hj => by obtain ⟨u, u1, u2, _⟩ := rd i x j c hi hj; rw [u1]; exact u2)
            rw [hes, ← ha] at this
            exact this
    | struct fs =>
      rw [hk] at hp
      simp only [Bool.and_eq_true] at hp
      obtain ⟨gs, hu, hf, hfo, _⟩ := hT.struct hk
      obtain ⟨xs, n, _, _, hcl, hxl, hxs⟩ := DataW.trod_struct hu h
      have hkk : kOk (T t).k = true := by rw [hk]; rfl
      rw [cellsOf_eq hT hkk] at hcl
      obtain ⟨ys, y1, y2, y3⟩ := open_fields (enc := enc) (spare := spare) (held := held) (base := base) (w := w) hT (fun t cs y => ih t n cs y) hf (fun p hp => by
          have := hfo p hp
          simp only [fieldOk, Bool.and_eq_true] at this
          exact this.1.1) hp.1 hp.2 hcl (by simpa using hxl) (fun i g hg => hxs i g (by simpa using hg))
      rw [List.drop_zero] at y3
      exact ⟨.agg (ys.flatMap cells), ⟨ys, rfl, y1, y2⟩, y3⟩
    | arr n e =>
      rw [hk] at hp
      simp only at hp
      obtain ⟨hu, he, _, _, hsz⟩ := hT.arr hk
      obtain ⟨xs, m, _, _, hcl, hxl, hxs⟩ := DataW.trod_array hu h
      have hkk : kOk (T t).k = true := by rw [hk]; rfl
      rw [cellsOf_eq hT hkk, hsz] at hcl
      obtain ⟨ys, y1, y2, y3⟩ := open_elems (enc := enc) (spare := spare) (held := held) (base := base) (w := w) hT he (fun cs y => ih e m cs y hp) n 0 cs (by rw [Nat.zero_add]; exact hcl) (fun j _ hj => by
        rw [hxs j (by omega), List.getElem?_eq_getElem (by omega)]; exact ⟨_, rfl⟩)
      rw [Nat.zero_mul, List.drop_zero] at y3
      exact ⟨.agg (ys.flatMap cells), ⟨ys, rfl, y1, y2⟩, y3⟩
    | _ => rw [hk] at hp; simp at hp

/-- A parameter, opened. -/
theorem open_arg (hT : TabOk P T) {f t : Nat} {r : Reach} {b0 : Nat} {v : Value} {d : DataW H} {ps : List MemPlace} (hp : plainB T f t = true) (hv : Value.okWide P w r b0 t v)
    (h : DataW.Trod enc P w base spare held t v d ps) : ∃ x, Shp T f t x ∧ VF T (· < w.heap.size) w x v := by
  obtain ⟨fuel, h⟩ := h
  obtain ⟨x, h1, h2⟩ := open_shp hT f t fuel _ _ hp h
  refine ⟨x, h1, ?_⟩
  have single : (∀ cs, v ≠ .agg cs) → (∀ cs, x ≠ .agg cs) → VF T (· < w.heap.size) w x v := by
    intro e1 e2
    have c1 : cells x = [x] := by cases x <;> first | rfl | exact absurd rfl (e2 _)
    have c2 : v.cells = #[v] := by cases v <;> first | rfl | exact absurd rfl (e1 _)
    rw [c1, c2] at h2
    exact (h2.2 0 x v rfl rfl).1
  cases f with
  | zero => exact h1.elim
  | succ f =>
    unfold Shp at h1
    cases hk : (T t).k with
    | int k =>
      rw [hk] at h1
      obtain ⟨n, rfl, _⟩ := h1
      refine single (fun cs e => ?_) (fun _ e => by cases e)
      subst e
      simp only [Value.okWide, hT.int hk, Cell.okWide] at hv
      simp [Cell.ok] at hv
    | bool =>
      rw [hk] at h1
      obtain ⟨n, rfl⟩ := h1
      refine single (fun cs e => ?_) (fun _ e => by cases e)
      subst e
      simp only [Value.okWide, hT.bool hk, Cell.okWide] at hv
      simp [Cell.ok] at hv
    | str =>
      rw [hk] at h1
      obtain ⟨n, rfl⟩ := h1
      obtain ⟨s, rfl⟩ := WideShapes.okWide_string (hT.str hk) hv
      exact single (fun cs e => by cases e) (fun _ e => by cases e)
    | slice e =>
      rw [hk] at h1
      obtain ⟨es, rfl, _⟩ := h1
      obtain ⟨a, len, cap, rfl⟩ := WideShapes.okWide_slice (hT.slice hk).1 hv
      exact single (fun cs e => by cases e) (fun _ e => by cases e)
    | struct fs =>
      rw [hk] at h1
      obtain ⟨ys, rfl, _⟩ := h1
      obtain ⟨gs, hu, _⟩ := hT.struct hk
      simp only [Value.okWide, hu] at hv
      obtain ⟨cs, rfl, _⟩ := hv
      have h2' : Row T w (ys.flatMap cells) cs.toList := h2
      exact .agg _ cs (by simpa using h2'.1) (fun j c u a b => (h2'.2 j c u a (by simpa using b)).2) (fun j c u a b => (h2'.2 j c u a (by simpa using b)).1)
    | arr n e =>
      rw [hk] at h1
      obtain ⟨ys, rfl, _⟩ := h1
      have hu := (hT.arr hk).1
      simp only [Value.okWide, hu] at hv
      obtain ⟨cs, rfl, _⟩ := hv
      have h2' : Row T w (ys.flatMap cells) cs.toList := h2
      exact .agg _ cs (by simpa using h2'.1) (fun j c u a b => (h2'.2 j c u a (by simpa using b)).2) (fun j c u a b => (h2'.2 j c u a (by simpa using b)).1)
    | _ => rw [hk] at h1; exact h1.elim

/-- The walk of a law that looks at its parameters alone. -/
theorem law_walk {f : Nat} {fn : Func} (hf : P.funcs[f]? = some fn) (hname : (fn.name == "runtime.NumGoroutine") = false) (hb : fn.body.isSome = true) {args : List AV} {vals : Array Value} {r : AV} (told : Told P T f [] args r []) (hl : vals.size = args.length) (hv : ∀ (j : Nat) (c : AV) (u : Value), args[j]? = some c → vals[j]? = some u → VF T (· < w.heap.size) w c u) {b : Bool} (hr : r = .bool b) :
    Calls P f vals w fun e w' => e = .returned (.bool b) ∧ Go.RowKit.Below w.heap.size w w' := by
  subst hr
  have nothing : ∀ c, ofL [] c = .none := fun c => rfl
  have H : HR T ⟨w, (· < w.heap.size), (· < w.heap.size)⟩ (· < w.heap.size) (ofL []) (fun _ => .no) w :=
    ⟨fun c => (by unfold HB; rw [nothing]; trivial), fun c blk hc => (by rw [nothing] at hc; cases hc), fun b c blk _ hb => (by rw [nothing] at hb; cases hb), fun _ h => h, fun blk h => .inl h, fun _ _ => rfl, Nat.le_refl _, rfl, rfl, rfl, fun _ h => h⟩
  rcases told.runs _ _ _ w vals H hl fun j c u a b => vf_vlv (hv j c u a b) with ⟨_, hc⟩ | ⟨v, w', hc, _⟩
  case inr =>
    obtain ⟨c, hb⟩ := Option.isSome_iff_exists.1 hb
    have hn : ¬ fn.name = "runtime.NumGoroutine" := by simpa using hname
    simp [callFunc, hf, hn, hb] at hc
  refine Calls.mono hc ?_
  rintro e w' ⟨v, rfl, S', ρ', H', G', hres⟩
  obtain rfl := vl_bool hres
  exact ⟨rfl, H'.os, H'.tape, H'.output, H'.big, fun k hk => H'.prot k hk⟩

end
end Go.Ev
