/- append, copy, clear, make; conversions between strings and bytes. -/
import Derived.Test.YtbhjocgepgpnmaaEvOp10
import Derived.Laws.MakeOwn
import Derived.Laws.OwnMore
set_option linter.unusedVariables false
set_option linter.unusedSimpArgs false
namespace Go.Ev

section
variable {P : Program} {T : Tab} {Z : Base} {S : Nat → Prop} {w : World} {h : AHeap} {ρ : Rho} {K : AV → Ups → Nat → Prop} {nx : Nat} {N : Value → World → Prop} {Q : AV → Prop}

theorem run_first {oa : Option Addr} {n n' cap z : Nat} {vs : List Value} (hl : vs.length = n * z) (hk : vs = [] ∨ ∃ a : Addr, oa = some a ∧ ∀ (k : Nat) (u : Value), vs[k]? = some u → w.cell? (a.add k) = some u) :
    (Builtin.firstCells z n (.slice oa n' cap)).run P w = .ok vs.toArray w := by
  cases oa with
  | none =>
    rcases hk with rfl | ⟨a, ha, _⟩
    · rfl
    · cases ha
  | some a =>
    refine run_firstCells_some w z n a n cap vs hl fun j v hv => ?_
    rcases hk with rfl | ⟨b, hb, hk⟩
    · simp at hv
    · cases hb; exact hk j v hv

theorem append_head {e t u ty : Nat} {oa : Option Addr} {n cap m c : Nat} {ob : Option Addr} (hT : TabOk P T) (ht : (T t).k = .slice e) {e2 : Nat} (hu : (T u).k = .slice e2) {news olds : List Value}
    (h1 : (Builtin.firstCells (T e).size m (.slice ob m c)).run P w = .ok news.toArray w) (hfit : n + m ≤ cap) :
    (Builtin.append_ #[t, u] ty #[.slice oa n cap, .slice ob m c]).run P w =
      ((match oa with | some a => storeCells (a.add (n * (T e).size)) news | none => pure () : Sem Unit).run P w).andThen fun _ w' => .ok (.slice oa (n + m) cap) w' := by
  obtain ⟨a1, a2, _⟩ := hT.slice ht
  obtain ⟨b1, _, _⟩ := hT.slice hu
  simp only [Builtin.append_, List.getElem?_toArray, List.getElem?_cons_zero, List.getElem?_cons_succ, Sem.run_bind, run_underlying a1, Result.andThen_ok, hT.sizeOf w a2, run_underlying b1, Sem.run_pure]
  simp only [Bool.false_eq_true, if_false, Builtin.lenOf, Sem.run_pure, Result.andThen_ok, Bool.not_false, if_true, Sem.run_bind, h1, hfit]
  cases oa with
  | none => simp
  | some a => simp

theorem rep_eq (l : List Value) : ∀ n, (List.range (n * l.length)).map (fun i => l.toArray[i % l.length]!) = (List.replicate n l).flatten := by
  intro n
  induction n with
  | zero => simp
  | succ n ih =>
    rw [Nat.succ_mul, Nat.add_comm, List.range_add, List.map_append, List.replicate_succ, List.flatten_cons, ← ih]
    congr 1
    · apply List.ext_getElem
      · simp
      · intro i h1 h2
        simp [Nat.mod_eq_of_lt h2, h2]
    · simp

theorem rep_made (z : Array Value) (n : Nat) : madeCells z (n * z.size) = ((List.replicate n z.toList).flatten).toArray := by
  rw [← rep_eq z.toList n]
  simp only [madeCells]
  apply Array.ext'
  simp

theorem rep_zero (z : Array Value) (n : Nat) : Builtin.zeroCells z n = ((List.replicate n z.toList).flatten).toArray := by
  rw [← rep_eq z.toList n]
  simp only [Builtin.zeroCells]
  apply Array.ext'
  simp

theorem append_grow {e t u ty : Nat} {oa : Option Addr} {n cap m c : Nat} {ob : Option Addr} (hT : TabOk P T) (ht : (T t).k = .slice e) {e2 : Nat} (hu : (T u).k = .slice e2) {news olds : List Value}
    (h0 : (Builtin.firstCells (T e).size n (.slice oa n cap)).run P w.drew = .ok olds.toArray w.drew)
    (h1 : (Builtin.firstCells (T e).size m (.slice ob m c)).run P w.drew = .ok news.toArray w.drew) (hfit : ¬ n + m ≤ cap) (hroom : n + m ≤ 4294967296) (hby : (T e).bytes ≤ 1024) (hzo : zOk (T e).k = true) :
    ∃ cap' rest, n + m ≤ cap' ∧ rest.size = (cap' - (n + m)) * (T e).size ∧ (∀ u ∈ rest.toList, u.oneCell' = true) ∧ (Builtin.append_ #[t, u] ty #[.slice oa n cap, .slice ob m c]).run P w =
      .ok (.slice (some ⟨w.heap.size, 0, none⟩) (n + m) cap') (w.drew.alloc (.cells ((olds ++ news).toArray ++ rest) e)) := by
  obtain ⟨a1, a2, _⟩ := hT.slice ht
  obtain ⟨b1, _, _⟩ := hT.slice hu
  obtain ⟨i, z, i1, i2, i3, i4, i5, _⟩ := hT.info a2
  have hb : (n + m) * i.bytes ≤ 140737488355328 := by
    rw [i3]
    have := Nat.mul_le_mul hroom hby
    omega
  have hf := growslice_fits (need := n + m) (old := cap) (bytes := i.bytes) (by omega) hb
  refine ⟨grownCap w (n + m) cap e, Builtin.zeroCells z.cells (grownCap w (n + m) cap e - (n + m)), grownCap_ge w _ _ _, by rw [size_zeroCells, i5, i2], ?_, ?_⟩
  · intro u hu
    obtain ⟨z', z1, z2, z3⟩ := zeroE_ok (S := fun _ => False) (w := w.drew) hT hzo
    have hzv : (zeroValue e).run P w.drew = .ok z w.drew := by simp [Go.zeroValue, typeInfo, i1, i4]
    rw [hzv] at z1
    cases z1
    rw [rep_zero] at hu
    simp only [List.mem_flatten] at hu
    obtain ⟨l, hl, hu⟩ := hu
    obtain rfl := List.eq_of_mem_replicate hl
    exact z3.one u hu
  have hti : (typeInfo e).run P w = .ok i w := by simp [typeInfo, i1]
  have htd : (typeInfo e).run P w.drew = .ok i w.drew := by simp [typeInfo, i1]
  have hzv : (zeroValue e).run P w.drew = .ok z w.drew := by simp [Go.zeroValue, typeInfo, i1, i4]
  have hch : (choose (.appendCap (n + m) cap e)).run P w = .ok (grownCap w (n + m) cap e) w.drew := by
    rw [run_choose]
    simp only [Question.forced, Bool.false_eq_true, if_false]
    rfl
  simp only [Builtin.append_, List.getElem?_toArray, List.getElem?_cons_zero, List.getElem?_cons_succ, Sem.run_bind, run_underlying a1, Result.andThen_ok, hT.sizeOf w a2, run_underlying b1, Sem.run_pure]
  simp only [Bool.false_eq_true, if_false, Builtin.lenOf, Sem.run_pure, Result.andThen_ok, Bool.not_false, if_true, hfit, Sem.run_bind, hti]
  have c1 : ¬ (((n + m : Nat) : Int) > IntKind.i64.max ∧ (False ∨ i.bytes = 0)) := by
    simp only [IntKind.max, IntKind.signed, IntKind.bits]
    intro hh; have := hh.1; simp at this; omega
  rw [if_neg c1]
  simp only [Sem.run_bind, hti, Result.andThen_ok]
  rw [if_neg (by simpa using hf)]
  simp only [Sem.run_bind, hch, Result.andThen_ok, htd, run_askRoom, h0, h1, hzv, newRow, run_newObj, Sem.run_pure, List.append_toArray]
  have e0 : w.drew.heap = w.heap := rfl
  simp only [World.alloc, e0]

theorem appendV_ok (hT : TabOk P T) (H : HR T Z S h ρ w) (fr : Fr h nx K) (hn : Nexts T Z S w h ρ K N) {t u ty e2 : Nat} (hu2 : (T u).k = .slice e2) {x y : AV} {vx vy : Value} (hx : VLt T S w h ρ x vx) (hy : VLt T S w h ρ y vy)
    (hr : appendV T t x y h nx K) : Gives P (Builtin.append_ #[t, u] ty #[vx, vy]) w N := by
  unfold appendV at hr
  cases hk : (T t).k with
  | slice e =>
    rw [hk] at hr
    simp only at hr
    obtain ⟨hu, he, hz0⟩ := hT.slice hk
    cases hc : Nat.ble (T e).bytes 1024 && Nat.beq (T (elemT h y)).size (T e).size && zOk (T e).k with
    | false => rw [hc] at hr; exact hr.p.elim
    | true =>
      rw [hc] at hr
      simp only [Bool.and_eq_true] at hc
      have hby := Nat.le_of_ble_eq_true hc.1.1
      have hsz := Nat.eq_of_beq_eq_true hc.1.2
      have hzo := hc.2
      cases hys : elems h y with
      | none => rw [hys] at hr; exact hr.p.elim
      | some ys =>
        rw [hys] at hr
        simp only at hr
        have hyc : VLc T S w h ρ y vy := by cases y <;> first | exact hy | (simp [elems] at hys)
        obtain ⟨ob, cb, news, rfl, fy, ky⟩ := elems_ok H hyc hys
        rw [hsz] at fy
        have rd1 : ∀ w1 : World, w1.heap = w.heap → (Builtin.firstCells (T e).size ys.length (.slice ob ys.length cb)).run P w1 = .ok news.toArray w1 := fun w1 hw => run_first fy.len (ky.imp id fun ⟨a, ha, hk⟩ => ⟨a, ha, fun k u hu => by
          have := hk k u hu; unfold World.cell? at this ⊢; rw [hw]; exact this⟩)
        -- what is there, and what it comes to
        have main : ∀ (es : List AV) (oa : Option (Nat × Nat)) (cap : Nat) (olds : List Value) (X : Nat → Prop) (us : Ups),
            vx = .slice (oa.map adr) es.length cap → Flat (VF T S w) (T e).size es olds → (olds = [] ∨ ∃ p : Nat × Nat, oa = some p ∧ ∀ (k : Nat) (u : Value), olds[k]? = some u → w.cell? ⟨p.1, p.2 + k, none⟩ = some u) →
            es.length ≤ cap → (oa = none → cap = 0) → Clean T w e oa cap →
            (∀ p, oa = some p → 0 < cap → ∃ a, X a ∧ isLive (h a) = true ∧ p.1 ∈ realL (ρ a) ∧ ∀ j, j < cap * (T e).size → Has w ⟨p.1, p.2 + j, none⟩ ∧ w.frozen? ⟨p.1, p.2 + j, none⟩ = false) →
            (∀ b, ¬ X b → happ h us b = h b) → (∀ b, X b → happ h us b = .dead) → ¬ X nx → h nx = .none →
            es.length + ys.length ≤ 4294967296 → K (.ref nx) (us ++ [(nx, .row e (es ++ ys))]) (nx + 1) → Gives P (Builtin.append_ #[t, u] ty #[vx, .slice ob ys.length cb]) w N := by
          intro es oa cap olds X us hvx fo ko hlen hnone hclean hown hX1 hX2 hXn hnx hroom hK
          subst hvx
          have fall := fo.append fy
          by_cases hfit : es.length + ys.length ≤ cap
          · -- there is room
            cases oa with
            | none =>
              have hc0 := hnone rfl
              have e1 : es = [] := List.eq_nil_of_length_eq_zero (by omega)
              have e2 : ys = [] := List.eq_nil_of_length_eq_zero (by omega)
              subst e1 e2 hc0
              have hrun := append_head (ty := ty) (oa := none) (n := 0) (cap := 0) (olds := []) hT hk hu2 (rd1 w rfl) (by simp)
              refine ⟨.slice none 0 0, w, by rw [show (Option.map adr none : Option Addr) = none from rfl]; exact hrun, ?_⟩
              have hnx' : happ h us nx = .none := by rw [hX1 nx hXn]; exact hnx
              -- the elder block goes, a new row is there
              obtain ⟨H1, G1⟩ := H.upd (S' := S) (w' := w) (h' := happ h us) (ρ' := ρ) X (r := none) ⟨rfl, rfl, rfl, Nat.le_refl _, fun _ _ _ => rfl⟩ (fun k e => by cases e) (fun b hb => ⟨hX1 b hb, rfl⟩)
                (fun b hb => .inr (.inl (by rw [hX2 b hb]; rfl))) (fun _ h => h) (fun _ h => .inl h) (fun go b hb => by unfold HB; rw [hX2 b hb]; trivial) (fun b k hb hl => by rw [hX2 b hb] at hl; cases hl) (fun b c k hb _ _ hl => by rw [hX2 b hb] at hl; cases hl)
              obtain ⟨H2, G2⟩ := H1.row0 hnx' e none
              refine hn _ _ _ _ w S (rset ρ nx (.row none 0)) hK ?_ ?_ ?_
              · rw [happ_append]; exact H2
              · rw [happ_append]; exact G1.trans G2
              · rw [happ_append]
                show VLc T S w (hset _ nx _) _ (.ref nx) _
                simp only [VLc, hset_same, vw]
                exact ⟨none, 0, rset_same _ _ _, rfl⟩
            | some p =>
              have hrun := append_head (ty := ty) (oa := some (adr p)) (olds := olds) hT hk hu2 (rd1 w rfl) hfit
              have hin : es.length * (T e).size + news.length ≤ cap * (T e).size := by
                rw [fy.len, ← Nat.add_mul]; exact Nat.mul_le_mul_right _ hfit
              have hadd : (adr p).add (es.length * (T e).size) = ⟨p.1, p.2 + es.length * (T e).size, none⟩ := add_lit ..
              rcases Nat.eq_zero_or_pos cap with hc0 | hcp
              · -- nothing
                have e1 : es = [] := List.eq_nil_of_length_eq_zero (by omega)
                have e2 : ys = [] := List.eq_nil_of_length_eq_zero (by omega)
                subst e1 e2 hc0
                have hnews : news = [] := List.eq_nil_of_length_eq_zero (by have := fy.len; simpa using this)
                subst hnews
                refine ⟨.slice (some (adr p)) 0 0, w, by rw [show (Option.map adr (some p) : Option Addr) = some (adr p) from rfl]; rw [hrun]; simp [storeCells], ?_⟩
                have hnx' : happ h us nx = .none := by rw [hX1 nx hXn]; exact hnx
                obtain ⟨H1, G1⟩ := H.upd (S' := S) (w' := w) (h' := happ h us) (ρ' := ρ) X (r := none) ⟨rfl, rfl, rfl, Nat.le_refl _, fun _ _ _ => rfl⟩ (fun k e => by cases e) (fun b hb => ⟨hX1 b hb, rfl⟩)
                  (fun b hb => .inr (.inl (by rw [hX2 b hb]; rfl))) (fun _ h => h) (fun _ h => .inl h) (fun go b hb => by unfold HB; rw [hX2 b hb]; trivial) (fun b k hb hl => by rw [hX2 b hb] at hl; cases hl) (fun b c k hb _ _ hl => by rw [hX2 b hb] at hl; cases hl)
                obtain ⟨H2, G2⟩ := H1.row0 hnx' e (some p)
                refine hn _ _ _ _ w S (rset ρ nx (.row (some p) 0)) hK ?_ ?_ ?_
                · rw [happ_append]; exact H2
                · rw [happ_append]; exact G1.trans G2
                · rw [happ_append]
                  show VLc T S w (hset _ nx _) _ (.ref nx) _
                  simp only [VLc, hset_same, vw]
                  exact ⟨some p, 0, rset_same _ _ _, rfl⟩
              · obtain ⟨a, ha, hla, hra, hcells⟩ := hown p rfl hcp
                have hst := run_storeCells_cells (P := P) p.1 (p.2 + es.length * (T e).size) news 0 w (fun j hj => by
                    have := (hcells (es.length * (T e).size + j) (by omega)).1.some
                    rwa [show p.2 + es.length * (T e).size + 0 + j = p.2 + (es.length * (T e).size + j) by omega]) (fun j hj => by
                    have := (hcells (es.length * (T e).size + j) (by omega)).2
                    rwa [show p.2 + es.length * (T e).size + 0 + j = p.2 + (es.length * (T e).size + j) by omega]) fy.one
                simp only [Nat.add_zero] at hst
                have hrun' : (Builtin.append_ #[t, u] ty #[.slice (some (adr p)) es.length cap, .slice ob ys.length cb]).run P w = .ok (.slice (some (adr p)) (es.length + ys.length) cap) (w.setCells p.1 (p.2 + es.length * (T e).size) news) := by
                  rw [hrun]; simp only [hadd, hst, Result.andThen_ok]
                refine ⟨_, _, hrun', ?_⟩
                -- cells of the whole
                have hcellnew : ∀ (k : Nat) (u : Value), (olds ++ news)[k]? = some u → (w.setCells p.1 (p.2 + es.length * (T e).size) news).cell? ⟨p.1, p.2 + k, none⟩ = some u := by
                  intro k u hku
                  by_cases hk1 : k < olds.length
                  · rw [List.getElem?_append_left hk1] at hku
                    rw [World.cell?_setCells_out p.1 news _ w _ (fun _ _ => by show p.2 + k < p.2 + es.length * (T e).size ∨ _; left; rw [fo.len] at hk1; omega)]
                    rcases ko with rfl | ⟨q, hq, hqk⟩
                    · simp at hk1
                    · cases hq; exact hqk k u hku
                  · rw [List.getElem?_append_right (by omega)] at hku
                    have hlt := (List.getElem?_eq_some_iff.1 hku).1
                    have := World.cell?_setCells_in p.1 news (p.2 + es.length * (T e).size) w (fun j hj => by
                      have := (hcells (es.length * (T e).size + j) (by omega)).1.some
                      rwa [show p.2 + es.length * (T e).size + j = p.2 + (es.length * (T e).size + j) by omega]) (k - olds.length) hlt
                    have hk2 : es.length * (T e).size ≤ k := by rw [← fo.len]; omega
                    rw [show p.2 + es.length * (T e).size + (k - olds.length) = p.2 + k by rw [fo.len]; omega] at this
                    rw [this, ← hku, List.getElem?_eq_getElem hlt]
                have hh' : ∀ b, happ h (us ++ [(nx, .row e (es ++ ys))]) b = if b = nx then .row e (es ++ ys) else happ h us b := by
                  intro b
                  rw [happ_append]
                  by_cases hb : b = nx
                  · subst hb; rw [if_pos rfl]; exact hset_same _ _ _
                  · rw [if_neg hb]; exact hset_ne _ _ hb
                have up := H.upd (S' := S) (w' := w.setCells p.1 (p.2 + es.length * (T e).size) news) (h' := happ h (us ++ [(nx, .row e (es ++ ys))])) (ρ' := rset ρ nx (.row (some p) cap)) (fun b => X b ∨ b = nx) (r := some p.1)
                  (setCells_grown p.1 news _ w) (fun k hk => ⟨a, .inl ha, hla, by cases hk; exact hra⟩) (fun b hb => by
                    have h1 : b ≠ nx := fun e => hb (.inr e)
                    exact ⟨by rw [hh', if_neg h1]; exact hX1 b fun hx => hb (.inl hx), rset_ne _ _ h1⟩)
                  (fun b hb => by
                    by_cases h1 : b = nx
                    · subst h1; exact .inl (by rw [hnx]; rfl)
                    · exact .inr (.inl (by rw [hh', if_neg h1, hX2 b (hb.resolve_right h1)]; rfl)))
                  (fun _ h => h) (fun _ h => .inl h)
                  (fun go b hb => by
                    by_cases h1 : b = nx
                    · subst h1
                      unfold HB
                      rw [hh', if_pos rfl, rset_same]
                      refine ⟨some p, cap, rfl, by simpa using hfit, (fun hh => by cases hh), fall.size, ⟨fun _ => hz0, fun hb q hq hc k => by rw [World.frozen?_setCells]; exact hclean.2 hb q hq hc k⟩, fun q hq _ => ?_⟩
                      cases hq
                      refine ⟨(fall.mono fun c u hv => hv.mono go.s go.w).cellsAt hcellnew, fun j hj => ⟨?_, ?_⟩⟩
                      · by_cases hj2 : j < (olds ++ news).length
                        · exact ⟨_, hcellnew j _ (List.getElem?_eq_getElem hj2), fall.one _ (List.getElem_mem _)⟩
                        · obtain ⟨u, u1, u2⟩ := (hcells j hj).1
                          exact ⟨u, (World.cell?_setCells_out p.1 news (p.2 + es.length * (T e).size) w ⟨p.1, p.2 + j, none⟩ (fun _ _ => by
                            show p.2 + j < p.2 + es.length * (T e).size ∨ p.2 + es.length * (T e).size + news.length ≤ p.2 + j
                            rw [List.length_append, fo.len] at hj2; omega)).trans u1, u2⟩
                      · rw [World.frozen?_setCells]; exact (hcells j hj).2
                    · unfold HB; rw [hh', if_neg h1, hX2 b (hb.resolve_right h1)]; trivial)
                  (fun b k hb hl hk' => by
                    by_cases h1 : b = nx
                    · subst h1
                      rw [rset_same] at hk'
                      have hk2 : k = p.1 := by obtain ⟨q, e1, _, e2⟩ := realL_row hk'; cases e1; exact e2
                      subst hk2
                      exact ⟨.inr ⟨a, .inl ha, hla, hra⟩, (H.own a p.1 hla hra).2.1⟩
                    · rw [hh', if_neg h1, hX2 b (hb.resolve_right h1)] at hl; cases hl)
                  (fun b c k hb hc hne hl hl2 _ => by
                    by_cases h1 : b = nx
                    · have h2 : c ≠ nx := fun e => hne (h1.trans e.symm)
                      rw [hh', if_neg h2, hX2 c (hc.resolve_right h2)] at hl2; cases hl2
                    · rw [hh', if_neg h1, hX2 b (hb.resolve_right h1)] at hl; cases hl)
                refine hn _ _ _ _ _ S (rset ρ nx (.row (some p) cap)) hK up.1 up.2 ?_
                show VLc T S (w.setCells p.1 (p.2 + es.length * (T e).size) news) (happ h (us ++ [(nx, .row e (es ++ ys))])) (rset ρ nx (.row (some p) cap)) (.ref nx) _
                simp only [VLc, hh', if_pos, vw, List.length_append]
                exact ⟨some p, cap, rset_same _ _ _, rfl⟩
          · -- a new row
            have rd0 : (Builtin.firstCells (T e).size es.length (.slice (oa.map adr) es.length cap)).run P w.drew = .ok olds.toArray w.drew := by
              refine run_first fo.len (ko.imp id fun ⟨p, hp, hkp⟩ => ⟨adr p, by rw [hp]; rfl, fun k u hu => ?_⟩)
              show w.cell? (Addr.add ⟨p.1, p.2, none⟩ k) = _
              rw [add_lit]; exact hkp k u hu
            obtain ⟨cap', rest, g1, g2, g4, g3⟩ := append_grow (ty := ty) hT hk hu2 rd0 (rd1 w.drew rfl) hfit hroom hby hzo
            refine ⟨_, _, g3, ?_⟩
            have hnx' : happ h us nx = .none := by rw [hX1 nx hXn]; exact hnx
            obtain ⟨H1, G1⟩ := H.upd (S' := S) (w' := w) (h' := happ h us) (ρ' := ρ) X (r := none) ⟨rfl, rfl, rfl, Nat.le_refl _, fun _ _ _ => rfl⟩ (fun k e => by cases e) (fun b hb => ⟨hX1 b hb, rfl⟩)
              (fun b hb => .inr (.inl (by rw [hX2 b hb]; rfl))) (fun _ h => h) (fun _ h => .inl h) (fun go b hb => by unfold HB; rw [hX2 b hb]; trivial) (fun b k hb hl => by rw [hX2 b hb] at hl; cases hl) (fun b c k hb _ _ hl => by rw [hX2 b hb] at hl; cases hl)
            have hsz2 : (olds ++ news).length + rest.size = cap' * (T e).size := by
              rw [fall.len, g2, List.length_append, ← Nat.add_mul]; congr 1; omega
            obtain ⟨H2, G2⟩ := H1.newRow (e := e) (es := es ++ ys) (vs := olds ++ news) (rest := rest) (t := e) (cap := cap') hnx' hz0 fall (by simpa using g1) hsz2 g4 w.drew rfl rfl rfl rfl
            refine hn _ _ _ _ (w.drew.alloc (.cells ((olds ++ news).toArray ++ rest) e)) S (rset ρ nx (.row (some (w.heap.size, 0)) cap')) hK (by rw [happ_append]; exact H2) (by rw [happ_append]; exact G1.trans G2) ?_
            rw [happ_append]
            show VLc T S (w.drew.alloc (.cells ((olds ++ news).toArray ++ rest) e)) (hset _ nx _) (rset ρ nx (.row (some (w.heap.size, 0)) cap')) (.ref nx) _
            simp only [VLc, hset_same, vw, List.length_append]
            exact ⟨some (w.heap.size, 0), cap', rset_same _ _ _, rfl⟩
        cases x with
        | ref a =>
          simp only at hr
          have hx' : VLc T S w h ρ (.ref a) vx := hx
          simp only [VLc] at hx'
          cases ha : h a with
          | row e' es =>
            simp only [ha] at hr hx'
            simp only [vw] at hx'
            obtain ⟨oa, cap, r1, rfl⟩ := hx'
            cases hee : Nat.beq e e' with
            | false => rw [hee] at hr; exact hr.p.elim
            | true =>
              rw [hee] at hr
              obtain rfl := Nat.eq_of_beq_eq_true hee
              obtain ⟨oa2, cap2, olds, q1, q2, q3, q4⟩ := H.rowFlat ha
              rw [r1] at q1; cases q1
              have hnx := fr _ _ _ hr.p nx (Nat.le_refl _) (by omega)
              have hane : a ≠ nx := fun e' => by subst e'; rw [ha] at hnx; cases hnx
              have h0 := H.hb a
              unfold HB at h0
              rw [ha] at h0
              obtain ⟨oa3, cap3, s1, s2, s3, s4, s4', s5⟩ := h0
              rw [r1] at s1; cases s1
              exact main es oa cap olds (fun b => b = a) [(a, .dead)] rfl q3 (q4.imp id fun ⟨p, hp, _, hk⟩ => ⟨p, hp, hk⟩) q2 s3 s4' (fun p hp hc => ⟨a, rfl, by rw [ha]; rfl, by rw [r1, hp]; exact mem_row (by omega), (s5 p hp hc).2⟩)
                (fun b hb => hset_ne _ _ hb) (fun b hb => by subst hb; exact hset_same _ _ _) (fun e => hane e.symm) hnx hr.n hr.p
          | _ => simp only [ha] at hr; exact hr.p.elim
        | fsub a n =>
          simp only at hr
          have hx' : VLc T S w h ρ (.fsub a n) vx := hx
          simp only [VLc] at hx'
          cases ha : h a with
          | row e' es =>
            simp only [ha] at hr hx'
            simp only [vw] at hx'
            obtain ⟨oa, cap, r1, r2, rfl⟩ := hx'
            cases hee : Nat.beq e e' with
            | false => rw [hee] at hr; exact hr.p.elim
            | true =>
              rw [hee] at hr
              obtain rfl := Nat.eq_of_beq_eq_true hee
              obtain ⟨oa2, cap2, olds, q1, q2, q3, q4⟩ := H.rowFlat ha
              rw [r1] at q1; cases q1
              have hnx := fr _ _ _ hr.p nx (Nat.le_refl _) (by omega)
              have hane : a ≠ nx := fun e' => by subst e'; rw [ha] at hnx; cases hnx
              have h0 := H.hb a
              unfold HB at h0
              rw [ha] at h0
              obtain ⟨oa3, cap3, s1, s2, s3, s4, s4', s5⟩ := h0
              rw [r1] at s1; cases s1
              have htl : (es.take n).length = n := by simp; omega
              refine main (es.take n) oa n (olds.take (n * (T e).size)) (fun b => b = a) [(a, .dead)] (by rw [htl]) (q3.take n) (q4.imp (fun h => by rw [h]; simp) fun ⟨p, hp, _, hk⟩ => ⟨p, hp, fun k u hu => hk k u (by
                rw [List.getElem?_take] at hu
                split at hu
                · exact hu
                · cases hu)⟩) (by rw [htl]; exact Nat.le_refl _) (fun h => by have := s3 h; omega) ⟨fun h => s4'.1 (by omega), fun hb p hp hc => s4'.2 hb p hp (by omega)⟩ (fun p hp hc => ⟨a, rfl, by rw [ha]; rfl, by rw [r1, hp]; exact mem_row (by omega), fun j hj => (s5 p hp (by omega)).2 j (by have := Nat.mul_le_mul_right (T e).size (show n ≤ cap by omega); omega)⟩)
                (fun b hb => hset_ne _ _ hb) (fun b hb => by subst hb; exact hset_same _ _ _) (fun e => hane e.symm) hnx (by rw [htl]; exact hr.n) hr.p
          | _ => simp only [ha] at hr; exact hr.p.elim
        | nsl e' =>
          simp only at hr
          obtain rfl := vl_nsl hx
          cases hee : Nat.beq e e' with
          | false => rw [hee] at hr; exact hr.p.elim
          | true =>
            rw [hee] at hr
            obtain rfl := Nat.eq_of_beq_eq_true hee
            have hnx := fr _ _ _ hr.p nx (Nat.le_refl _) (by omega)
            exact main [] none 0 [] (fun _ => False) [] rfl (Flat.nil _ _) (.inl rfl) (Nat.le_refl _) (fun _ => rfl) ⟨fun h => by omega, fun _ p hp => by cases hp⟩ (fun p hp => by cases hp) (fun b _ => rfl) (fun b hb => hb.elim) (fun h => h) hnx (by have := hr.n; simpa using this) (by simpa using hr.p)
        | _ => exact hr.p.elim
  | _ => rw [hk] at hr; exact hr.p.elim

end
end Go.Ev
