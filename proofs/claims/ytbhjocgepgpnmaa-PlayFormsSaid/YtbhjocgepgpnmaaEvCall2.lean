/- What a function tells; calls. -/
import Derived.Test.YtbhjocgepgpnmaaEvCall
set_option linter.unusedVariables false
set_option linter.unusedSimpArgs false
namespace Go.Ev

/-- A call that comes back: by its body, or at once. -/
def Runs (P : Program) (f : Nat) (vals : Array Value) (w : World) (N : Value → World → Prop) : Prop :=
  ((callFunc f vals).run P w = .ok (.enter f vals) w ∧ Calls P f vals w fun e w' => ∃ v, e = .returned v ∧ N v w') ∨ ∃ v w', (callFunc f vals).run P w = .ok (.value v) w' ∧ N v w'
theorem Runs.mono {P : Program} {f : Nat} {vals : Array Value} {w : World} {N N' : Value → World → Prop} (h : Runs P f vals w N) (hm : ∀ v w', N v w' → N' v w') : Runs P f vals w N' := by
  rcases h with ⟨h1, h2⟩ | ⟨v, w', h1, h2⟩
  · refine .inl ⟨h1, Calls.mono h2 ?_⟩
    rintro e w' ⟨v, e1, h3⟩
    exact ⟨v, e1, hm _ _ h3⟩
  · exact .inr ⟨v, w', h1, hm _ _ h2⟩

/-- What a call of f tells, whoever calls. -/
structure Told (P : Program) (T : Tab) (f : Nat) (L : List Blk) (args : List AV) (r : AV) (L' : List Blk) : Prop where
  runs : ∀ (Z : Base) (S : Nat → Prop) (ρ : Rho) (w : World) (vals : Array Value), HR T Z S (ofL L) ρ w → vals.size = args.length →
    (∀ (j : Nat) (c : AV) (u : Value), args[j]? = some c → vals[j]? = some u → VLv T S w (ofL L) ρ c u) →
    Runs P f vals w fun v w' => ∃ S' ρ', HR T Z S' (ofL L') ρ' w' ∧ Goes T S w (ofL L) ρ S' w' (ofL L') ρ' ∧ VLt T S' w' (ofL L') ρ' r v

section
variable {P : Program} {T : Tab} {Z : Base} {S S' : Nat → Prop} {w w' : World} {h h' : AHeap} {ρ ρ' : Rho} {K : AV → Ups → Nat → Prop} {nx : Nat}

theorem prep_ok (H : HR T Z S h ρ w) (lend : Bool) (l : List Nat) : ∀ {as : List AV} {vs : List Value}, (∀ (j : Nat) (c : AV) (u : Value), as[j]? = some c → vs[j]? = some u → VLt T S w h ρ c u) →
    vs.length = as.length → (prep lend (pos l) h as).1.length = as.length ∧ FzUps h (prep lend (pos l) h as).2 ∧
    ∀ S' h' h2 ρ2, HR T Z S' h' ρ w → Goes T S w h ρ S' w h' ρ → (∀ p ∈ (prep lend (pos l) h as).2, h' p.1 = p.2) → Same (pos l) h' ρ h2 ρ2 →
      ∀ (j : Nat) (c : AV) (u : Value), (prep lend (pos l) h as).1[j]? = some c → vs[j]? = some u → VLv T S' w h2 ρ2 c u
  | [], _, _, _ => ⟨rfl, fun p hp => by simp [prep] at hp, fun _ _ _ _ _ _ _ _ j c u hc => by simp [prep] at hc⟩
  | a :: as, [], _, hl => by simp at hl
  | a :: as, v :: vs, hv, hl => by
    have ih := prep_ok H lend l (as := as) (vs := vs) (fun j c u a b => hv (j + 1) c u (by simpa using a) (by simpa using b)) (by simpa using hl)
    obtain ⟨i1, i2, i3⟩ := ih
    have h0 : VLt T S w h ρ a v := hv 0 a v rfl rfl
    -- one that is lent
    have lentOne : VLv T S w h ρ a v → (∀ σ, ren2 σ a = ren1 σ a) → prep lend (pos l) h (a :: as) = (ren1 (pos l) a :: (prep lend (pos l) h as).1, (prep lend (pos l) h as).2) →
        (prep lend (pos l) h (a :: as)).1.length = (a :: as).length ∧ FzUps h (prep lend (pos l) h (a :: as)).2 ∧
        ∀ S' h' h2 ρ2, HR T Z S' h' ρ w → Goes T S w h ρ S' w h' ρ → (∀ p ∈ (prep lend (pos l) h (a :: as)).2, h' p.1 = p.2) → Same (pos l) h' ρ h2 ρ2 →
          ∀ (j : Nat) (c : AV) (u : Value), (prep lend (pos l) h (a :: as)).1[j]? = some c → (v :: vs)[j]? = some u → VLv T S' w h2 ρ2 c u := by
      intro hvv hr2 he
      rw [he]
      refine ⟨by simp [i1], i2, fun S' h' h2 ρ2 H' G hu hs j c u hc hu' => ?_⟩
      cases j with
      | zero =>
        simp at hc hu'; subst hc hu'
        rw [← hr2]
        exact ren2_ok hs (G.vlv hvv)
      | succ j => exact i3 S' h' h2 ρ2 H' G hu hs j c u (by simpa using hc) (by simpa using hu')
    -- one that is frozen
    have frozenOne : ∀ (x : AV) (us : Ups), FzOk T Z S w h ρ us x v → prep lend (pos l) h (a :: as) = (x :: (prep lend (pos l) h as).1, us ++ (prep lend (pos l) h as).2) →
        (prep lend (pos l) h (a :: as)).1.length = (a :: as).length ∧ FzUps h (prep lend (pos l) h (a :: as)).2 ∧
        ∀ S' h' h2 ρ2, HR T Z S' h' ρ w → Goes T S w h ρ S' w h' ρ → (∀ p ∈ (prep lend (pos l) h (a :: as)).2, h' p.1 = p.2) → Same (pos l) h' ρ h2 ρ2 →
          ∀ (j : Nat) (c : AV) (u : Value), (prep lend (pos l) h (a :: as)).1[j]? = some c → (v :: vs)[j]? = some u → VLv T S' w h2 ρ2 c u := by
      intro x us f he
      rw [he]
      refine ⟨by simp [i1], f.u.append i2, fun S' h' h2 ρ2 H' G hu hs j c u hc hu' => ?_⟩
      cases j with
      | zero => simp at hc hu'; subst hc hu'; exact vf_vlv (f.v S' h' H' G fun p hp => hu p (List.mem_append.2 (.inl hp)))
      | succ j => exact i3 S' h' h2 ρ2 H' G (fun p hp => hu p (List.mem_append.2 (.inr hp))) hs j c u (by simpa using hc) (by simpa using hu')
    cases a with
    | ptr b i off => exact lentOne h0 (fun _ => rfl) rfl
    | ref b =>
      cases lend with
      | true => exact lentOne h0 (fun _ => rfl) rfl
      | false => exact frozenOne _ _ (fzc_ok (c := .ref b) H h0) rfl
    | tup xs => exact frozenOne _ _ (⟨fun p hp => by simp [fzv, fzc] at hp, fun S' h' _ _ _ => VF.und v⟩ : FzOk T Z S w h ρ (fzv h (.tup xs)).2 (fzv h (.tup xs)).1 v) rfl
    | und => exact frozenOne _ _ (fzv_ok (c := .und) H h0) rfl
    | skp => exact frozenOne _ _ (fzv_ok (c := .skp) H h0) rfl
    | int k n => exact frozenOne _ _ (fzv_ok (c := .int k n) H h0) rfl
    | bool b => exact frozenOne _ _ (fzv_ok (c := .bool b) H h0) rfl
    | str s => exact frozenOne _ _ (fzv_ok (c := .str s) H h0) rfl
    | lst e es => exact frozenOne _ _ (fzv_ok (c := .lst e es) H h0) rfl
    | nsl e =>
      cases lend with
      | true => exact lentOne h0 (fun _ => rfl) rfl
      | false => exact frozenOne _ _ (fzv_ok (c := .nsl e) H h0) rfl
    | sub b i n =>
      cases lend with
      | true => exact lentOne h0 (fun _ => rfl) rfl
      | false => exact frozenOne _ _ (fzc_ok (c := .sub b i n) H h0) rfl
    | fsub b n => exact frozenOne _ _ (fzv_ok (c := .fsub b n) H h0) rfl
    | eptr x off => exact frozenOne _ _ (fzv_ok (c := .eptr x off) H h0) rfl
    | npt => exact frozenOne _ _ (fzv_ok (c := .npt) H h0) rfl
    | agg cs =>
      cases lend with
      | true =>
        have he : prep true (pos l) h (.agg cs :: as) = (ren2 (pos l) (.agg cs) :: (prep true (pos l) h as).1, (prep true (pos l) h as).2) := rfl
        rw [he]
        refine ⟨by simp [i1], i2, fun S' h' h2 ρ2 H' G hu hs j c u hc hu' => ?_⟩
        cases j with
        | zero =>
          simp at hc hu'; subst hc hu'
          exact ren2_ok hs (G.vlv h0)
        | succ j => exact i3 S' h' h2 ρ2 H' G hu hs j c u (by simpa using hc) (by simpa using hu')
      | false => exact frozenOne _ _ (fzv_ok (c := .agg cs) H h0) rfl
    | fn f caps => exact frozenOne _ _ (fzv_ok (c := .fn f caps) H h0) rfl
    | mp b => exact frozenOne _ _ (fzv_ok (c := .mp b) H h0) rfl
    | gref b i => exact frozenOne _ _ (fzv_ok (c := .gref b i) H h0) rfl
    | gptr b i j off => exact frozenOne _ _ (fzv_ok (c := .gptr b i j off) H h0) rfl
    | nmp => exact frozenOne _ _ (fzv_ok (c := .nmp) H h0) rfl

theorem addNew_nodup : ∀ (bs l : List Nat), l.Nodup → (addNew l bs).Nodup
  | [], l, h => h
  | b :: bs, l, h => by
    simp only [addNew]
    cases hb : l.contains b with
    | true => exact addNew_nodup bs l h
    | false =>
      refine addNew_nodup bs _ ?_
      have hn : b ∉ l := fun hm => by
        have : l.contains b = true := by simpa using hm
        rw [hb] at this; cases this
      rw [List.nodup_append]
      exact ⟨h, by simp, fun x hx y hy => by simp at hy; subst hy; intro e; subst e; exact hn hx⟩

theorem back_lt {l : List Nat} {nx k b : Nat} (hk : l[k]? = some b) : back l nx k = some b := by
  induction l generalizing k with
  | nil => simp at hk
  | cons c l ih =>
    cases k with
    | zero => simp at hk; subst hk; rfl
    | succ k => exact ih (by simpa using hk)
theorem back_ge (l : List Nat) (nx k : Nat) : back l nx (l.length + k) = some (nx + k) := by
  induction l with
  | nil => simp [back]
  | cons c l ih =>
    rw [List.length_cons, show l.length + 1 + k = (l.length + k) + 1 by omega]
    exact ih

/-- What turns behind a call: those that were lent, and the new ones. -/
theorem upsOf_new (σ : Nat → Option Nat) : ∀ (L : List Blk) (nx b : Nat) (h : AHeap), happ h (upsOf σ [] L nx) b = if nx ≤ b ∧ b < nx + L.length then renB σ (L.getD (b - nx) .none) else h b
  | [], nx, b, h => by simp [upsOf, happ]; omega
  | x :: xs, nx, b, h => by
    simp only [upsOf, happ]
    rw [upsOf_new σ xs (nx + 1) b]
    by_cases h1 : b = nx
    · subst h1
      rw [if_neg (by omega), if_pos (by simp)]
      simp [hset_same]
    · by_cases h2 : nx + 1 ≤ b ∧ b < nx + 1 + xs.length
      · rw [if_pos h2, if_pos (by simp; omega)]
        rw [show b - nx = (b - (nx + 1)) + 1 by omega]; rfl
      · rw [if_neg h2, if_neg (by simp; omega), hset_ne _ _ h1]

theorem upsOf_at (σ : Nat → Option Nat) : ∀ (l : List Nat) (L : List Blk) (nx b : Nat) (h : AHeap), l.Nodup → (∀ x ∈ l, x < nx) → l.length ≤ L.length →
    happ h (upsOf σ l L nx) b = match pos l b with
      | some k => renB σ (L.getD k .none)
      | none => if nx ≤ b ∧ b < nx + (L.length - l.length) then renB σ (L.getD (l.length + (b - nx)) .none) else h b
  | [], L, nx, b, h, _, _, _ => by
    simp only [pos, List.length_nil, Nat.sub_zero, Nat.zero_add]
    exact upsOf_new σ L nx b h
  | c :: l, [], nx, b, h, _, _, hl => by simp at hl
  | c :: l, x :: L, nx, b, h, nd, hn, hl => by
    have nd' := List.nodup_cons.1 nd
    simp only [upsOf, happ]
    rw [upsOf_at σ l L nx b _ nd'.2 (fun y hy => hn y (by simp [hy])) (by simpa using hl)]
    simp only [pos]
    have hc := hn c (by simp)
    cases hb : Nat.beq c b with
    | true =>
      obtain rfl := Nat.eq_of_beq_eq_true hb
      have : pos l c = none := by
        cases hp : pos l c with
        | none => rfl
        | some k => exact absurd (List.mem_of_getElem? (pos_get hp)) nd'.1
      rw [this]
      simp only [cond_true]
      rw [if_neg (by omega), hset_same]; rfl
    | false =>
      have hne : b ≠ c := fun e => by subst e; rw [beq_self] at hb; cases hb
      simp only [cond_false]
      cases hp : pos l b with
      | some k => simp only; rfl
      | none =>
        simp only [List.length_cons]
        rw [show L.length + 1 - (l.length + 1) = L.length - l.length by omega, show l.length + 1 + (b - nx) = (l.length + (b - nx)) + 1 by omega]
        rw [hset_ne _ _ hne]; rfl

theorem scal_vf {c : AV} {v : Value} (hs : scal c = true) {S1 S2 : Nat → Prop} {w1 w2 : World} (hv : VF T S1 w1 c v) : VF T S2 w2 c v := by
  cases c <;> simp [scal] at hs <;> cases hv <;> constructor
theorem scal2_vf {c : AV} {v : Value} (hs : scal2 c = true) {S1 S2 : Nat → Prop} {w1 w2 : World} {h1 h2 : AHeap} {ρ1 ρ2 : Rho} (hv : VLv T S1 w1 h1 ρ1 c v) : VLv T S2 w2 h2 ρ2 c v := by
  cases c with
  | agg cs =>
    obtain ⟨vs, rfl, hl, hc⟩ := hv
    refine ⟨vs, rfl, hl, fun j c u a b => ⟨?_, (hc j c u a b).2⟩⟩
    have hj : scal c = true := List.all_eq_true.1 hs c (List.mem_of_getElem? a)
    have := (hc j c u a b).1
    cases c <;> simp [scal] at hj <;> exact scal_vf (by first | (simp [scal]; done) | simpa [scal] using hj) this
  | int k n => exact scal_vf hs (c := .int k n) hv
  | bool b => exact scal_vf hs (c := .bool b) hv
  | str b => exact scal_vf hs (c := .str b) hv
  | npt => exact scal_vf hs (c := .npt) hv
  | _ => simp [scal2, scal] at hs
theorem scal3_vf {c : AV} {v : Value} (hs : scal3 c = true) {S1 S2 : Nat → Prop} {w1 w2 : World} {h1 h2 : AHeap} {ρ1 ρ2 : Rho} (hv : VLt T S1 w1 h1 ρ1 c v) : VLt T S2 w2 h2 ρ2 c v := by
  cases c with
  | tup xs =>
    obtain ⟨vs, rfl, hl, hc⟩ := hv
    exact ⟨vs, rfl, hl, fun j c u a b => scal2_vf (List.all_eq_true.1 hs c (List.mem_of_getElem? a)) (hc j c u a b)⟩
  | agg cs => exact scal2_vf (c := .agg cs) hs hv
  | int k n => exact scal_vf (c := .int k n) hs hv
  | bool b => exact scal_vf (c := .bool b) hs hv
  | str b => exact scal_vf (c := .str b) hs hv
  | npt => exact scal_vf (c := .npt) hs hv
  | _ => simp [scal3, scal2, scal] at hs

theorem scal_cells {x : AV} (h : scal2 x = true) : ∀ c ∈ cells x, scal c = true := by
  cases x with
  | agg cs => exact List.all_eq_true.1 h
  | int k n => intro c hc; simp [cells] at hc; subst hc; rfl
  | bool b => intro c hc; simp [cells] at hc; subst hc; rfl
  | str b => intro c hc; simp [cells] at hc; subst hc; rfl
  | npt => intro c hc; simp [cells] at hc; subst hc; rfl
  | _ => simp [scal2, scal] at h

theorem evCall0_ok (H : HR T Z S h ρ w) (free : ∀ b, nx ≤ b → h b = .none) {f : Nat} {args : List AV} {vals : Array Value} (hl : vals.size = args.length)
    (hv : ∀ (j : Nat) (c : AV) (u : Value), args[j]? = some c → vals[j]? = some u → VLt T S w h ρ c u) {N : Value → World → Prop} (hn : Nexts T Z S w h ρ K N)
    {lend bor : Bool} (hr : evCall0 (Told P T) f lend bor args h nx K) : Runs P f vals w N := by
  unfold evCall0 at hr
  simp only [forceL_eq] at hr
  generalize hlq : lentAll h (lent0 lend args) = l at hr
  have nd : l.Nodup := by rw [← hlq]; exact addNew_nodup _ _ (by simp)
  cases hc : (l.all fun b => isLive (h b)) && ((prep lend (pos l) h args).2.all fun u => !(l.contains u.1)) with
  | false => rw [hc] at hr; exact hr.p.elim
  | true =>
    rw [hc] at hr
    simp only [Bool.and_eq_true] at hc
    obtain ⟨r, L', told, hr⟩ := hr
    have live : ∀ b ∈ l, isLive (h b) = true := List.all_eq_true.1 hc.1
    have apartU : ∀ p ∈ (prep lend (pos l) h args).2, p.1 ∉ l := fun p hp hm => by
      have := List.all_eq_true.1 hc.2 p hp
      have h2 : l.contains p.1 = true := by simpa using hm
      rw [h2] at this; simp at this
    have hlt : ∀ b ∈ l, b < nx := fun b hb => by
      rcases Nat.lt_or_ge b nx with h1 | h1
      · exact h1
      · have := live b hb; rw [free b h1] at this; cases this
    obtain ⟨p1, p2, p3⟩ := prep_ok H lend l (as := args) (vs := vals.toList) (fun j c u a b => hv j c u a (by simpa using b)) (by simpa using hl)
    -- what goes in is frozen
    obtain ⟨S1, H1, G1⟩ := H.freeze p2
    generalize hus : (prep lend (pos l) h args).2 = us at *
    have hsame1 : ∀ p ∈ us, happ h us p.1 = p.2 := FzUps.same p2
    have hb1 : ∀ b ∈ l, happ h us b = h b := fun b hb => happ_none fun q hq e => apartU q hq (e ▸ hb)
    have hL : ofL (l.map fun b => renB (pos l) (h b)) = keptHeap l (happ h us) := by
      unfold keptHeap
      congr 1
      exact List.map_congr_left fun b hb => by rw [hb1 b hb]
    have Hc := H1.gc nd
    -- what is not lent is kept
    let B : Nat → Prop := fun blk => blk < w.heap.size ∧ ∀ b ∈ l, blk ∉ realL (ρ b)
    have Hc1 := Hc.here B (fun blk hb => hb.1) (fun i blk hi hre hb => by
      cases hli : l[i]? with
      | none => rw [kept_out hli] at hi; cases hi
      | some b =>
        rw [(kept_at (h := happ h us) (ρ := ρ) hli).2] at hre
        exact hb.2 b (List.mem_of_getElem? hli) hre)
    rw [← hL] at Hc1
    have args1 : ∀ (j : Nat) (c : AV) (u : Value), (prep lend (pos l) h args).1[j]? = some c → vals[j]? = some u → VLv T S1 w (ofL (l.map fun b => renB (pos l) (h b))) (keptRho l ρ) c u := by
      intro j c u a b
      rw [hL]
      exact p3 S1 (happ h us) _ _ H1 G1 hsame1 (kept_same l (happ h us) ρ) j c u a (by simpa using b)
    refine (told.runs ⟨w, B, S1⟩ S1 (keptRho l ρ) w vals Hc1 (by rw [p1]; exact hl) args1).mono ?_
    rintro v w' ⟨S', ρ', H', G', hres⟩
    rw [hL] at G'
    have zB : ∀ blk, Z.B blk → B blk := fun blk hz => ⟨Nat.lt_of_lt_of_le (H.zB blk hz) H.big, fun b hb e => (H.own b blk (live b hb) e).2.2 hz⟩
    have prot : ∀ blk, B blk → w'.heap[blk]? = w.heap[blk]? := fun blk hb => H'.prot blk hb
    have hsize : w.heap.size ≤ w'.heap.size := H'.big
    cases bor with
    | true =>
      simp only at hr
      cases l with
      | cons b l => exact hr.p.elim
      | nil =>
        have prot0 : ∀ blk, blk < w.heap.size → w'.heap[blk]? = w.heap[blk]? := fun blk hb => prot blk ⟨hb, fun b hm => by simp at hm⟩
        have grow : w.grownBy w' none := ⟨H'.os, H'.tape, H'.output, hsize, fun blk hb _ => prot0 blk hb⟩
        cases hsc : scal3 r with
        | true =>
          rw [hsc] at hr
          simp only at hr
          cases L' with
          | cons B0 L' => exact hr.p.elim
          | nil =>
            obtain ⟨H2, G2⟩ := H.upd (S' := S) (h' := h) (ρ' := ρ) (fun _ => False) grow (fun k e => by cases e) (fun b _ => ⟨rfl, rfl⟩) (fun b hb => hb.elim) (fun _ h => h) (fun _ h => .inl h) (fun _ b hb => hb.elim) (fun b k hb => hb.elim) (fun b c k hb => hb.elim)
            exact hn r [] nx v w' S ρ hr H2 G2 (scal3_vf hsc hres)
        | false =>
          rw [hsc] at hr
          simp only at hr
          cases r with
          | ref i =>
            cases i with
            | succ i => exact hr.p.elim
            | zero =>
              cases L' with
              | nil => exact hr.p.elim
              | cons B0 L' =>
                cases L' with
                | cons _ _ => exact hr.p.elim
                | nil =>
                  simp only at hr
                  have hsr := hr.c
                  have hK := hr.p
                  cases B0 with
                  | row e es =>
                    have hb0 := H'.hb 0
                    have hres' : VLc T S' w' (ofL [.row e es]) ρ' (.ref 0) v := hres
                    have h00 : ofL [Blk.row e es] 0 = .row e es := rfl
                    unfold HB at hb0
                    rw [h00] at hb0
                    obtain ⟨oa, cap, q1, q2, q3, q4, q4', q5⟩ := hb0
                    simp only [VLc, h00, vw] at hres'
                    obtain ⟨oa2, cap2, q6, rfl⟩ := hres'
                    rw [q1] at q6; cases q6
                    obtain ⟨H2, G2⟩ := H.new1 (free nx (Nat.le_refl _)) grow (.row e es) (.row oa cap) (fun go => by
                        unfold HB
                        rw [hset_same, rset_same]
                        refine ⟨oa, cap, rfl, q2, q3, q4, q4', fun p hp hcp => ⟨fun i x hx j c hj => ?_, (q5 p hp hcp).2⟩⟩
                        obtain ⟨u, u1, u2, u3⟩ := (q5 p hp hcp).1 i x hx j c hj
                        exact ⟨u, u1, u2, scal_vf (scal_cells (hsr x (List.mem_of_getElem? hx)) c (List.mem_of_getElem? hj)) u3⟩)
                      (fun _ k hk => by
                        have := H'.own 0 k rfl (by rw [q1]; exact hk)
                        refine ⟨?_, this.1⟩
                        rcases Nat.lt_or_ge k w.heap.size with h1 | h1
                        · exact absurd ⟨h1, fun b hm => by simp at hm⟩ this.2.2
                        · exact h1)
                    refine hn (.ref nx) [(nx, .row e es)] (nx + 1) _ w' S (rset ρ nx (.row oa cap)) hK H2 G2 ?_
                    have goal : VLc T S w' (hset h nx (.row e es)) (rset ρ nx (.row oa cap)) (.ref nx) (.slice (oa.map adr) es.length cap) := by
                      simp only [VLc, hset_same, vw]
                      exact ⟨oa, cap, rset_same _ _ _, rfl⟩
                    exact goal
                  | _ => exact hsr.elim
          | _ => exact hr.p.elim
    | false =>
      simp only at hr
      -- nothing that was lent is lost
      have hlen : l.length ≤ L'.length := by
        rcases Nat.lt_or_ge L'.length l.length with h1 | h1
        · exfalso
          have hk := List.getElem?_eq_getElem h1
          have hG := G'.b L'.length
          obtain ⟨e1, _⟩ := kept_at (h := happ h us) (ρ := ρ) hk
          have hm := List.mem_of_getElem? hk
          have hlv := live _ hm
          rw [e1, hb1 _ hm] at hG
          have hout : ofL L' L'.length = .none := by simp [ofL, List.getD]
          rw [hout] at hG
          rcases hG.flat (fun _ _ _ hq => by cases hq) with hG | hG | ⟨hG, _⟩
          · rw [vw_ren] at hG
            cases hx : h l[L'.length] <;> rw [hx] at hlv hG <;> simp [isLive, vw] at hlv hG
          · cases hG
          · rw [vw_ren] at hG
            cases hx : h l[L'.length] <;> rw [hx] at hlv hG <;> simp [isLive, vw] at hlv hG
        · exact h1
      let h2 := happ h (us ++ upsOf (back l nx) l L' nx)
      let ρ2 : Rho := fun b => match pos l b with
        | some k => ρ' k
        | none => if nx ≤ b then ρ' (l.length + (b - nx)) else ρ b
      have at2 : ∀ b, h2 b = match pos l b with
          | some k => renB (back l nx) (ofL L' k)
          | none => if nx ≤ b then renB (back l nx) (ofL L' (l.length + (b - nx))) else happ h us b := by
        intro b
        show happ h (us ++ upsOf (back l nx) l L' nx) b = _
        rw [happ_append, upsOf_at _ l L' nx b _ nd hlt hlen]
        cases hp : pos l b with
        | some k => rfl
        | none =>
          simp only
          by_cases h1 : nx ≤ b
          · rw [if_pos h1]
            by_cases h2 : b < nx + (L'.length - l.length)
            · rw [if_pos ⟨h1, h2⟩]; rfl
            · rw [if_neg (fun h => h2 h.2)]
              have e1 : ofL L' (l.length + (b - nx)) = .none := by
                simp only [ofL, List.getD]
                rw [List.getElem?_eq_none (by omega)]; rfl
              rw [e1]
              show happ h us b = .none
              rw [happ_none fun q hq e => ?_]
              · exact free b h1
              · rcases p2 q hq with ⟨e', es, h3, _⟩ | ⟨x, h3, _⟩ | ⟨_, _, _, h3, _⟩ <;> rw [e, free b h1] at h3 <;> cases h3
          · rw [if_neg h1, if_neg (fun h => h1 h.1)]
      -- who is whom
      have at3 : ∀ b k, (pos l b = some k ∨ (pos l b = none ∧ nx ≤ b ∧ k = l.length + (b - nx))) → h2 b = renB (back l nx) (ofL L' k) ∧ ρ2 b = ρ' k := by
        rintro b k (hp | ⟨hp, h1, rfl⟩)
        · refine ⟨by rw [at2, hp], ?_⟩
          show (match pos l b with | some k => ρ' k | none => if nx ≤ b then ρ' (l.length + (b - nx)) else ρ b) = _
          rw [hp]
        · refine ⟨by rw [at2, hp]; simp only; rw [if_pos h1], ?_⟩
          show (match pos l b with | some k => ρ' k | none => if nx ≤ b then ρ' (l.length + (b - nx)) else ρ b) = _
          rw [hp]; simp only; rw [if_pos h1]
      have at4 : ∀ b, pos l b = none → ¬ nx ≤ b → h2 b = happ h us b ∧ ρ2 b = ρ b := by
        intro b hp h1
        refine ⟨by rw [at2, hp]; simp only; rw [if_neg h1], ?_⟩
        show (match pos l b with | some k => ρ' k | none => if nx ≤ b then ρ' (l.length + (b - nx)) else ρ b) = _
        rw [hp]; simp only; rw [if_neg h1]
      have hsame : Same (back l nx) (ofL L') ρ' h2 ρ2 := by
        intro k b hk
        have : pos l b = some k ∨ (pos l b = none ∧ nx ≤ b ∧ k = l.length + (b - nx)) := by
          rcases Nat.lt_or_ge k l.length with h1 | h1
          · have hg := List.getElem?_eq_getElem h1
            rw [back_lt hg] at hk
            cases hk
            exact .inl (get_pos nd hg)
          · obtain ⟨d, rfl⟩ : ∃ d, k = l.length + d := ⟨k - l.length, by omega⟩
            rw [back_ge] at hk
            cases hk
            refine .inr ⟨?_, by omega, by omega⟩
            cases hp : pos l (nx + d) with
            | none => rfl
            | some i => have := hlt _ (List.mem_of_getElem? (pos_get hp)); omega
        obtain ⟨e1, e2⟩ := at3 b k this
        exact ⟨by rw [e1, vw_ren], e2⟩
      have split : ∀ b, (∃ k, h2 b = renB (back l nx) (ofL L' k) ∧ ρ2 b = ρ' k ∧ (pos l b = some k ∨ (pos l b = none ∧ nx ≤ b ∧ k = l.length + (b - nx)))) ∨ (h2 b = happ h us b ∧ ρ2 b = ρ b ∧ pos l b = none ∧ ¬ nx ≤ b) := by
        intro b
        cases hp : pos l b with
        | some k => exact .inl ⟨k, (at3 b k (.inl hp)).1, (at3 b k (.inl hp)).2, .inl rfl⟩
        | none =>
          by_cases h1 : nx ≤ b
          · exact .inl ⟨_, (at3 b _ (.inr ⟨hp, h1, rfl⟩)).1, (at3 b _ (.inr ⟨hp, h1, rfl⟩)).2, .inr ⟨rfl, h1, rfl⟩⟩
          · exact .inr ⟨(at4 b hp h1).1, (at4 b hp h1).2, rfl, h1⟩
      have G2 : Goes T S1 w (happ h us) ρ S' w' h2 ρ2 := by
        refine ⟨G'.s, G'.w, fun b => ?_⟩
        rcases split b with ⟨k, e1, e2, e3⟩ | ⟨e1, e2, _⟩
        · rcases e3 with e3 | ⟨_, e3, _⟩
          · have hk := pos_get e3
            obtain ⟨f1, f2⟩ := kept_at (h := happ h us) (ρ := ρ) hk
            have := G'.b k
            rw [f1, f2] at this
            rw [e1, e2]
            unfold BSt GSt at this ⊢
            simp only [vw_ren] at this ⊢
            exact this
          · left
            rw [happ_none fun q hq e => ?_, free b e3]; rfl
            rcases p2 q hq with ⟨e', es, h3, _⟩ | ⟨x, h3, _⟩ | ⟨_, _, _, h3, _⟩ <;> rw [e, free b e3] at h3 <;> cases h3
        · rw [e1, e2]; exact BSt.refl ..
      -- a block that was not lent lies where it lay
      have notLent : ∀ b blk, isLive (happ h us b) = true → pos l b = none → blk ∈ realL (ρ b) → B blk := by
        intro b blk hb hp hre
        refine ⟨(H1.own b blk hb hre).1, fun c hc e => ?_⟩
        refine H1.apart c b blk (fun e => ?_) (by rw [hb1 c hc]; exact live c hc) hb e hre
        subst e
        obtain ⟨k, hk⟩ := pos_mem hc
        rw [hp] at hk; cases hk
      have H2 : HR T Z S' h2 ρ2 w' := by
        refine ⟨fun b => ?_, fun b blk hb hre => ?_, fun b c blk hne hb hc hre hre' => ?_, H'.sS, fun blk hs => ?_, fun blk hz => ?_, Nat.le_trans H.big hsize, H'.os.trans H1.os, H'.tape.trans H1.tape, H'.output.trans H1.output, H.zB⟩
        · rcases split b with ⟨k, e1, e2, _⟩ | ⟨e1, e2, e3, _⟩
          · exact (H'.hb k).ren hsame e1 e2
          · exact (H1.hb b).keep G2 e1 e2 fun blk hl hre => prot blk (notLent b blk hl e3 hre)
        · rcases split b with ⟨k, e1, e2, _⟩ | ⟨e1, e2, e3, _⟩
          · rw [e1, isLive_ren] at hb; rw [e2] at hre
            have := H'.own k blk hb hre
            exact ⟨this.1, this.2.1, fun hz => this.2.2 (zB blk hz)⟩
          · rw [e1] at hb; rw [e2] at hre
            have hB := notLent b blk hb e3 hre
            have h5 := H1.own b blk hb hre
            refine ⟨Nat.lt_of_lt_of_le h5.1 hsize, fun hs => ?_, h5.2.2⟩
            rcases H'.sub blk hs with h6 | h6
            · exact h5.2.1 h6
            · exact h6 hB
        · rcases split b with ⟨k, e1, e2, e3⟩ | ⟨e1, e2, e3, _⟩ <;> rcases split c with ⟨m, f1, f2, f3⟩ | ⟨f1, f2, f3, _⟩
          · rw [e1, isLive_ren] at hb; rw [e2] at hre
            rw [f1, isLive_ren] at hc; rw [f2] at hre'
            refine H'.apart k m blk (fun e => hne ?_) hb hc hre hre'
            subst e
            rcases e3 with e3 | ⟨_, e3, e4⟩ <;> rcases f3 with f3 | ⟨_, f3, f4⟩
            · have a1 := pos_get e3; have a2 := pos_get f3; rw [a1] at a2; cases a2; rfl
            · have a1 := (List.getElem?_eq_some_iff.1 (pos_get e3)).1; omega
            · have a1 := (List.getElem?_eq_some_iff.1 (pos_get f3)).1; omega
            · omega
          · rw [e1, isLive_ren] at hb; rw [e2] at hre
            rw [f1] at hc; rw [f2] at hre'
            exact (H'.own k blk hb hre).2.2 (notLent c blk hc f3 hre')
          · rw [e1] at hb; rw [e2] at hre
            rw [f1, isLive_ren] at hc; rw [f2] at hre'
            exact (H'.own m blk hc hre').2.2 (notLent b blk hb e3 hre)
          · rw [e1] at hb; rw [e2] at hre
            rw [f1] at hc; rw [f2] at hre'
            exact H1.apart b c blk hne hb hc hre hre'
        · rcases H'.sub blk hs with h6 | h6
          · exact H1.sub blk h6
          · exact .inr fun hz => h6 (zB blk hz)
        · rw [prot blk (zB blk hz)]; exact H.prot blk hz
      exact hn _ _ _ v w' S' ρ2 hr H2 (G1.trans G2) (ren3_ok hsame hres)

theorem hset_id (g : AHeap) (b : Nat) : hset g b (g b) = g := by
  funext j
  by_cases e : j = b
  · subst e; rw [hset_same]
  · rw [hset_ne _ _ e]
theorem happ_id (x : Nat → Blk) : ∀ (l : List Nat) (g : AHeap), (∀ b ∈ l, g b = x b) → happ g (l.map fun b => (b, x b)) = g
  | [], _, _ => rfl
  | b :: l, g, hg => by
    show happ (hset g b (x b)) (l.map fun b => (b, x b)) = g
    rw [← hg b (by simp), hset_id]
    exact happ_id x l g fun c hc => hg c (by simp [hc])
/-- A call. -/
theorem evCall_ok (H : HR T Z S h ρ w) (free : ∀ b, nx ≤ b → h b = .none) {f : Nat} {args : List AV} {vals : Array Value} (hl : vals.size = args.length)
    (hv : ∀ (j : Nat) (c : AV) (u : Value), args[j]? = some c → vals[j]? = some u → VLt T S w h ρ c u) {N : Value → World → Prop} (hn : Nexts T Z S w h ρ K N)
    (hr : evCall (Told P T) f args h nx K) : Runs P f vals w N := by
  obtain ⟨lend, ⟨bor, hr⟩⟩ := hr.p
  unfold evCall1 at hr
  cases bor with
  | false => exact evCall0_ok H free hl hv hn hr
  | true =>
    simp only [forceL_eq] at hr
    cases hq : lentAll h (lent0 lend args) with
    | nil => rw [hq] at hr; exact evCall0_ok H free hl hv hn hr
    | cons b l =>
      rw [hq] at hr
      simp only at hr
      generalize hl2 : b :: l = l2 at hr hq
      unfold evCallR at hr
      simp only at hr
      cases hc : (l2.all fun b => isLive (h b)) && ((prep lend (pos l2) h args).2.all fun u => !(l2.contains u.1)) with
      | false => rw [hc] at hr; exact hr.p.elim
      | true =>
        rw [hc] at hr
        obtain ⟨r, L', told, hr⟩ := hr
        have hc2 := hc
        simp only [Bool.and_eq_true] at hc2
        have apartU : ∀ p ∈ (prep lend (pos l2) h args).2, p.1 ∉ l2 := fun p hp hm => by
          have := List.all_eq_true.1 hc2.2 p hp
          have h2 : l2.contains p.1 = true := by simpa using hm
          rw [h2] at this; simp at this
        have e : happ h ((prep lend (pos l2) h args).2 ++ upsOf (back l2 nx) l2 L' nx) = happ h ((prep lend (pos l2) h args).2 ++ (upsOf (back l2 nx) l2 L' nx).drop l2.length) := by
          conv => lhs; rw [← List.take_append_drop l2.length (upsOf (back l2 nx) l2 L' nx), hr.c]
          rw [happ_append, happ_append, happ_append, happ_id h l2]
          intro c hcm
          exact happ_none fun q hq2 e2 => apartU q hq2 (e2 ▸ hcm)
        have hn2 : Nexts T Z S w h ρ (fun v us nx' => v = ren3 (back l2 nx) r ∧ us = (prep lend (pos l2) h args).2 ++ upsOf (back l2 nx) l2 L' nx ∧ nx' = nx + (L'.length - l2.length)) N := by
          rintro v us nx' u w' S' ρ' ⟨rfl, rfl, rfl⟩ H2 G2 V2
          rw [e] at H2 G2 V2
          exact hn _ _ _ u w' S' ρ' hr.p H2 G2 V2
        refine evCall0_ok (lend := lend) (bor := false) H free hl hv hn2 ?_
        unfold evCall0
        simp only [forceL_eq]
        rw [hq, hc]
        exact ⟨r, L', told, rfl, rfl, rfl⟩

end
end Go.Ev
