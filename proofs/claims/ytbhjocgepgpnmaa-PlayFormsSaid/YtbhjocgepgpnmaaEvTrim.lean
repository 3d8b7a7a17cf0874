/- A window at a row's front as a row of its own: what lies behind it is forgotten. -/
import Derived.Test.YtbhjocgepgpnmaaEvFn
import Derived.Test.YtbhjocgepgpnmaaEvGrid
set_option linter.unusedVariables false
set_option linter.unusedSimpArgs false
namespace Go.Ev

def trim1 (b k : Nat) : AV → AV
  | .sub c i n => bif Nat.beq c b then .ref k else .sub c i n
  | x => x
def trim2 (b k : Nat) : AV → AV
  | .agg cs => .agg (cs.map (trim1 b k))
  | .fn f cs => .fn f cs
  | x => trim1 b k x
def trim3 (b k : Nat) : AV → AV
  | .tup xs => .tup (xs.map (trim2 b k))
  | x => trim2 b k x
theorem trim1_sub (b k c i n : Nat) : trim1 b k (.sub c i n) = bif Nat.beq c b then .ref k else .sub c i n := rfl
/-- All windows of the block are the front of so much. -/
def front1 (b n : Nat) : AV → Prop
  | .sub c i m => c = b → i = 0 ∧ m = n
  | _ => True
def front2 (b n : Nat) : AV → Prop
  | .agg cs => ∀ c ∈ cs, front1 b n c
  | x => front1 b n x
def front3 (b n : Nat) : AV → Prop
  | .tup xs => ∀ x ∈ xs, front2 b n x
  | x => front2 b n x

section
variable {P : Program} {T : Tab} {Z : Base} {S : Nat → Prop} {w : World} {h : AHeap} {ρ : Rho}

theorem trim1_ok {b k n e : Nat} {es : List AV} {h2 : AHeap} {ρ2 : Rho} {oa : Option (Nat × Nat)} {cap : Nat} (hb : h b = .row e es) (hr : ρ b = .row oa cap) (hc : 0 < cap)
    (hn : n ≤ es.length) (hk : h2 k = .row e (es.take n)) (hr2 : ρ2 k = .row oa cap) (go : Goes T S w h ρ S w h2 ρ2) {x : AV} {v : Value} (hf : front1 b n x) (hv : VLc T S w h ρ x v) :
    VLc T S w h2 ρ2 (trim1 b k x) v := by
  cases x with
  | sub c i m =>
    rw [trim1_sub]
    cases hcb : Nat.beq c b with
    | false => exact go.vlc hv
    | true =>
      obtain rfl := Nat.eq_of_beq_eq_true hcb
      obtain ⟨rfl, rfl⟩ := hf rfl
      simp only [VLc, hb, vw] at hv
      obtain ⟨oa1, cap1, oa', h1, _, rfl, h4⟩ := hv
      rw [hr] at h1; cases h1
      obtain ⟨p, rfl, rfl⟩ := h4 (by omega)
      show VLc T S w h2 ρ2 (.ref k) _
      simp only [VLc, hk, vw]
      exact ⟨some p, cap, hr2, by simp [adr]; omega⟩
  | _ => exact go.vlc hv
end

theorem Told.trim {P : Program} {T : Tab} {f : Nat} {L : List Blk} {args : List AV} {r : AV} {L' : List Blk} (t : Told P T f L args r L') (b n : Nat) {e : Nat} {es : List AV}
    (hb : L'[b]? = some (.row e es)) (h0 : 0 < es.length) (hn : n ≤ es.length) (hf : front3 b n r) : Told P T f L args (trim3 b L'.length r) (L'.set b .dead ++ [.row e (es.take n)]) := by
  refine ⟨fun Z S ρ w vals H hs hv => (t.runs Z S ρ w vals H hs hv).mono fun v w' ⟨S', ρ', H', G', V'⟩ => ?_⟩
  have hbl : b < L'.length := (List.getElem?_eq_some_iff.1 hb).1
  have hB : ofL L' b = .row e es := by unfold ofL; rw [List.getD_eq_getElem?_getD, hb]; rfl
  have hK : ofL L' L'.length = .none := by unfold ofL; rw [List.getD_eq_getElem?_getD, List.getElem?_eq_none (Nat.le_refl _)]; rfl
  obtain ⟨k, hk⟩ : ∃ k, L'.length = k := ⟨_, rfl⟩
  rw [hk] at hK ⊢
  have hne : b ≠ k := by omega
  have e2 : ofL (L'.set b .dead ++ [.row e (es.take n)]) = hset (hset (ofL L') b .dead) k (.row e (es.take n)) := by
    funext j
    unfold ofL
    rw [List.getD_eq_getElem?_getD]
    by_cases hj : j = k
    · subst hj
      rw [hset_same, List.getElem?_append_right (by simp; omega)]
      simp [hk]
    · rw [hset_ne _ _ hj]
      by_cases hj2 : j = b
      · subst hj2
        rw [hset_same, List.getElem?_append_left (by simp; omega), List.getElem?_set_self hbl]; rfl
      · rw [hset_ne _ _ hj2, List.getD_eq_getElem?_getD]
        by_cases hjl : j < L'.length
        · rw [List.getElem?_append_left (by simp; omega), List.getElem?_set_ne (by omega)]
        · rw [List.getElem?_eq_none (by simp; omega), List.getElem?_eq_none (by omega)]
  rw [e2]
  have h1 := H'.hb b
  unfold HB at h1
  rw [hB] at h1
  obtain ⟨oa, cap, r1, s1, s2, s3, s4, s5⟩ := h1
  let h' := hset (hset (ofL L') b .dead) k (.row e (es.take n))
  have hbb : h' b = .dead := by
    show hset (hset (ofL L') b .dead) k _ b = _
    rw [hset_ne _ _ hne, hset_same]
  have hbn : h' k = .row e (es.take n) := hset_same _ _ _
  have hlen : (es.take n).length = n := by rw [List.length_take]; omega
  obtain ⟨H2, G2⟩ := H'.upd (S' := S') (h' := h') (ρ' := rset ρ' k (.row oa cap)) (fun d => d = b ∨ d = k) (r := none) ⟨rfl, rfl, rfl, Nat.le_refl _, fun _ _ _ => rfl⟩ (fun k e => by cases e)
    (fun d hd => ⟨(hset_ne _ _ (fun e => hd (.inr e))).trans (hset_ne _ _ (fun e => hd (.inl e))), rset_ne _ _ (fun e => hd (.inr e))⟩)
    (fun d hd => by
      rcases hd with rfl | rfl
      · exact .inr (.inl (by rw [hbb]; rfl))
      · exact .inl (by rw [hK]; rfl))
    (fun _ h => h) (fun _ h => .inl h)
    (fun go d hd => by
      rcases hd with rfl | rfl
      · unfold HB; rw [hbb]; trivial
      · unfold HB
        rw [hbn, rset_same]
        refine ⟨oa, cap, rfl, by rw [hlen]; omega, s2, fun x hx => s3 x (List.mem_of_mem_take hx), s4, fun p hp hc => ?_⟩
        obtain ⟨t1, t2⟩ := s5 p hp hc
        refine ⟨fun i x hx => ?_, t2⟩
        have hil := (List.getElem?_eq_some_iff.1 hx).1
        rw [List.getElem?_take_of_lt (by omega)] at hx
        exact (t1 i x hx).mono rfl fun c v hv => hv.mono go.s go.w)
    (fun d j hd hl hk' => by
      rcases hd with rfl | rfl
      · rw [hbb] at hl; cases hl
      · rw [rset_same] at hk'
        have hk2 : j ∈ realL (ρ' b) := by rw [r1]; exact hk'
        exact ⟨.inr ⟨b, .inl rfl, by rw [hB]; rfl, hk2⟩, (H'.own b j (by rw [hB]; rfl) hk2).2.1⟩)
    (fun d d' j hd hd' hne' hl hl' => by
      rcases hd with rfl | rfl
      · rw [hbb] at hl; cases hl
      · rcases hd' with rfl | rfl
        · rw [hbb] at hl'; cases hl'
        · exact absurd rfl hne')
  have key : ∀ {x : AV} {v : Value}, front1 b n x → VLc T S' w' (ofL L') ρ' x v → VLc T S' w' h' (rset ρ' k (.row oa cap)) (trim1 b k x) v := fun hf hv =>
    trim1_ok hB r1 (by omega) hn hbn (rset_same _ _ _) G2 hf hv
  have key2 : ∀ {x : AV} {v : Value}, front2 b n x → VLv T S' w' (ofL L') ρ' x v → VLv T S' w' h' (rset ρ' k (.row oa cap)) (trim2 b k x) v := by
    intro x v hf hv
    cases x with
    | agg cs =>
      obtain ⟨vs, rfl, h2, h3⟩ := hv
      refine ⟨vs, rfl, by rw [List.length_map]; exact h2, fun j c u hc hu => ?_⟩
      rw [List.getElem?_map] at hc
      cases hcj : cs[j]? with
      | none => rw [hcj] at hc; cases hc
      | some c0 =>
        rw [hcj] at hc; cases hc
        obtain ⟨a1, a2⟩ := h3 j c0 u hcj hu
        exact ⟨key (hf c0 (List.mem_of_getElem? hcj)) a1, a2⟩
    | fn f cs =>
      obtain ⟨vs, rfl, h2, h3⟩ := hv
      exact ⟨vs, rfl, h2, fun j c u hc hu => G2.vlc (h3 j c u hc hu)⟩
    | sub c i m =>
      have := key (x := .sub c i m) hf hv
      show VLv _ _ _ _ _ (trim1 b k (.sub c i m)) v
      rw [trim1_sub] at this ⊢
      cases hcb : Nat.beq c b with
      | false => rw [hcb] at this; exact this
      | true => rw [hcb] at this; exact this
    | und => exact key (x := .und) trivial hv
    | skp => exact key (x := .skp) trivial hv
    | int a1 a2 => exact key (x := .int a1 a2) trivial hv
    | bool a1 => exact key (x := .bool a1) trivial hv
    | str a1 => exact key (x := .str a1) trivial hv
    | lst a1 a2 => exact key (x := .lst a1 a2) trivial hv
    | nsl a1 => exact key (x := .nsl a1) trivial hv
    | ref a1 => exact key (x := .ref a1) trivial hv
    | fsub a1 a2 => exact key (x := .fsub a1 a2) trivial hv
    | ptr a1 a2 a3 => exact key (x := .ptr a1 a2 a3) trivial hv
    | eptr a1 a2 => exact key (x := .eptr a1 a2) trivial hv
    | npt => exact key (x := .npt) trivial hv
    | tup a1 => exact key (x := .tup a1) trivial hv
    | mp a1 => exact key (x := .mp a1) trivial hv
    | nmp => exact key (x := .nmp) trivial hv
    | gref a1 a2 => exact key (x := .gref a1 a2) trivial hv
    | gptr a1 a2 a3 a4 => exact key (x := .gptr a1 a2 a3 a4) trivial hv
  refine ⟨S', _, H2, G'.trans G2, ?_⟩
  cases r with
  | tup xs =>
    obtain ⟨vs, rfl, h2, h3⟩ := V'
    refine ⟨vs, rfl, by rw [List.length_map]; exact h2, fun j c u hc hu => ?_⟩
    rw [List.getElem?_map] at hc
    cases hcj : xs[j]? with
    | none => rw [hcj] at hc; cases hc
    | some c0 =>
      rw [hcj] at hc; cases hc
      exact key2 (hf c0 (List.mem_of_getElem? hcj)) (h3 j c0 u hcj hu)
  | sub c i m =>
    have := key2 (x := .sub c i m) hf V'
    show VLt _ _ _ _ _ (trim1 b k (.sub c i m)) v
    have this : VLv _ _ _ _ _ (trim1 b k (.sub c i m)) v := this
    rw [trim1_sub] at this ⊢
    cases hcb : Nat.beq c b with
    | false => rw [hcb] at this; exact this
    | true => rw [hcb] at this; exact this
  | und => exact key2 (x := .und) hf V'
  | skp => exact key2 (x := .skp) hf V'
  | int a1 a2 => exact key2 (x := .int a1 a2) hf V'
  | bool a1 => exact key2 (x := .bool a1) hf V'
  | str a1 => exact key2 (x := .str a1) hf V'
  | lst a1 a2 => exact key2 (x := .lst a1 a2) hf V'
  | nsl a1 => exact key2 (x := .nsl a1) hf V'
  | ref a1 => exact key2 (x := .ref a1) hf V'
  | fsub a1 a2 => exact key2 (x := .fsub a1 a2) hf V'
  | ptr a1 a2 a3 => exact key2 (x := .ptr a1 a2 a3) hf V'
  | eptr a1 a2 => exact key2 (x := .eptr a1 a2) hf V'
  | npt => exact key2 (x := .npt) hf V'
  | agg a1 => exact key2 (x := .agg a1) hf V'
  | fn a1 a2 => exact key2 (x := .fn a1 a2) hf V'
  | mp a1 => exact key2 (x := .mp a1) hf V'
  | nmp => exact key2 (x := .nmp) hf V'
  | gref a1 a2 => exact key2 (x := .gref a1 a2) hf V'
  | gptr a1 a2 a3 a4 => exact key2 (x := .gptr a1 a2 a3 a4) hf V'

/-- A new row as one that nobody writes. -/
theorem Told.fz {P : Program} {T : Tab} {f : Nat} {args : List AV} {e : Nat} {es : List AV} (t : Told P T f [] args (.ref 0) [.row e es]) : Told P T f [] args (.lst e es) [] := by
  refine ⟨fun Z S ρ w vals H hs hv => (t.runs Z S ρ w vals H hs hv).mono fun v w' ⟨S', ρ', H', G', V'⟩ => ?_⟩
  obtain ⟨S2, H2, G2⟩ := H'.freeze (us := [(0, .fz e es)]) (fun p hp => by simp only [List.mem_singleton] at hp; subst hp; exact .inl ⟨e, es, rfl, rfl⟩)
  have hb := H2.hb 0
  unfold HB at hb
  rw [show happ (ofL [.row e es]) [(0, .fz e es)] 0 = .fz e es from rfl] at hb
  obtain ⟨oa, cap, r1, vf⟩ := hb
  have V' : VLc T S' w' (ofL [.row e es]) ρ' (.ref 0) v := V'
  simp only [VLc, show ofL [.row e es] 0 = .row e es from rfl, vw] at V'
  obtain ⟨oa2, cap2, r2, rfl⟩ := V'
  rw [r1] at r2; cases r2
  refine ⟨S2, ρ', ⟨fun b => ?_, fun b k hl => ?_, fun b c k _ hl => ?_, H2.sS, H2.sub, H2.prot, H2.big, H2.os, H2.tape, H2.output, H2.zB⟩, ⟨fun b h => G2.s b (G'.s b h), fun b h => (G2.w b (G'.s b h)).trans (G'.w b h), fun b => .inl rfl⟩, ?_⟩
  · show HB T S2 w' (ofL []) ρ' b
    unfold HB; trivial
  · cases hl
  · cases hl
  · exact vf


/-- A row of rows that nobody writes, as a grid. -/
theorem Told.grid {P : Program} {T : Tab} {f : Nat} {L : List Blk} {args : List AV} {r : AV} {L' : List Blk} (t : Told P T f L args r L') (b : Nat) {e e' : Nat} {fs : List (List AV)}
    (hb : L'[b]? = some (.row e (fs.map (.lst e')))) (h1 : (T e).size = 1) (hp : 0 < (T e').size) : Told P T f L args r (L'.set b (.grid e e' (fs.map fun x => (false, x)))) := by
  refine ⟨fun Z S ρ w vals H hs hv => (t.runs Z S ρ w vals H hs hv).mono fun v w' ⟨S', ρ', H', G', V'⟩ => ?_⟩
  have hbl : b < L'.length := (List.getElem?_eq_some_iff.1 hb).1
  have hB : ofL L' b = .row e (fs.map (.lst e')) := by unfold ofL; rw [List.getD_eq_getElem?_getD, hb]; rfl
  have e2 : ofL (L'.set b (.grid e e' (fs.map fun x => (false, x)))) = hset (ofL L') b (.grid e e' (fs.map fun x => (false, x))) := by
    funext j
    unfold ofL
    rw [List.getD_eq_getElem?_getD]
    by_cases hj2 : j = b
    · subst hj2
      rw [hset_same, List.getElem?_set_self hbl]; rfl
    · rw [hset_ne _ _ hj2, List.getD_eq_getElem?_getD, List.getElem?_set_ne (Ne.symm hj2)]
  rw [e2]
  have h0 := H'.hb b
  unfold HB at h0
  rw [hB] at h0
  obtain ⟨oa, cap, r1, s1, s2, s3, s4, s5⟩ := h0
  rw [List.length_map] at s1
  have hlive : isLive (ofL L' b) = true := by rw [hB]; rfl
  have hrl : ∀ n : Nat, (List.replicate n ((none : Option (Nat × Nat)), 0)).flatMap (fun r => realR r.1 r.2) = [] := fun n => by
    rw [List.flatMap_eq_nil_iff]
    intro x hx
    rw [List.eq_of_mem_replicate hx]; rfl
  have hreal : realL (.grid oa cap (List.replicate fs.length (none, 0))) = realR oa cap := by
    simp only [realL, hrl, List.append_nil]
  obtain ⟨H2, G2⟩ := H'.upd (S' := S') (w' := w') (h' := hset (ofL L') b (.grid e e' (fs.map fun x => (false, x)))) (ρ' := rset ρ' b (.grid oa cap (List.replicate fs.length (none, 0)))) (fun d => d = b) (r := none) ⟨rfl, rfl, rfl, Nat.le_refl _, fun _ _ _ => rfl⟩ (fun k e => by cases e)
    (fun d hd => ⟨hset_ne _ _ hd, rset_ne _ _ hd⟩)
    (fun d hd => by
      subst hd
      refine .inr (.inr (.inr ⟨e, e', oa, cap, gns (fs.map fun x => (false, x)), List.replicate fs.length (none, 0), by rw [hset_same]; rfl, rset_same _ _ _, .inl ⟨by rw [hB]; simp [vw, gns], r1⟩⟩)))
    (fun _ h => h) (fun _ h => .inl h)
    (fun go d hd => by
      subst hd
      unfold HB
      rw [hset_same, rset_same]
      refine ⟨oa, cap, _, rfl, by rw [List.length_map]; exact s1, s2, h1, hp, by simp, by rw [hreal]; exact realR_nodup _ _, fun p hp' j hj => (s5 p hp' (by omega)).2 j (by rw [h1, Nat.mul_one]; exact hj), fun i g hi => ?_⟩
      rw [List.getElem?_map] at hi
      cases hf : fs[i]? with
      | none => rw [hf] at hi; cases hi
      | some x =>
        rw [hf] at hi; cases hi
        have hil := (List.getElem?_eq_some_iff.1 hf).1
        cases oa with
        | none => have := s2 rfl; omega
        | some p =>
          obtain ⟨u, u1, u2, u3⟩ := (s5 p rfl (by omega)).1 i (.lst e' x) (by rw [List.getElem?_map, hf]; rfl) 0 (.lst e' x) rfl
          refine ⟨p, u, rfl, by rw [h1, Nat.mul_one, Nat.add_zero] at u1; exact u1, u2, ?_⟩
          unfold GAt
          simp only
          exact ⟨by rw [List.getElem?_replicate, if_pos hil], u3.mono go.s go.w⟩)
    (fun d k hd hl hk => by
      subst hd
      rw [rset_same, hreal] at hk
      have hk2 : k ∈ realL (ρ' d) := by rw [r1]; exact hk
      exact ⟨.inr ⟨d, rfl, hlive, hk2⟩, (H'.own d k hlive hk2).2.1⟩)
    (fun d d2 k hd hd2 hne => absurd (hd.trans hd2.symm) hne)
  exact ⟨S', _, H2, G'.trans G2, G2.vlt V'⟩

/-- One cell of a variable behind a call is laid where nobody writes. -/
theorem Told.cell {P : Program} {T : Tab} {f : Nat} {L : List Blk} {args : List AV} {r : AV} {L' L2 : List Blk} (t : Told P T f L args r L') (b j : Nat) (e : ∀ k, ofL L2 k = frzV (ofL L') b j k) : Told P T f L args r L2 := by
  refine ⟨fun Z S ρ w vals H hs hv => (t.runs Z S ρ w vals H hs hv).mono fun v w' ⟨S', ρ', H', G', V'⟩ => ?_⟩
  have e2 : ofL L2 = frzV (ofL L') b j := funext e
  obtain ⟨S2, H2, G2, _⟩ := frzV_ok (nx := L'.length) H' (fun k hk => by unfold ofL; rw [List.getD_eq_getElem?_getD, List.getElem?_eq_none hk]; rfl) b j
  rw [← e2] at H2 G2
  exact ⟨S2, ρ', H2, G'.trans G2, G2.vlt V'⟩
end Go.Ev
