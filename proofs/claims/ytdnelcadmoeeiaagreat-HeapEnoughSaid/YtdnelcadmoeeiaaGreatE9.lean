/- Words and lemmas, part 9, for laws of this seat (a part of their proofs). -/
import Derived.Test.YtdnelcadmoeeiaaGreatE7
import Derived.Test.YtdnelcadmoeeiaaGreatE8
import Derived.Test.YtdnelcadmoeeiaaGreatNm
import Derived.Test.YtdnelcadmoeeiaaGreatEvOpen
import Derived.Test.YtdnelcadmoeeiaaGreatEvLib
import Derived.Test.YtdnelcadmoeeiaaGreatEvGrid
import Derived.Test.YtdnelcadmoeeiaaGreatEvTrim
set_option linter.unusedVariables false
set_option linter.unusedSimpArgs false
namespace Go.Ev.W
open Go.Ev Go.Ev.N

/-- A call to a block that was found. -/
def onH (c : Cf) (g cl : Nat) (s : Hs) (o : X.O) (y n : Nat) (q : Int) : Hs × An :=
  if o.k = 4 then realH c g cl s y n q o.s
  else if o.k = 5 then (goneF c s y n, an0)
  else if o.k = 6 then (s, { an0 with n := n })
  else if o.n < 0 ∨ o.n ≥ n then (s, anE 9)
  else if o.k = 7 then (s, { an0 with b := s.mem.getD (y + o.n.toNat) 0 })
  else ({ s with mem := s.mem.set (y + o.n.toNat) o.b.toNat }, an0)
theorem hpBlockN_told {c : Cf} {g cl : Nat} {s : Hs} (o : X.O) (h : getS o.p s.ds = none) :
    Told P T heap_Heap_block (hsL c g cl s) [.ptr 0 0 0, X.encO o] (eA (anE 8)) (hsL c g cl s) := by
  have hg := mget_encS o.p s.ds
  rw [h] at hg
  unfold hsL hpL hpV X.encO at *
  refine told_of_ev (fn := heap_Heap_block_fn) tabOk mixed (by kernel_rfl) (by kernel_rfl) (by kernel_rfl) (by kernel_rfl) ?_
  (refine gw ?_)
  refine Get.of hg ?_
  (refine gw ?_; exact RetN.mk ⟨[], rfl, rfl, rfl⟩)
structure OnOk' (c : Cf) (g cl : Nat) (s : Hs) (o : X.O) (y n : Nat) : Prop where
  h1 : HsOk c g cl (goneF c s y n)
  n1 : 1 ≤ n
  yn : y + n ≤ c.H
  lv : (n : Int) ≤ s.live
  r : (newF c (s.live - n) o.s 1).2 = 0 → ∀ r, r = givH c g cl (goneF c s y n) ((newF c (s.live - n) o.s 1).1, 0) o.s → r.2.e = 0 → 0 ≤ r.2.at' ∧ r.2.at'.toNat + (newF c (s.live - n) o.s 1).1 ≤ r.1.mem.length ∧ r.1.mem.length ≤ 65536
set_option maxRecDepth 20000 in
set_option maxHeartbeats 4000000 in
theorem hpBlock_told {c : Cf} {g cl : Nat} {s : Hs} (h : HsOk c g cl s) {o : X.O} (ho : OpOk o) {y n : Nat} {q : Int} (hs : getS o.p s.ds = some ⟨y, n, q⟩) (h2 : OnOk' c g cl s o y n) :
    Told P T heap_Heap_block (hsL c g cl s) [.ptr 0 0 0, X.encO o] (eA (onH c g cl s o y n q).2) (hsL c g cl (onH c g cl s o y n q).1) := by
  have hg := mget_encS o.p s.ds
  rw [hs] at hg
  have hH := h.ok.h2
  have hmb := h.mb
  have hml2 : s.met.length ≤ 65536 := by have := h.met; have : c.H / c.Pg ≤ c.H := Nat.div_le_self _ _; omega
  have c1 := hpReal_told h (q := q) h2.h1 h2.n1 h2.yn h2.lv o.s h2.r
  have c0 := hpGone_told c g cl s.b s.m h.eg s.live s.peak s.mark s.on s.ds s.met s.mem hml2 h.pg1 y n q h2.n1 (by have := h2.yn; omega) (fun i => by have := hmb i; omega) (h.pg _ _ h2.n1 h2.yn) (by have := h.lv; omega)
  have hyn := h2.yn
  have hn1 := h2.n1
  have hon := ho.n
  have hob := ho.b
  have hmm := h.mem
  unfold onH
  generalize realH c g cl s y n q o.s = R at *
  by_cases h4 : o.k = 4
  · rw [if_pos h4]
    unfold hsL hpL hpV X.encO at *
    refine told_of_ev (fn := heap_Heap_block_fn) tabOk mixed (by kernel_rfl) (by kernel_rfl) (by kernel_rfl) (by kernel_rfl) ?_
    (refine gw ?_)
    refine Get.of hg ?_
    (refine gw ?_; refine IfB.tt (by simpa using h4) ?_)
    (refine gw ?_; refine Choice.mk ⟨true, Choice.mk ⟨false, _, _, c1, ?_⟩⟩)
    (refine gw ?_; exact RetN.mk ⟨[], rfl, rfl, rfl⟩)
  rw [if_neg h4]
  by_cases h5 : o.k = 5
  · rw [if_pos h5]
    unfold goneF hsL hpL hpV X.encO at *
    refine told_of_ev (fn := heap_Heap_block_fn) tabOk mixed (by kernel_rfl) (by kernel_rfl) (by kernel_rfl) (by kernel_rfl) ?_
    (refine gw ?_)
    refine Get.of hg ?_
    (refine gw ?_; refine IfB.ff (by simpa using h4) ?_)
    (refine gw ?_; refine IfB.tt (by simpa using h5) ?_)
    (refine gw ?_; refine Choice.mk ⟨true, Choice.mk ⟨false, _, _, c0, ?_⟩⟩)
    (refine gw ?_; exact RetN.mk ⟨[], rfl, rfl, rfl⟩)
  rw [if_neg h5]
  by_cases h6 : o.k = 6
  · rw [if_pos h6]
    unfold hsL hpL hpV X.encO at *
    refine told_of_ev (fn := heap_Heap_block_fn) tabOk mixed (by kernel_rfl) (by kernel_rfl) (by kernel_rfl) (by kernel_rfl) ?_
    (refine gw ?_)
    refine Get.of hg ?_
    (refine gw ?_; refine IfB.ff (by simpa using h4) ?_)
    (refine gw ?_; refine IfB.ff (by simpa using h5) ?_)
    (refine gw ?_; refine IfB.tt (by simpa using h6) ?_)
    (refine gw ?_; exact RetN.mk ⟨[], rfl, rfl, rfl⟩)
  rw [if_neg h6]
  by_cases hb : o.n < 0 ∨ o.n ≥ n
  · rw [if_pos hb]
    unfold hsL hpL hpV X.encO at *
    refine told_of_ev (fn := heap_Heap_block_fn) tabOk mixed (by kernel_rfl) (by kernel_rfl) (by kernel_rfl) (by kernel_rfl) ?_
    (refine gw ?_)
    refine Get.of hg ?_
    (refine gw ?_; refine IfB.ff (by simpa using h4) ?_)
    (refine gw ?_; refine IfB.ff (by simpa using h5) ?_)
    (refine gw ?_; refine IfB.ff (by simpa using h6) ?_)
    by_cases hb1 : o.n < 0
    · (refine gw ?_; refine IfB.tt (by simpa using hb1) ?_)
      (refine gw ?_; exact RetN.mk ⟨[], rfl, rfl, rfl⟩)
    · (refine gw ?_; refine IfB.ff (by simp; omega) ?_)
      (refine gw ?_; refine IfB.tt (by simp; omega) ?_)
      (refine gw ?_; exact RetN.mk ⟨[], rfl, rfl, rfl⟩)
  rw [if_neg hb]
  have hcast : (y : Int) + o.n = ((y + o.n.toNat : Nat) : Int) := by omega
  have hlt : y + o.n.toNat < s.mem.length := by omega
  by_cases h7 : o.k = 7
  · rw [if_pos h7]
    have hx : ∀ Q : AV → Prop, Q (u8 (s.mem.getD (y + o.n.toNat) 0)) → At (s.mem.map u8) ((y + o.n.toNat : Nat) : Int).toNat Q := fun Q q => at_map (k := y + o.n.toNat) hlt (by rw [show s.mem[y + o.n.toNat] = s.mem.getD (y + o.n.toNat) 0 by simp [List.getD_eq_getElem?_getD, hlt]]; exact q)
    unfold hsL hpL hpV X.encO at *
    refine told_of_ev (fn := heap_Heap_block_fn) tabOk mixed (by kernel_rfl) (by kernel_rfl) (by kernel_rfl) (by kernel_rfl) ?_
    (refine gw ?_)
    refine Get.of hg ?_
    (refine gw ?_; refine IfB.ff (by simpa using h4) ?_)
    (refine gw ?_; refine IfB.ff (by simpa using h5) ?_)
    (refine gw ?_; refine IfB.ff (by simpa using h6) ?_)
    (refine gw ?_; refine IfB.ff (by simp; omega) ?_)
    (refine gw ?_; refine IfB.ff (by simp; omega) ?_)
    (refine gw ?_; refine IfB.tt (by simpa using h7) ?_)
    (refine gw ?_)
    rw [hcast]
    refine fits (wrap64 (by omega) (by omega)) ?_
    (refine gw ?_)
    refine InB.mk (by omega) (by simp; omega) ?_
    (refine gw ?_)
    refine hx _ ?_
    (refine gw ?_; exact RetN.mk ⟨[], rfl, rfl, rfl⟩)
  · rw [if_neg h7]
    unfold hsL hpL hpV X.encO at *
    refine told_of_ev (fn := heap_Heap_block_fn) tabOk mixed (by kernel_rfl) (by kernel_rfl) (by kernel_rfl) (by kernel_rfl) ?_
    (refine gw ?_)
    refine Get.of hg ?_
    (refine gw ?_; refine IfB.ff (by simpa using h4) ?_)
    (refine gw ?_; refine IfB.ff (by simpa using h5) ?_)
    (refine gw ?_; refine IfB.ff (by simpa using h6) ?_)
    (refine gw ?_; refine IfB.ff (by simp; omega) ?_)
    (refine gw ?_; refine IfB.ff (by simp; omega) ?_)
    (refine gw ?_; refine IfB.ff (by simpa using h7) ?_)
    (refine gw ?_)
    rw [hcast]
    refine fits (wrap64 (by omega) (by omega)) ?_
    (refine gw ?_)
    refine InB.mk (by omega) (by simp; omega) ?_
    have hset : (s.mem.map u8).set (y + o.n.toNat) (.int .u8 o.b) = (s.mem.set (y + o.n.toNat) o.b.toNat).map u8 := by
      rw [List.map_set]; congr 1; show AV.int .u8 o.b = .int .u8 ((o.b.toNat : Nat) : Int); congr 1; omega
    rw [← hset]
    (refine gw ?_; exact RetN.mk ⟨[], rfl, rfl, rfl⟩)
end Go.Ev.W
namespace Go.Ev.W
open Go.Ev Go.Ev.N

/-- What a call does to a heap as it lies. -/
def doH (c : Cf) (g cl : Nat) (s : Hs) (o : X.O) : Hs × An :=
  if o.k = 1 then givH c g cl s (newF c s.live o.s 1) o.s
  else if o.k = 2 then callH c g cl s o.n o.s
  else if o.k = 3 then givH c g cl s (newF c s.live o.s o.a) o.s
  else if o.k = 4 ∨ o.k = 5 ∨ o.k = 6 ∨ o.k = 7 ∨ o.k = 8 then
    match getS o.p s.ds with
    | none => (s, anE 8)
    | some x => onH c g cl s o x.a.toNat x.c.toNat x.q
  else if o.k = 9 then ({ s with on := (trimF s.on (pagesF s.met)).1 }, { an0 with n := (trimF s.on (pagesF s.met)).2 })
  else if o.k = 10 then (s, { an0 with live := s.live, peak := s.peak, mark := s.mark, pg := cntB s.on })
  else (s, anE 2)
structure DoOk (c : Cf) (g cl : Nat) (s : Hs) (o : X.O) : Prop where
  h : HsOk c g cl s
  many : ∀ r, r = givH c g cl s (manyF c s.live o.n o.s) (prodF c o.n o.s).1 → r.2.e = 0 → 0 ≤ r.2.at' ∧ r.2.at'.toNat + (manyF c s.live o.n o.s).1 ≤ r.1.mem.length ∧ r.1.mem.length ≤ 65536
  on : ∀ x, getS o.p s.ds = some x → ∃ y n : Nat, x = ⟨y, n, x.q⟩ ∧ OnOk' c g cl s o y n
set_option maxRecDepth 20000 in
set_option maxHeartbeats 4000000 in
theorem hpDo_told {c : Cf} {g cl : Nat} {s : Hs} {o : X.O} (hd : DoOk c g cl s o) (ho : OpOk o) :
    Told P T heap_Heap_Do (hsL c g cl s) [.ptr 0 0 0, X.encO o] (eA (doH c g cl s o).2) (hsL c g cl (doH c g cl s o).1) := by
  have h := hd.h
  have hH := h.ok.h2
  have hml2 : s.met.length ≤ 65536 := by have := h.met; have : c.H / c.Pg ≤ c.H := Nat.div_le_self _ _; omega
  have hon : s.on.length ≤ 65536 := by have := h.on; omega
  unfold doH
  by_cases h1 : o.k = 1
  · rw [if_pos h1]
    have c1 := hpAligned_told h o.s 1 (by omega)
    generalize givH c g cl s (newF c s.live o.s 1) o.s = r at *
    unfold hsL hpL hpV X.encO at *
    refine told_of_ev (fn := heap_Heap_Do_fn) tabOk mixed (by kernel_rfl) (by kernel_rfl) (by kernel_rfl) (by kernel_rfl) ?_
    (refine gw ?_; refine IfB.tt (by simpa using h1) ?_)
    (refine gw ?_; refine Choice.mk ⟨true, Choice.mk ⟨false, _, _, c1, ?_⟩⟩)
    (refine gw ?_; exact RetN.mk ⟨[], rfl, rfl, rfl⟩)
  rw [if_neg h1]
  by_cases h2 : o.k = 2
  · rw [if_pos h2]
    have c1 := hpCalloc_told h o.n o.s ho.n ho.s hd.many
    generalize callH c g cl s o.n o.s = r at *
    unfold hsL hpL hpV X.encO at *
    refine told_of_ev (fn := heap_Heap_Do_fn) tabOk mixed (by kernel_rfl) (by kernel_rfl) (by kernel_rfl) (by kernel_rfl) ?_
    (refine gw ?_; refine IfB.ff (by simpa using h1) ?_)
    (refine gw ?_; refine IfB.tt (by simpa using h2) ?_)
    (refine gw ?_; refine Choice.mk ⟨true, Choice.mk ⟨false, _, _, c1, ?_⟩⟩)
    (refine gw ?_; exact RetN.mk ⟨[], rfl, rfl, rfl⟩)
  rw [if_neg h2]
  by_cases h3 : o.k = 3
  · rw [if_pos h3]
    have c1 := hpAligned_told h o.s o.a ho.a.2
    generalize givH c g cl s (newF c s.live o.s o.a) o.s = r at *
    unfold hsL hpL hpV X.encO at *
    refine told_of_ev (fn := heap_Heap_Do_fn) tabOk mixed (by kernel_rfl) (by kernel_rfl) (by kernel_rfl) (by kernel_rfl) ?_
    (refine gw ?_; refine IfB.ff (by simpa using h1) ?_)
    (refine gw ?_; refine IfB.ff (by simpa using h2) ?_)
    (refine gw ?_; refine IfB.tt (by simpa using h3) ?_)
    (refine gw ?_; refine Choice.mk ⟨true, Choice.mk ⟨false, _, _, c1, ?_⟩⟩)
    (refine gw ?_; exact RetN.mk ⟨[], rfl, rfl, rfl⟩)
  rw [if_neg h3]
  by_cases hb : o.k = 4 ∨ o.k = 5 ∨ o.k = 6 ∨ o.k = 7 ∨ o.k = 8
  · rw [if_pos hb]
    have c1 : ∃ r, r = (match getS o.p s.ds with | none => (s, anE 8) | some x => onH c g cl s o x.a.toNat x.c.toNat x.q) ∧ Told P T heap_Heap_block (hsL c g cl s) [.ptr 0 0 0, X.encO o] (eA r.2) (hsL c g cl r.1) := by
      refine ⟨_, rfl, ?_⟩
      cases hg : getS o.p s.ds with
      | none => exact hpBlockN_told o hg
      | some x =>
        obtain ⟨y, n, hx, hk⟩ := hd.on x hg
        have e1 : x.a.toNat = y := by rw [hx]; simp
        have e2 : x.c.toNat = n := by rw [hx]; simp
        simp only
        rw [e1, e2]
        exact hpBlock_told h ho (by rw [hg, ← hx]) hk
    obtain ⟨r, hr, c1⟩ := c1
    rw [← hr]
    clear hr
    have hk : o.k = 4 ∨ o.k ≠ 4 := by omega
    have hk5 : o.k = 5 ∨ o.k ≠ 5 := by omega
    have hk6 : o.k = 6 ∨ o.k ≠ 6 := by omega
    have hk7 : o.k = 7 ∨ o.k ≠ 7 := by omega
    unfold hsL hpL hpV X.encO at *
    refine told_of_ev (fn := heap_Heap_Do_fn) tabOk mixed (by kernel_rfl) (by kernel_rfl) (by kernel_rfl) (by kernel_rfl) ?_
    (refine gw ?_; refine IfB.ff (by simpa using h1) ?_)
    (refine gw ?_; refine IfB.ff (by simpa using h2) ?_)
    (refine gw ?_; refine IfB.ff (by simpa using h3) ?_)
    rcases hk with hk | hk
    · (refine gw ?_; refine IfB.tt (by simpa using hk) ?_)
      (refine gw ?_; refine IfB.tt (by simpa using hk) ?_)
      (refine gw ?_; refine Choice.mk ⟨true, Choice.mk ⟨false, _, _, c1, ?_⟩⟩)
      (refine gw ?_; exact RetN.mk ⟨[], rfl, rfl, rfl⟩)
    (refine gw ?_; refine IfB.ff (by simpa using hk) ?_)
    rcases hk5 with hk5 | hk5
    · (refine gw ?_; refine IfB.tt (by simpa using hk5) ?_)
      (refine gw ?_; refine IfB.tt (by simpa using hk5) ?_)
      (refine gw ?_; refine Choice.mk ⟨true, Choice.mk ⟨false, _, _, c1, ?_⟩⟩)
      (refine gw ?_; exact RetN.mk ⟨[], rfl, rfl, rfl⟩)
    (refine gw ?_; refine IfB.ff (by simpa using hk5) ?_)
    rcases hk6 with hk6 | hk6
    · (refine gw ?_; refine IfB.tt (by simpa using hk6) ?_)
      (refine gw ?_; refine IfB.tt (by simpa using hk6) ?_)
      (refine gw ?_; refine Choice.mk ⟨true, Choice.mk ⟨false, _, _, c1, ?_⟩⟩)
      (refine gw ?_; exact RetN.mk ⟨[], rfl, rfl, rfl⟩)
    (refine gw ?_; refine IfB.ff (by simpa using hk6) ?_)
    rcases hk7 with hk7 | hk7
    · (refine gw ?_; refine IfB.tt (by simpa using hk7) ?_)
      (refine gw ?_; refine IfB.tt (by simpa using hk7) ?_)
      (refine gw ?_; refine Choice.mk ⟨true, Choice.mk ⟨false, _, _, c1, ?_⟩⟩)
      (refine gw ?_; exact RetN.mk ⟨[], rfl, rfl, rfl⟩)
    (refine gw ?_; refine IfB.ff (by simpa using hk7) ?_)
    (refine gw ?_; refine IfB.tt (by simp; omega) ?_)
    (refine gw ?_; refine Choice.mk ⟨true, Choice.mk ⟨false, _, _, c1, ?_⟩⟩)
    (refine gw ?_; exact RetN.mk ⟨[], rfl, rfl, rfl⟩)
  rw [if_neg hb]
  by_cases h9 : o.k = 9
  · rw [if_pos h9]
    have c1 := hpPages_told c g cl s.b s.m s.live s.peak s.mark s.on s.ds s.met s.mem hml2
    have c2 := trim_told (on := s.on) (met := pagesF s.met) (by rw [show (pagesF s.met).length = s.met.length by simp [pagesF]]; exact h.on.symm) hon
    generalize trimF s.on (pagesF s.met) = t at *
    unfold hsL hpL hpV X.encO lT at *
    refine told_of_ev (fn := heap_Heap_Do_fn) tabOk mixed (by kernel_rfl) (by kernel_rfl) (by kernel_rfl) (by kernel_rfl) ?_
    (refine gw ?_; refine IfB.ff (by simpa using h1) ?_)
    (refine gw ?_; refine IfB.ff (by simpa using h2) ?_)
    (refine gw ?_; refine IfB.ff (by simpa using h3) ?_)
    (refine gw ?_; refine IfB.ff (by simp; omega) ?_)
    (refine gw ?_; refine IfB.ff (by simp; omega) ?_)
    (refine gw ?_; refine IfB.ff (by simp; omega) ?_)
    (refine gw ?_; refine IfB.ff (by simp; omega) ?_)
    (refine gw ?_; refine IfB.ff (by simp; omega) ?_)
    (refine gw ?_; refine IfB.tt (by simpa using h9) ?_)
    (refine gw ?_; refine Choice.mk ⟨false, Choice.mk ⟨true, _, _, c1, Need.mk rfl ?_⟩⟩)
    (refine gw ?_; refine Choice.mk ⟨false, Choice.mk ⟨false, _, _, c2, ?_⟩⟩)
    (refine gw ?_; exact RetN.mk ⟨[], rfl, rfl, rfl⟩)
  rw [if_neg h9]
  by_cases h10 : o.k = 10
  · rw [if_pos h10]
    have c1 := pinCount_told s.on (by omega)
    unfold hsL hpL hpV X.encO lT at *
    refine told_of_ev (fn := heap_Heap_Do_fn) tabOk mixed (by kernel_rfl) (by kernel_rfl) (by kernel_rfl) (by kernel_rfl) ?_
    (refine gw ?_; refine IfB.ff (by simpa using h1) ?_)
    (refine gw ?_; refine IfB.ff (by simpa using h2) ?_)
    (refine gw ?_; refine IfB.ff (by simpa using h3) ?_)
    (refine gw ?_; refine IfB.ff (by simp; omega) ?_)
    (refine gw ?_; refine IfB.ff (by simp; omega) ?_)
    (refine gw ?_; refine IfB.ff (by simp; omega) ?_)
    (refine gw ?_; refine IfB.ff (by simp; omega) ?_)
    (refine gw ?_; refine IfB.ff (by simp; omega) ?_)
    (refine gw ?_; refine IfB.ff (by simpa using h9) ?_)
    (refine gw ?_; refine IfB.tt (by simpa using h10) ?_)
    (refine gw ?_; refine Choice.mk ⟨false, Choice.mk ⟨false, _, _, c1, ?_⟩⟩)
    (refine gw ?_; exact RetN.mk ⟨[], rfl, rfl, rfl⟩)
  rw [if_neg h10]
  unfold hsL hpL hpV X.encO
  refine told_of_ev (fn := heap_Heap_Do_fn) tabOk mixed (by kernel_rfl) (by kernel_rfl) (by kernel_rfl) (by kernel_rfl) ?_
  (refine gw ?_; refine IfB.ff (by simpa using h1) ?_)
  (refine gw ?_; refine IfB.ff (by simpa using h2) ?_)
  (refine gw ?_; refine IfB.ff (by simpa using h3) ?_)
  (refine gw ?_; refine IfB.ff (by simp; omega) ?_)
  (refine gw ?_; refine IfB.ff (by simp; omega) ?_)
  (refine gw ?_; refine IfB.ff (by simp; omega) ?_)
  (refine gw ?_; refine IfB.ff (by simp; omega) ?_)
  (refine gw ?_; refine IfB.ff (by simp; omega) ?_)
  (refine gw ?_; refine IfB.ff (by simpa using h9) ?_)
  (refine gw ?_; refine IfB.ff (by simpa using h10) ?_)
  (refine gw ?_; exact RetN.mk ⟨[], rfl, rfl, rfl⟩)
end Go.Ev.W
namespace Go.Ev.W
open Go.Ev Go.Ev.N

theorem setZc {b : Nat → Bool} {k i x : Nat} {on : Bool} : setZ b (i * 2 ^ k : Nat) (2 ^ k : Nat) on x = if x / 2 ^ k = i then on else b x := by
  have hp : 0 < 2 ^ k := Nat.pow_pos (by omega)
  unfold setZ
  have e : (x / 2 ^ k = i) ↔ (i * 2 ^ k ≤ x ∧ x < i * 2 ^ k + 2 ^ k) := by
    rw [Nat.div_eq_iff hp]
    constructor
    · rintro ⟨h1, h2⟩; omega
    · rintro ⟨h1, h2⟩; omega
  by_cases h : x / 2 ^ k = i
  · have := e.1 h
    rw [if_pos h, if_pos (by omega)]
  · have := fun q => h (e.2 q)
    rw [if_neg h, if_neg (by omega)]
theorem riseE : ∀ {l r : List M}, Rise l → Rise r → (∀ m, m ∈ l ↔ m ∈ r) → l = r
  | [], [], _, _, _ => rfl
  | [], b :: r, _, _, h => absurd ((h b).2 (by simp)) (by simp)
  | a :: l, [], _, _, h => absurd ((h a).1 (by simp)) (by simp)
  | a :: l, b :: r, hl, hr, h => by
    have hl1 := (List.pairwise_cons.1 hl).1
    have hr1 := (List.pairwise_cons.1 hr).1
    have hab : a = b := by
      rcases List.mem_cons.1 ((h a).1 (by simp)) with e | e
      · exact e
      · rcases List.mem_cons.1 ((h b).2 (by simp)) with e2 | e2
        · exact e2.symm
        · have h1 := hl1 b e2
          have h2 := hr1 a e
          omega
    subst hab
    congr 1
    refine riseE (List.pairwise_cons.1 hl).2 (List.pairwise_cons.1 hr).2 fun m => ?_
    constructor
    · intro hm
      rcases List.mem_cons.1 ((h m).1 (by simp [hm])) with e | e
      · have := hl1 m hm
        rw [e] at this; omega
      · exact e
    · intro hm
      rcases List.mem_cons.1 ((h m).2 (by simp [hm])) with e | e
      · have := hr1 m hm
        rw [e] at this; omega
      · exact e
/-- How a heap lies tells of blocks. -/
def mkM (G : Nat) (x : Bk) : M := ⟨x.a, (Nat.log2 (x.c.toNat / G) : Nat)⟩
def cov (G : Nat) (l : List Bk) (x : Nat) : Bool := l.any fun k => decide (k.a ≤ ((x * G : Nat) : Int) ∧ ((x * G : Nat) : Int) < k.a + k.c)
def nmet (pg : Nat) (l : List Bk) (i : Nat) : Int := ((l.countP fun k => ovr (i * pg : Nat) pg k.a k.c : Nat) : Int)
structure Hb (c : Cf) (l : List Bk) (b : Nat → Bool) (m : List M) (d : List Bk) (mt : List Int) : Prop where
  b : ∀ x, x < c.H / c.G → b x = cov c.G l x
  m : m = l.map (mkM c.G)
  ds : ∀ y, getS y d = getS y l
  nd : (d.map (·.a)).Nodup
  met : mt = (List.range (c.H / c.Pg)).map (nmet c.Pg l)
theorem cov_iff {G : Nat} {l : List Bk} {x : Nat} : cov G l x = true ↔ ∃ k ∈ l, k.a ≤ ((x * G : Nat) : Int) ∧ ((x * G : Nat) : Int) < k.a + k.c := by
  simp only [cov, List.any_eq_true, decide_eq_true_eq]
theorem Cf.Ok.gH {c : Cf} (h : c.Ok) : ∃ r, c.H = c.G * 2 ^ c.L * r := by
  obtain ⟨e, he⟩ := h.p
  obtain ⟨q, hq⟩ := h.m
  have hd : ∃ r, max c.N c.Pg = c.N * r := by
    rcases Nat.le_total c.Pg c.N with h1 | h1
    · exact ⟨1, by rw [Nat.max_eq_left h1]; omega⟩
    · rw [Nat.max_eq_right h1]
      have hg := h.gpos
      have hn := h.n
      rw [hn, he] at h1 ⊢
      have h2 := Nat.le_of_mul_le_mul_left h1 (by omega)
      have h3 := (Nat.pow_le_pow_iff_right (by omega : 1 < 2)).1 h2
      exact ⟨2 ^ (e - c.L), by rw [Nat.mul_assoc, ← Nat.pow_add]; congr 2; omega⟩
  obtain ⟨r, hr⟩ := hd
  have h1 : c.M / 2 = c.N * r * q := by rw [hq, hr, show 2 * (c.N * r) * q = 2 * (c.N * r * q) by rw [Nat.mul_assoc 2]]; omega
  refine ⟨r * q * 2 + c.L * (r * q), ?_⟩
  rw [h.h, h1, hq, hr, ← h.n, Nat.mul_add]
  have e1 : 2 * (c.N * r) * q = c.N * (r * q * 2) := by simp only [Nat.mul_assoc, Nat.mul_comm, Nat.mul_left_comm]
  have e2 : c.L * (c.N * r * q) = c.N * (c.L * (r * q)) := by simp only [Nat.mul_assoc, Nat.mul_comm, Nat.mul_left_comm]
  rw [e1, e2]
theorem Cf.Ok.gG {c : Cf} (h : c.Ok) : c.H / c.G * c.G = c.H := by
  obtain ⟨r, hr⟩ := h.gH
  have := h.gpos
  rw [hr, Nat.mul_assoc, Nat.mul_div_cancel_left _ (by omega), Nat.mul_comm]
theorem Cf.Ok.H1 {c : Cf} (h : c.Ok) : 1 ≤ c.H := by
  have := h.h; have := h.m1; omega
theorem Cf.Ok.sl {c : Cf} (h : c.Ok) : SlOk (c.H / c.G) (c.L + 1) := by
  have hL := h.lL
  have hH := h.h2
  have hg := h.gpos
  have h1 := h.H1
  have hgG := h.gG
  obtain ⟨r, hr⟩ := h.gH
  refine ⟨by omega, by omega, ?_, Nat.le_trans (Nat.div_le_self _ _) hH, ?_⟩
  · rcases Nat.eq_zero_or_pos (c.H / c.G) with e | e
    · rw [e] at hgG; omega
    · exact e
  · rw [hr, Nat.mul_assoc, Nat.mul_div_cancel_left _ (by omega), Nat.add_sub_cancel, Nat.mul_mod_right]
theorem getS_mem {y : Int} : ∀ {l : List Bk} {x : Bk}, getS y l = some x → x ∈ l ∧ x.a = y
  | [], _, h => by cases h
  | z :: l, x, h => by
    unfold getS at h
    split at h
    · rename_i e; injection h with h; subst h; exact ⟨by simp, e.symm⟩
    · have := getS_mem h; exact ⟨by simp [this.1], this.2⟩
theorem getS_none {y : Int} : ∀ {l : List Bk}, getS y l = none → ∀ x ∈ l, x.a ≠ y
  | [], _, x, hx => by simp at hx
  | z :: l, h, x, hx => by
    unfold getS at h
    split at h
    · cases h
    · rename_i e
      rcases List.mem_cons.1 hx with rfl | hx
      · exact fun q => e q.symm
      · exact getS_none h x hx
theorem getS_of {y : Int} {l : List Bk} (hl : ∀ x ∈ l, ∀ z ∈ l, x.a = z.a → x = z) {x : Bk} (hx : x ∈ l) (hy : x.a = y) : getS y l = some x := by
  cases h : getS y l with
  | none => exact absurd hy (getS_none h x hx)
  | some z =>
    have := getS_mem h
    rw [hl z this.1 x hx (by rw [this.2, hy])]
theorem getS_ext {l r : List Bk} {y : Int} (hl : ∀ x ∈ l, ∀ z ∈ l, x.a = z.a → x = z) (h : ∀ x, x.a = y → (x ∈ r ↔ x ∈ l)) (hr : ∀ x ∈ r, ∀ z ∈ r, x.a = z.a → x = z) : getS y r = getS y l := by
  cases e : getS y r with
  | none =>
    cases e2 : getS y l with
    | none => rfl
    | some z =>
      have := getS_mem e2
      exact absurd this.2 (getS_none e z ((h z this.2).2 this.1))
  | some x =>
    have := getS_mem e
    exact (getS_of hl ((h x this.2).1 this.1) this.2).symm
theorem getS_set (x : Bk) (y : Int) : ∀ ds, getS y (setS x ds) = if y = x.a then some x else getS y ds
  | [] => rfl
  | z :: ds => by
    unfold setS
    split
    · rename_i e
      show (if y = x.a then some x else getS y ds) = _
      split
      · rfl
      · rename_i h
        show _ = if y = z.a then some z else getS y ds
        rw [if_neg (by rw [← e]; exact h)]
    · rename_i e
      show (if y = z.a then some z else getS y (setS x ds)) = _
      rw [getS_set x y ds]
      show _ = if y = x.a then some x else if y = z.a then some z else getS y ds
      by_cases h : y = z.a
      · rw [if_pos h, if_neg (by rw [h]; exact fun q => e q.symm), if_pos h]
      · rw [if_neg h, if_neg h]
theorem setS_keys (x : Bk) : ∀ ds, ∀ y, y ∈ (setS x ds).map (·.a) ↔ y = x.a ∨ y ∈ ds.map (·.a)
  | [], y => by simp [setS]
  | z :: ds, y => by
    unfold setS
    split
    · rename_i e
      simp only [List.map_cons, List.mem_cons, e]
      constructor
      · rintro (h | h)
        · exact .inl h
        · exact .inr (.inr h)
      · rintro (h | h | h)
        · exact .inl h
        · exact .inl h
        · exact .inr h
    · simp only [List.map_cons, List.mem_cons, setS_keys x ds y]
      constructor
      · rintro (h | h | h)
        · exact .inr (.inl h)
        · exact .inl h
        · exact .inr (.inr h)
      · rintro (h | h | h)
        · exact .inr (.inl h)
        · exact .inl h
        · exact .inr (.inr h)
theorem setS_nd (x : Bk) : ∀ {ds}, (ds.map (·.a)).Nodup → ((setS x ds).map (·.a)).Nodup
  | [], _ => by simp [setS]
  | z :: ds, h => by
    rw [List.map_cons, List.nodup_cons] at h
    unfold setS
    split
    · rename_i e
      rw [List.map_cons, List.nodup_cons, e]; exact h
    · rename_i e
      rw [List.map_cons, List.nodup_cons]
      refine ⟨fun q => ?_, setS_nd x h.2⟩
      rcases (setS_keys x ds z.a).1 q with q | q
      · exact e q.symm
      · exact h.1 q
theorem delS_keys (v : Int) : ∀ ds, ∀ y, y ∈ (delS v ds).map (·.a) → y ∈ ds.map (·.a)
  | [], y, h => h
  | z :: ds, y, h => by
    unfold delS at h
    split at h
    · simp only [List.map_cons, List.mem_cons]; exact .inr h
    · simp only [List.map_cons, List.mem_cons] at h ⊢
      rcases h with h | h
      · exact .inl h
      · exact .inr (delS_keys v ds y h)
theorem delS_nd (v : Int) : ∀ {ds}, (ds.map (·.a)).Nodup → ((delS v ds).map (·.a)).Nodup
  | [], h => h
  | z :: ds, h => by
    rw [List.map_cons, List.nodup_cons] at h
    unfold delS
    split
    · exact h.2
    · rw [List.map_cons, List.nodup_cons]
      exact ⟨fun q => h.1 (delS_keys v ds _ q), delS_nd v h.2⟩
theorem getS_key {y : Int} : ∀ {ds}, y ∉ ds.map (·.a) → getS y ds = none
  | [], _ => rfl
  | z :: ds, h => by
    simp only [List.map_cons, List.mem_cons, not_or] at h
    unfold getS
    rw [if_neg h.1]; exact getS_key h.2
theorem getS_del (v y : Int) : ∀ {ds}, (ds.map (·.a)).Nodup → getS y (delS v ds) = if y = v then none else getS y ds
  | [], _ => by
    show none = _
    split <;> rfl
  | z :: ds, h => by
    rw [List.map_cons, List.nodup_cons] at h
    unfold delS
    split
    · rename_i e
      split
      · rename_i e2; rw [e2, e]; exact getS_key h.1
      · rename_i e2
        show _ = if y = z.a then some z else getS y ds
        rw [if_neg (by rw [← e]; exact e2)]
    · rename_i e
      show (if y = z.a then some z else getS y (delS v ds)) = if y = v then none else if y = z.a then some z else getS y ds
      rw [getS_del v y h.2]
      by_cases h2 : y = z.a
      · rw [if_pos h2, if_pos h2, if_neg (by rw [h2]; exact fun q => e q.symm)]
      · rw [if_neg h2, if_neg h2]
theorem ApB.inj {H : Nat} {l : List Bk} (h : ApB H l) : ∀ x ∈ l, ∀ z ∈ l, x.a = z.a → x = z := by
  obtain ⟨hp, hb⟩ := h
  induction l with
  | nil => intro x hx; simp at hx
  | cons w l ih =>
    rw [List.pairwise_cons] at hp
    intro x hx z hz e
    have hw := hb w (by simp)
    rcases List.mem_cons.1 hx with h1 | h1
    · rcases List.mem_cons.1 hz with h2 | h2
      · rw [h1, h2]
      · have := hp.1 z h2; rw [h1] at e; omega
    · rcases List.mem_cons.1 hz with h2 | h2
      · have := hp.1 x h1; rw [h2] at e; omega
      · exact ih hp.2 (fun y hy => hb y (by simp [hy])) x h1 z h2 e
theorem ApB.apart {H : Nat} {l : List Bk} (h : ApB H l) : ∀ x ∈ l, ∀ z ∈ l, x ≠ z → x.a + x.c ≤ z.a ∨ z.a + z.c ≤ x.a := by
  obtain ⟨hp, hb⟩ := h
  induction l with
  | nil => intro x hx; simp at hx
  | cons w l ih =>
    rw [List.pairwise_cons] at hp
    intro x hx z hz e
    rcases List.mem_cons.1 hx with h1 | h1
    · rcases List.mem_cons.1 hz with h2 | h2
      · exact absurd (h1.trans h2.symm) e
      · rw [h1]; exact .inl (hp.1 z h2)
    · rcases List.mem_cons.1 hz with h2 | h2
      · rw [h2]; exact .inr (hp.1 x h1)
      · exact ih hp.2 (fun y hy => hb y (by simp [hy])) x h1 z h2 e
theorem ApB.rise {H G : Nat} {l : List Bk} (h : ApB H l) : Rise (l.map (mkM G)) := by
  unfold Rise
  rw [List.pairwise_map]
  refine List.Pairwise.imp_of_mem ?_ h.p
  intro x z hx hz e
  have := h.b x hx
  show x.a < z.a
  omega
theorem nmet_bd (pg : Nat) (l : List Bk) (i : Nat) : 0 ≤ nmet pg l i ∧ nmet pg l i ≤ l.length := by
  unfold nmet
  have := List.countP_le_length (p := fun k : Bk => ovr (i * pg : Nat) pg k.a k.c) (l := l)
  omega
theorem met_get (pg n : Nat) (l : List Bk) (i : Nat) : -100000 ≤ ((List.range n).map (nmet pg l)).getD i 0 ∧ ((List.range n).map (nmet pg l)).getD i 0 ≤ max 0 l.length := by
  rw [List.getD_eq_getElem?_getD]
  by_cases h : i < n
  · have := nmet_bd pg l i
    rw [List.getElem?_eq_getElem (by simpa using h)]
    simp; omega
  · rw [List.getElem?_eq_none (by simpa using h)]
    simp
/-- What is needed of a heap is so. -/
theorem Hb.ok {c : Cf} {l : List Bk} {s : Hs} (hc : c.Ok) (ha : ApB c.H l) (hz : ∀ x ∈ l, SzB c x) (h : Hb c l s.b s.m s.ds s.met) (ho : s.on.length = c.H / c.Pg) (hm : s.mem.length = c.H) (hl : 0 ≤ s.live ∧ s.live ≤ 100000) : HsOk c (c.H / c.G) (c.L + 1) s := by
  have hH := hc.h2
  have hlen := ha.len
  have hml : s.met.length = c.H / c.Pg := by rw [h.met]; simp
  obtain ⟨k, hk⟩ := hc.pgH
  have hp1 := hc.pgpos
  have hg := hc.gpos
  refine ⟨hc, rfl, rfl, ⟨hc.sl, hc.gpos, by rw [hc.gG]; exact hH, ?_, ?_, ?_⟩, fun x n h1 h2 => ?_, hp1, hml, fun i => ?_, by rw [ho, hml], hm, fun p i hp hi => ?_, hl⟩
  · rw [h.m]; exact ha.rise
  · intro m hm
    rw [h.m] at hm
    obtain ⟨x, hx, rfl⟩ := List.mem_map.1 hm
    obtain ⟨k, hk, hk2, _⟩ := hz x hx
    have hb := ha.b x hx
    have : Nat.log2 (x.c.toNat / c.G) = k := by rw [hk2, Int.toNat_natCast, Nat.mul_div_cancel_left _ (by omega), Nat.log2_two_pow]
    refine ⟨by simp [mkM], ?_, hb.1, ?_⟩
    · show ((Nat.log2 (x.c.toNat / c.G) : Nat) : Int) < _
      rw [this]; omega
    · show x.a ≤ 65536
      omega
  · rw [h.m]; simp; omega
  · rw [hml]; exact (hc.pages h1 h2).2
  · have := met_get c.Pg (c.H / c.Pg) l i
    rw [← h.met] at this
    omega
  · rw [hml, hk, Nat.mul_div_cancel_left _ (by omega)] at hp
    have : (p + 1) * c.Pg ≤ k * c.Pg := Nat.mul_le_mul_right _ (by omega)
    rw [hk, Nat.mul_comm c.Pg k]
    rw [Nat.add_mul] at this
    omega
end Go.Ev.W
namespace Go.Ev.W
open Go.Ev Go.Ev.N

/-- Where a class's place is free. -/
theorem Hb.free {c : Cf} {l : List Bk} {b : Nat → Bool} {m : List M} {ds : List Bk} {met : List Int} (hc : c.Ok) (ha : ApB c.H l) (hz : ∀ x ∈ l, SzB c x) (h : Hb c l b m ds met) {k i : Nat} (hk : k ≤ c.L) (hi : i < c.H / c.G / 2 ^ k) : upB b k i = false ↔ freeAt l (c.G * 2 ^ k : Nat) ((i * (c.G * 2 ^ k) : Nat) : Int) = true := by
  have hg := hc.gpos
  have hgG := hc.gG
  have hsz := (hc.sl.sz (k := k) (by omega)).2.2
  have hp : 0 < 2 ^ k := Nat.two_pow_pos k
  have hin : ∀ x, x / 2 ^ k = i → x < c.H / c.G := fun x hx => by
    rw [Nat.div_eq_iff hp] at hx
    have : (i + 1) * 2 ^ k ≤ c.H / c.G / 2 ^ k * 2 ^ k := Nat.mul_le_mul_right _ (by omega)
    rw [hsz, Nat.add_mul] at this
    omega
  rw [← Bool.not_eq_true, upB_true, freeAt_iff]
  have hn : i * (c.G * 2 ^ k) = i * 2 ^ k * c.G := by rw [Nat.mul_assoc, Nat.mul_comm c.G]
  rw [hn]
  constructor
  · intro hu x hx hq
    refine hu ?_
    obtain ⟨j, hj, hj2, hj3, _⟩ := hz x hx
    have hb := ha.b x hx
    obtain ⟨t, ht⟩ := Int.dvd_of_emod_eq_zero hj3
    have ht0 : 0 ≤ t := by
      rcases Int.lt_or_le t 0 with h' | h'
      · have : x.c * t ≤ x.c * (-1) := Int.mul_le_mul_of_nonneg_left (by omega) (by omega)
        omega
      · exact h'
    obtain ⟨t, rfl⟩ : ∃ n : Nat, t = n := ⟨t.toNat, by omega⟩
    have hA : x.a = ((t * 2 ^ j * c.G : Nat) : Int) := by
      rw [ht, hj2, ← Int.natCast_mul, Nat.mul_comm (c.G * 2 ^ j), Nat.mul_comm c.G, Nat.mul_assoc]
    have hC : x.c = ((2 ^ j * c.G : Nat) : Int) := by rw [hj2, Nat.mul_comm]
    have hp2 : 0 < 2 ^ j := Nat.two_pow_pos j
    have hnn : c.G * 2 ^ k = 2 ^ k * c.G := Nat.mul_comm _ _
    rw [hnn, hA, hC] at hq
    have q1 : i * 2 ^ k < t * 2 ^ j + 2 ^ j := by
      have : i * 2 ^ k * c.G < (t * 2 ^ j + 2 ^ j) * c.G := by rw [Nat.add_mul]; omega
      exact Nat.lt_of_mul_lt_mul_right this
    have q2 : t * 2 ^ j < i * 2 ^ k + 2 ^ k := by
      have : t * 2 ^ j * c.G < (i * 2 ^ k + 2 ^ k) * c.G := by rw [Nat.add_mul]; omega
      exact Nat.lt_of_mul_lt_mul_right this
    have e1 : max (t * 2 ^ j) (i * 2 ^ k) / 2 ^ k = i := by rw [Nat.div_eq_iff hp]; omega
    refine ⟨_, e1, ?_⟩
    rw [h.b _ (hin _ e1), cov_iff]
    refine ⟨x, hx, ?_, ?_⟩
    · rw [hA]
      have : t * 2 ^ j * c.G ≤ max (t * 2 ^ j) (i * 2 ^ k) * c.G := Nat.mul_le_mul_right _ (Nat.le_max_left _ _)
      omega
    · rw [hA, hC, ← Int.natCast_add, ← Nat.add_mul]
      have : max (t * 2 ^ j) (i * 2 ^ k) * c.G < (t * 2 ^ j + 2 ^ j) * c.G := Nat.mul_lt_mul_of_pos_right (by omega) (by omega)
      omega
  · rintro hf ⟨x, hx, hbx⟩
    rw [h.b _ (hin _ hx), cov_iff] at hbx
    obtain ⟨z, hz1, hz2, hz3⟩ := hbx
    rw [Nat.div_eq_iff hp] at hx
    refine hf z hz1 ?_
    have q1 : i * 2 ^ k * c.G ≤ x * c.G := Nat.mul_le_mul_right _ (by omega)
    have q2 : x * c.G < (i * 2 ^ k + 2 ^ k) * c.G := Nat.mul_lt_mul_of_pos_right (by omega) (by omega)
    rw [Nat.add_mul, Nat.mul_comm (2 ^ k) c.G] at q2
    omega
theorem lowGo_none {l : List Bk} {n : Nat} : ∀ (f k : Nat), (∀ j, k ≤ j → j < k + f → freeAt l n ((j * n : Nat) : Int) = false) → lowGo l n f k = (0, false)
  | 0, _, _ => rfl
  | f + 1, k, h => by
    unfold lowGo
    rw [if_neg (by rw [h k (Nat.le_refl _) (by omega)]; simp)]
    exact lowGo_none f (k + 1) fun j h1 h2 => h j (by omega) (by omega)
theorem lowGo_some {l : List Bk} {n : Nat} : ∀ (f k i : Nat), k ≤ i → i < k + f → (∀ j, k ≤ j → j < i → freeAt l n ((j * n : Nat) : Int) = false) → freeAt l n ((i * n : Nat) : Int) = true → lowGo l n f k = (i * n, true)
  | 0, k, i, h1, h2, _, _ => by omega
  | f + 1, k, i, h1, h2, h3, h4 => by
    unfold lowGo
    by_cases e : k = i
    · subst e; rw [if_pos h4]
    · rw [if_neg (by rw [h3 k (Nat.le_refl _) (by omega)]; simp)]
      exact lowGo_some f (k + 1) i (by omega) (by omega) (fun j a b => h3 j (by omega) b) h4
/-- The lowest place is the plain one's. -/
theorem Hb.low {c : Cf} {l : List Bk} {b : Nat → Bool} {m : List M} {ds : List Bk} {met : List Int} (hc : c.Ok) (ha : ApB c.H l) (hz : ∀ x ∈ l, SzB c x) (h : Hb c l b m ds met) {k : Nat} (hk : k ≤ c.L) :
    lowF c l (c.G * 2 ^ k) = match lowS (c.H / c.G) (c.L + 1) b k with | some i => (i * (c.G * 2 ^ k), true) | none => (0, false) := by
  have hdd : c.H / (c.G * 2 ^ k) = c.H / c.G / 2 ^ k := (Nat.div_div_eq_div_mul _ _ _).symm
  have hsz := hc.sl.sz (k := k) (by omega)
  have hfr := fun i (hi : i < c.H / c.G / 2 ^ k) => h.free hc ha hz hk hi
  unfold lowS lowF
  rw [if_pos (by omega), Int.toNat_natCast, hdd]
  rcases firI_spec (n := c.H / c.G / 2 ^ k) (b := upB b k) (f := 0) (by omega) with ⟨h2, h3⟩ | ⟨i, h2, _, h4, h5, h6⟩
  · have h2 : firI (c.H / c.G / 2 ^ k) (upB b k) 0 = none := h2
    rw [h2]
    refine lowGo_none _ _ fun j _ hj => ?_
    rw [← Bool.not_eq_true, ← hfr j (by omega), h3 j (by omega) (by omega)]; simp
  · have h2 : firI (c.H / c.G / 2 ^ k) (upB b k) 0 = some i := h2
    rw [h2]
    refine lowGo_some _ _ i (by omega) (by omega) (fun j _ hj => ?_) ((hfr i h4).1 h5)
    rw [← Bool.not_eq_true, ← hfr j (by omega), h6 j (by omega) hj]; simp
theorem ovr_pg {pg i y n : Nat} (hp : 1 ≤ pg) (hn : 1 ≤ n) : ovr (i * pg : Nat) pg y n = decide (y / pg ≤ i ∧ i < (y + n - 1) / pg + 1) := by
  unfold ovr
  refine decide_eq_decide.2 ?_
  have h1 := Nat.div_le_iff_le_mul_add_pred (a := y) (c := i) (b := pg) (by omega)
  have h2 := Nat.le_div_iff_mul_le (k := pg) (x := i) (y := y + n - 1) (by omega)
  rw [h1]
  have h3 : i < (y + n - 1) / pg + 1 ↔ i * pg ≤ y + n - 1 := by rw [← h2]; omega
  rw [h3, Nat.mul_comm pg i]
  constructor
  · rintro ⟨a, b⟩; omega
  · rintro ⟨a, b⟩; omega
theorem metA_rel {c : Cf} {l l' : List Bk} (hc : c.Ok) {y n : Nat} {v : Int} (hn : 1 ≤ n) (h : ∀ i, nmet c.Pg l' i = nmet c.Pg l i + if ovr (i * c.Pg : Nat) c.Pg y n = true then v else 0) :
    metA ((List.range (c.H / c.Pg)).map (nmet c.Pg l)) (y / c.Pg) ((y + n - 1) / c.Pg + 1) v = (List.range (c.H / c.Pg)).map (nmet c.Pg l') := by
  apply List.ext_getElem (by simp [metA])
  intro i h1 h2
  have hi : i < c.H / c.Pg := by simpa using h2
  simp only [metA, List.getElem_map, List.getElem_range]
  have hg : ((List.range (c.H / c.Pg)).map (nmet c.Pg l)).getD i 0 = nmet c.Pg l i := by rw [List.getD_eq_getElem?_getD, List.getElem?_eq_getElem (by simpa using hi)]; simp
  rw [hg, h i, ovr_pg hc.pgpos hn]
  by_cases hq : y / c.Pg ≤ i ∧ i < (y + n - 1) / c.Pg + 1
  · rw [if_pos hq, if_pos (by rw [decide_eq_true hq])]
  · rw [if_neg hq, if_neg (by rw [decide_eq_false hq]; simp)]; omega
theorem nmet_put (pg : Nat) (l : List Bk) (x : Bk) (i : Nat) : nmet pg (putB l x) i = nmet pg l i + if ovr (i * pg : Nat) pg x.a x.c = true then 1 else 0 := by
  unfold nmet putB
  conv => rhs; rw [show l = l.take (lowB x.a l) ++ l.drop (lowB x.a l) from (List.take_append_drop _ _).symm]
  simp only [List.countP_append, List.countP_cons]
  split <;> omega
theorem nmet_drop (pg : Nat) {l : List Bk} {j : Nat} (hj : j < l.length) (i : Nat) : nmet pg (dropB l j) i = nmet pg l i + if ovr (i * pg : Nat) pg l[j].a l[j].c = true then -1 else 0 := by
  unfold nmet dropB
  have e : l = l.take j ++ (l[j] :: l.drop (j + 1)) := by rw [← List.drop_eq_getElem_cons hj, List.take_append_drop]
  have e2 : l.countP (fun k => ovr (i * pg : Nat) pg k.a k.c) = (l.take j ++ (l[j] :: l.drop (j + 1))).countP (fun k => ovr (i * pg : Nat) pg k.a k.c) := by rw [← e]
  rw [e2]
  simp only [List.countP_append, List.countP_cons]
  split <;> omega
/-- A block is placed. -/
theorem Hb.put {c : Cf} {l : List Bk} {b : Nat → Bool} {m : List M} {ds : List Bk} {met : List Int} (hc : c.Ok) (ha : ApB c.H l) (hz : ∀ x ∈ l, SzB c x) (h : Hb c l b m ds met) {k i : Nat} (hk : k ≤ c.L) (hi : lowS (c.H / c.G) (c.L + 1) b k = some i) (q : Int) :
    Hb c (putB l ⟨(i * (c.G * 2 ^ k) : Nat), (c.G * 2 ^ k : Nat), q⟩) (placeB (c.H / c.G) (c.L + 1) b k) (placeL c.G (c.H / c.G) (c.L + 1) b m k) (setS ⟨(i * (c.G * 2 ^ k) : Nat), (c.G * 2 ^ k : Nat), q⟩ ds) (metA met ((i * (c.G * 2 ^ k)) / c.Pg) ((i * (c.G * 2 ^ k) + c.G * 2 ^ k - 1) / c.Pg + 1) 1) := by
  obtain ⟨k', ek, hkc, hik, hup, _⟩ := lowS_lt hc.sl hi
  have ek : k' = k := by omega
  subst ek
  have hg := hc.gpos
  have hgG := hc.gG
  have hH := hc.h2
  have hp : 0 < 2 ^ k' := Nat.two_pow_pos _
  have hf := (h.free hc ha hz (by omega) hik).1 hup
  have hbd := sz_bound hc.sl (G := c.G) (by rw [hgG]; exact hH) hkc hik
  have hn : i * (c.G * 2 ^ k') = i * 2 ^ k' * c.G := by rw [Nat.mul_assoc, Nat.mul_comm c.G]
  have hn1 : 1 ≤ c.G * 2 ^ k' := Nat.mul_pos (by omega) (by omega)
  have hnH : i * (c.G * 2 ^ k') + c.G * 2 ^ k' ≤ c.H := by
    have : (i * 2 ^ k' + 2 ^ k') * c.G ≤ c.H / c.G * c.G := Nat.mul_le_mul_right _ hbd.1
    rw [hgG, Nat.add_mul, Nat.mul_comm (2 ^ k')] at this
    omega
  obtain ⟨p1, p2, p3, p4⟩ := putB_ok ha (b := ⟨(i * (c.G * 2 ^ k') : Nat), (c.G * 2 ^ k' : Nat), q⟩) hf ⟨by simp only; omega, by simp only; omega, by simp only; omega⟩
  rw [freeAt_iff] at hf
  refine ⟨fun x hx => ?_, ?_, fun y => ?_, setS_nd _ h.nd, ?_⟩
  · unfold placeB
    rw [hi]
    simp only [Int.toNat_natCast]
    rw [setZc]
    apply Bool.eq_iff_iff.2
    rw [cov_iff]
    have hcell : x / 2 ^ k' = i ↔ (((i * (c.G * 2 ^ k') : Nat) : Int) ≤ ((x * c.G : Nat) : Int) ∧ ((x * c.G : Nat) : Int) < ((i * (c.G * 2 ^ k') : Nat) : Int) + ((c.G * 2 ^ k' : Nat) : Int)) := by
      rw [Nat.div_eq_iff hp, hn]
      have a1 : i * 2 ^ k' ≤ x ↔ i * 2 ^ k' * c.G ≤ x * c.G := ⟨fun h => Nat.mul_le_mul_right _ h, fun h => Nat.le_of_mul_le_mul_right h (by omega)⟩
      have a2 : x < i * 2 ^ k' + 2 ^ k' ↔ x * c.G < (i * 2 ^ k' + 2 ^ k') * c.G := ⟨fun h => Nat.mul_lt_mul_of_pos_right h (by omega), fun h => Nat.lt_of_mul_lt_mul_right h⟩
      rw [Nat.add_mul, Nat.mul_comm (2 ^ k') c.G] at a2
      omega
    by_cases e : x / 2 ^ k' = i
    · rw [if_pos e]
      exact ⟨fun _ => ⟨_, (p2 _).2 (.inl rfl), hcell.1 e⟩, fun _ => rfl⟩
    · rw [if_neg e, h.b x hx, cov_iff]
      constructor
      · rintro ⟨z, h1, h2⟩
        exact ⟨z, (p2 z).2 (.inr h1), h2⟩
      · rintro ⟨z, h1, h2⟩
        rcases (p2 z).1 h1 with rfl | h1
        · exact absurd (hcell.2 h2) e
        · exact ⟨z, h1, h2⟩
  · have hr : Rise m := by rw [h.m]; exact ha.rise
    unfold placeL
    rw [hi]
    simp only [Int.toNat_natCast]
    refine riseE (rise_put hr _) p1.rise fun w => ?_
    rw [mem_putM hr]
    have hnew : mkM c.G ⟨((i * (c.G * 2 ^ k') : Nat) : Int), ((c.G * 2 ^ k' : Nat) : Int), q⟩ = ⟨((i * 2 ^ k' * c.G : Nat) : Int), (k' : Nat)⟩ := by
      unfold mkM
      simp only [Int.toNat_natCast]
      rw [Nat.mul_div_cancel_left _ (by omega), Nat.log2_two_pow, hn]
    constructor
    · rintro (rfl | ⟨h1, h2⟩)
      · exact List.mem_map.2 ⟨_, (p2 _).2 (.inl rfl), hnew⟩
      · rw [h.m] at h1
        obtain ⟨z, hz1, rfl⟩ := List.mem_map.1 h1
        exact List.mem_map.2 ⟨z, (p2 z).2 (.inr hz1), rfl⟩
    · intro hw
      obtain ⟨z, hz1, rfl⟩ := List.mem_map.1 hw
      rcases (p2 z).1 hz1 with rfl | hz1
      · exact .inl hnew
      · refine .inr ⟨by rw [h.m]; exact List.mem_map.2 ⟨z, hz1, rfl⟩, fun e => ?_⟩
        have e : z.a = ((i * 2 ^ k' * c.G : Nat) : Int) := e
        have hb := ha.b z hz1
        refine hf z hz1 ⟨?_, ?_⟩
        · rw [e, hn]; omega
        · rw [e, hn]; omega
  · rw [getS_set, h.ds]
    simp only
    split
    · rename_i e
      exact (getS_of p1.inj ((p2 _).2 (.inl rfl)) e.symm).symm
    · rename_i e
      refine getS_ext p1.inj (fun x hx => ?_) ha.inj
      rw [p2]
      constructor
      · exact fun h => .inr h
      · rintro (rfl | h)
        · exact absurd hx.symm e
        · exact h
  · rw [h.met]
    refine metA_rel hc hn1 fun i' => ?_
    exact nmet_put _ _ _ _
theorem mem_dropB {l : List Bk} {j : Nat} (hj : j < l.length) (hp : ∀ x ∈ l, ∀ z ∈ l, x.a = z.a → x = z) (hn : l.Pairwise fun x z => x.a ≠ z.a) (x : Bk) : x ∈ dropB l j ↔ x ∈ l ∧ x.a ≠ l[j].a := by
  have e : l = l.take j ++ (l[j] :: l.drop (j + 1)) := by rw [← List.drop_eq_getElem_cons hj, List.take_append_drop]
  have e2 : x ∈ l ↔ x ∈ l.take j ∨ x = l[j] ∨ x ∈ l.drop (j + 1) := by
    conv => lhs; rw [e]
    rw [List.mem_append, List.mem_cons]
  have hn2 := hn
  rw [e] at hn2
  obtain ⟨n1, n2, n3⟩ := List.pairwise_append.1 hn2
  unfold dropB
  rw [List.mem_append, e2]
  constructor
  · rintro (h | h)
    · exact ⟨.inl h, n3 x h l[j] (List.mem_cons.2 (.inl rfl))⟩
    · exact ⟨.inr (.inr h), fun q => (List.pairwise_cons.1 n2).1 x h q.symm⟩
  · rintro ⟨h | h | h, h2⟩
    · exact .inl h
    · rw [h] at h2; exact absurd rfl h2
    · exact .inr h
theorem ApB.ne {H : Nat} {l : List Bk} (h : ApB H l) : l.Pairwise fun x z => x.a ≠ z.a := by
  refine List.Pairwise.imp_of_mem ?_ h.p
  intro x z hx hz e
  have := h.b x hx
  omega
/-- A block goes. -/
theorem Hb.drop {c : Cf} {l : List Bk} {b : Nat → Bool} {m : List M} {ds : List Bk} {met : List Int} (hc : c.Ok) (ha : ApB c.H l) (hz : ∀ x ∈ l, SzB c x) (h : Hb c l b m ds met) {j : Nat} (hj : j < l.length) {y n : Nat} (hy : l[j].a = y) (hn : l[j].c = n) :
    Hb c (dropB l j) (relB c.G b m y) (relL m y) (delS y ds) (metA met (y / c.Pg) ((y + n - 1) / c.Pg + 1) (-1)) := by
  have hr : Rise m := by rw [h.m]; exact ha.rise
  have hg := hc.gpos
  have hx := List.getElem_mem hj
  obtain ⟨k, hk, hk2, hk3, _⟩ := hz _ hx
  have hb := ha.b _ hx
  have hcl : mkM c.G l[j] = ⟨(y : Int), (k : Nat)⟩ := by
    unfold mkM
    rw [hy, hk2, Int.toNat_natCast, Nat.mul_div_cancel_left _ (by omega), Nat.log2_two_pow]
  have hmem : (⟨(y : Int), (k : Nat)⟩ : M) ∈ m := by rw [h.m, ← hcl]; exact List.mem_map.2 ⟨_, hx, rfl⟩
  obtain ⟨q1, q2⟩ := (cls_mem hr).2 hmem
  have hnk : n = c.G * 2 ^ k := by rw [hn] at hk2; exact_mod_cast hk2
  have hp : 0 < 2 ^ k := Nat.two_pow_pos _
  have hdv : y = y / c.G * c.G := by
    have hd : (y : Int) % ((n : Nat) : Int) = 0 := by rw [← hy, ← hn]; exact hk3
    have hd : y % n = 0 := by exact_mod_cast hd
    have : c.G ∣ y := Nat.dvd_trans ⟨2 ^ k, hnk⟩ (Nat.dvd_of_mod_eq_zero hd)
    exact (Nat.div_mul_cancel this).symm
  have hmd := mem_dropB hj ha.inj ha.ne
  rw [hy] at hmd
  refine ⟨fun x hxg => ?_, ?_, fun z => ?_, delS_nd _ h.nd, ?_⟩
  · unfold relB
    rw [q1, if_pos rfl, q2]
    simp only [Int.toNat_natCast]
    unfold setZ
    generalize y / c.G = u at *
    have hcell : (0 ≤ ((u : Nat) : Int) ∧ ((u : Nat) : Int) ≤ x ∧ (x : Int) < ((u : Nat) : Int) + ((2 ^ k : Nat) : Int)) ↔ ((y : Int) ≤ ((x * c.G : Nat) : Int) ∧ ((x * c.G : Nat) : Int) < (y : Int) + (n : Int)) := by
      have a1 : u ≤ x ↔ u * c.G ≤ x * c.G := ⟨fun h => Nat.mul_le_mul_right _ h, fun h => Nat.le_of_mul_le_mul_right h (by omega)⟩
      have a2 : x < u + 2 ^ k ↔ x * c.G < (u + 2 ^ k) * c.G := ⟨fun h => Nat.mul_lt_mul_of_pos_right h (by omega), fun h => Nat.lt_of_mul_lt_mul_right h⟩
      rw [← hdv] at a1
      rw [Nat.add_mul, ← hdv, Nat.mul_comm (2 ^ k) c.G, ← hnk] at a2
      omega
    apply Bool.eq_iff_iff.2
    rw [cov_iff]
    by_cases e : (0 ≤ ((u : Nat) : Int) ∧ ((u : Nat) : Int) ≤ x ∧ (x : Int) < ((u : Nat) : Int) + ((2 ^ k : Nat) : Int))
    · rw [if_pos e]
      refine ⟨fun q => (by cases q), ?_⟩
      rintro ⟨z, hz1, hz2, hz3⟩
      obtain ⟨hz1, hz4⟩ := (hmd z).1 hz1
      have := hcell.1 e
      have hzb := ha.b z hz1
      rcases ha.apart z hz1 _ hx (fun q => hz4 (by rw [q, hy])) with q | q <;> omega
    · rw [if_neg e, h.b x hxg, cov_iff]
      constructor
      · rintro ⟨z, hz1, hz2⟩
        refine ⟨z, (hmd z).2 ⟨hz1, fun q => e (hcell.2 ?_)⟩, hz2⟩
        have : z = l[j] := ha.inj z hz1 _ hx (by rw [q, hy])
        rw [this, hy, hn] at hz2
        exact hz2
      · rintro ⟨z, hz1, hz2⟩
        exact ⟨z, ((hmd z).1 hz1).1, hz2⟩
  · unfold relL
    rw [q1, if_pos rfl]
    refine riseE (rise_take hr _) (ha.sub (dropB_sub l j)).rise fun w => ?_
    rw [mem_takeM hr q1, h.m]
    constructor
    · rintro ⟨h1, h2⟩
      obtain ⟨z, hz1, rfl⟩ := List.mem_map.1 h1
      exact List.mem_map.2 ⟨z, (hmd z).2 ⟨hz1, h2⟩, rfl⟩
    · intro hw
      obtain ⟨z, hz1, rfl⟩ := List.mem_map.1 hw
      have := (hmd z).1 hz1
      exact ⟨List.mem_map.2 ⟨z, this.1, rfl⟩, this.2⟩
  · rw [getS_del _ _ h.nd, h.ds]
    split
    · rename_i e
      cases e2 : getS z (dropB l j) with
      | none => rfl
      | some w =>
        have := getS_mem e2
        exact absurd (by rw [this.2, e]) ((hmd w).1 this.1).2
    · rename_i e
      refine getS_ext (ha.sub (dropB_sub l j)).inj (fun x hx => ?_) ha.inj
      rw [hmd]
      exact ⟨fun h => ⟨h, by rw [hx]; exact e⟩, fun h => h.1⟩
  · rw [h.met]
    refine metA_rel hc (by omega) fun i' => ?_
    rw [nmet_drop _ hj, hy, hn]
/-- What went is back again. -/
theorem Hb.undo {c : Cf} {l : List Bk} {b : Nat → Bool} {m : List M} {ds : List Bk} {met : List Int} (hc : c.Ok) (ha : ApB c.H l) (h : Hb c l b m ds met) {j : Nat} (hj : j < l.length) {y n : Nat} {q : Int} (hy : l[j] = ⟨y, n, q⟩) (hn : 1 ≤ n) :
    Hb c l b m (setS ⟨y, n, q⟩ (delS y ds)) (metA (metA met (y / c.Pg) ((y + n - 1) / c.Pg + 1) (-1)) (y / c.Pg) ((y + n - 1) / c.Pg + 1) 1) := by
  refine ⟨h.b, h.m, fun z => ?_, setS_nd _ (delS_nd _ h.nd), ?_⟩
  · rw [getS_set, getS_del _ _ h.nd, h.ds]
    simp only
    split
    · rename_i e
      exact (getS_of ha.inj (by rw [← hy]; exact List.getElem_mem hj) e.symm).symm
    · rfl
  · rw [h.met, metA_rel (l' := dropB l j) hc hn fun i' => by rw [nmet_drop _ hj, hy]]
    refine metA_rel hc hn fun i' => ?_
    rw [nmet_drop _ hj, hy]
    split <;> omega
end Go.Ev.W
namespace Go.Ev.W
open Go.Ev Go.Ev.N

def newH (c : Cf) : Hs := ⟨offB, [], 0, 0, 0, List.replicate (c.H / c.Pg) false, [], List.replicate (c.H / c.Pg) 0, List.replicate c.H 0⟩
set_option maxRecDepth 20000 in
set_option maxHeartbeats 4000000 in
theorem hpNew_told (r : Rw) (h : (ofF r).2 = 0) : Told P T heap_New [] [eR r] (.tup [.ptr 0 0 0, i64 0]) (hsL (ofF r).1 ((ofF r).1.H / (ofF r).1.G) ((ofF r).1.L + 1) (newH (ofF r).1) ++ [.fz t_bool ((List.replicate ((ofF r).1.H / (ofF r).1.Pg) false).map .bool)]) := by
  have c1 := confOf_told r
  have hok := (ofF_ok h).1
  have hH := hok.h2
  have hg := hok.gpos
  have hp := hok.pgpos
  have hdiv : (((ofF r).1.H : Nat) : Int).tdiv ((ofF r).1.Pg : Nat) = (((ofF r).1.H / (ofF r).1.Pg : Nat) : Int) := Int.ofNat_tdiv _ _
  have hdiv2 : (((ofF r).1.H : Nat) : Int).tdiv ((ofF r).1.G : Nat) = (((ofF r).1.H / (ofF r).1.G : Nat) : Int) := Int.ofNat_tdiv _ _
  have hle := Nat.div_le_self (ofF r).1.H (ofF r).1.Pg
  have hle2 := Nat.div_le_self (ofF r).1.H (ofF r).1.G
  have hL := hok.lL
  have hGH : (ofF r).1.G ≤ (ofF r).1.H := by
    have h1 := hok.n; have h2 := hok.nM; have h3 := hok.h
    have : (ofF r).1.G * 1 ≤ (ofF r).1.G * 2 ^ (ofF r).1.L := Nat.mul_le_mul_left _ (Nat.one_le_two_pow)
    omega
  have c2 := plNew_told (ofF r).1.G (((ofF r).1.H / (ofF r).1.G : Nat) : Int) (((ofF r).1.L : Nat) + 1) (by omega) (by generalize (ofF r).1.H / (ofF r).1.G = u at *; omega) (by omega)
  have hnw : NwOk ((ofF r).1.G : Nat) (((ofF r).1.H / (ofF r).1.G : Nat) : Int) (((ofF r).1.L : Nat) + 1) := by
    have hsl := hok.sl.int
    obtain ⟨a, ha⟩ := hok.g
    refine ⟨⟨by omega, by omega, ?_⟩, hsl, ?_⟩
    · rw [Int.toNat_natCast, ha, Nat.log2_two_pow]
    · rw [Int.toNat_natCast]
      have : (ofF r).1.H / (ofF r).1.G ≤ 65536 / (ofF r).1.G := Nat.div_le_div_right hH
      omega
  rw [show nwE ((ofF r).1.G : Nat) (((ofF r).1.H / (ofF r).1.G : Nat) : Int) (((ofF r).1.L : Nat) + 1) = eE (ofF r).1.G ((ofF r).1.H / (ofF r).1.G) ((ofF r).1.L + 1) offB [] by unfold nwE; rw [if_pos hnw]; simp only [Int.toNat_natCast]; rfl, decide_eq_true hnw] at c2
  have hz1 : ∀ n : Nat, List.replicate ((n : Nat) : Int).toNat (zeroE T t_int) = (List.replicate n (0 : Int)).map i64 := fun n => by rw [Int.toNat_natCast, List.map_replicate]; rfl
  have hz2 : ∀ n : Nat, List.replicate ((n : Nat) : Int).toNat (zeroE T t_bool) = (List.replicate n false).map AV.bool := fun n => by rw [Int.toNat_natCast, List.map_replicate]; rfl
  have hz3 : ∀ n : Nat, List.replicate ((n : Nat) : Int).toNat (zeroE T t_uint8) = (List.replicate n 0).map u8 := fun n => by rw [Int.toNat_natCast, List.map_replicate]; rfl
  rw [h] at c1
  unfold hsL newH
  generalize (ofF r).1 = c at *
  generalize c.H / c.G = g at *
  generalize hnp : c.H / c.Pg = np at *
  refine Told.cell (b := 0) (j := 16) (L' := [.var (.agg [i64 c.G, i64 c.N, i64 c.M, i64 c.L, i64 c.Pg, i64 c.P, i64 c.H, i64 c.Sd, i64 c.G, .lst t_api_Tree (tL g (c.L + 1) offB), .lst t_api_Mark [], .mp 1, i64 0, i64 0, i64 0, .ref 2, .ref 4, .ref 3]), .map t_heap_start [], .row t_int ((List.replicate np (0 : Int)).map i64), .row t_uint8 ((List.replicate c.H 0).map u8), .row t_bool ((List.replicate np false).map .bool)]) ?_ ?_
  · unfold eR eC eE at *
    refine told_of_ev (fn := heap_New_fn) tabOk mixed (by kernel_rfl) (by kernel_rfl) (by kernel_rfl) (by kernel_rfl) ?_
    (refine gw ?_; refine Choice.mk ⟨false, Choice.mk ⟨false, _, _, c1, ?_⟩⟩)
    (refine gw ?_)
    rw [hdiv]
    refine Room.mk (by omega) ?_
    (refine gw ?_)
    refine Room.mk (by omega) ?_
    (refine gw ?_)
    refine Room.mk (by omega) ?_
    rw [← hdiv2] at c2
    (refine gw ?_)
    (refine gw ?_; refine Choice.mk ⟨false, Choice.mk ⟨false, _, _, c2, ?_⟩⟩)
    (refine gw ?_)
    rw [← hz1 np, show (List.replicate np false).map AV.bool = List.replicate ((c.H : Int).tdiv (c.Pg : Nat)).toNat (zeroE T t_bool) by rw [hdiv]; exact (hz2 np).symm, ← hz3 c.H]
    exact RetN.mk ⟨[6, 2, 3, 5, 4], rfl, rfl, rfl⟩
  · intro k
    match k with
    | 0 => rfl
    | 1 => rfl
    | 2 => rfl
    | 3 => rfl
    | 4 => rfl
    | k + 5 => rfl
end Go.Ev.W
