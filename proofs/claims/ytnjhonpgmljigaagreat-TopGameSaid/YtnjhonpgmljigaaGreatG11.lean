/- Words and lemmas, part 11, for laws of this seat (a part of their proofs). -/
import Derived.Test.YtnjhonpgmljigaaGreatG1
import Derived.Test.YtnjhonpgmljigaaGreatG2
import Derived.Test.YtnjhonpgmljigaaGreatG3
import Derived.Test.YtnjhonpgmljigaaGreatG6
import Derived.Test.YtnjhonpgmljigaaGreatG7
import Derived.Test.YtnjhonpgmljigaaGreatG8
import Derived.Test.YtnjhonpgmljigaaGreatG9
import Derived.Test.YtnjhonpgmljigaaGreatG10
import Derived.Test.YtnjhonpgmljigaaGreatNm
import Derived.Test.YtnjhonpgmljigaaGreatEvOpen
import Derived.Test.YtnjhonpgmljigaaGreatEvLib
import Derived.Test.YtnjhonpgmljigaaGreatEvGrid
import Derived.Test.YtnjhonpgmljigaaGreatEvTrim
set_option linter.unusedVariables false
set_option linter.unusedSimpArgs false
namespace Go.Ev.X
open Go.Ev Go.Ev.N

/-- What six numbers are made of. -/
def rw3 (bs : List Int) (i : Nat) : Int := rd3 (bs.getD (3 * i) 0) (bs.getD (3 * i + 1) 0) (bs.getD (3 * i + 2) 0)
def rawK (bs : List Int) (k : Nat) : AV := .agg [.int .i64 (if 0 < k then rw3 bs 0 else 0), .int .i64 (if 1 < k then rw3 bs 1 else 0), .int .i64 (if 2 < k then rw3 bs 2 else 0), .int .i64 (if 3 < k then rw3 bs 3 else 0), .int .i64 (if 4 < k then rw3 bs 4 else 0), .int .i64 0]
def rawB (bs : List Int) : W.Rw := ⟨rw3 bs 0, rw3 bs 1, rw3 bs 2, rw3 bs 3, rw3 bs 4, bs.getD 15 0⟩
theorem idx_b {bs : List Int} {i : Int} {Q : AV → Prop} (k : Nat) (e : i = k) (h : k < bs.length) (q : Q (.int .u8 (bs.getD k 0))) : Idx (encB bs) i Q := by
  refine ⟨_, by omega, ?_, q⟩
  subst e
  simp [encB, List.getD_eq_getElem?_getD, h]
theorem at_bd {bs : List Int} (hb : IsB bs) (k : Nat) : 0 ≤ bs.getD k 0 ∧ bs.getD k 0 < 256 := by
  rw [List.getD_eq_getElem?_getD]
  by_cases h : k < bs.length
  · rw [List.getElem?_eq_getElem h]; exact hb _ (List.getElem_mem h)
  · rw [List.getElem?_eq_none (by omega)]; simp
set_option maxRecDepth 20000 in
set_option maxHeartbeats 4000000 in
theorem decode_short {bs : List Int} (h : bs.length < 16) : Told P T play_Decode [] [.lst t_uint8 (encB bs)] (.tup [W.eR ⟨0, 0, 0, 0, 0, 0⟩, .lst t_api_Op [], .bool false]) [] := by
  have hle : (encB bs).length = bs.length := by simp [encB]
  refine told_of_ev (fn := play_Decode_fn) tabOk mixed (by kernel_rfl) (by kernel_rfl) (by kernel_rfl) (by kernel_rfl) ?_
  (refine gw ?_; refine IfB.tt (by rw [hle]; simp; omega) ?_)
  (refine gw ?_)
  exact RetN.fz ⟨[false, true, false], [], rfl, rfl, rfl⟩
set_option maxRecDepth 20000 in
set_option maxHeartbeats 8000000 in
theorem decode_told {bs : List Int} (hb : IsB bs) (hl : bs.length ≤ 1000000) (h : 16 ≤ bs.length) : Told P T play_Decode [] [.lst t_uint8 (encB bs)] (.tup [W.eR (rawB bs), .lst t_api_Op ((take (bs.drop 16)).map encO), .bool true]) [] := by
  have hle : (encB bs).length = bs.length := by simp [encB]
  have c1 := take_told (bs.drop 16) (fun x hx => hb x (List.mem_of_mem_drop hx)) (by rw [List.length_drop]; omega)
  refine told_of_ev (fn := play_Decode_fn) tabOk mixed (by kernel_rfl) (by kernel_rfl) (by kernel_rfl) (by kernel_rfl) ?_
  (refine gw ?_; refine IfB.ff (by rw [hle]; simp; omega) ?_)
  (refine gw ?_; refine LoopN.mk ⟨[0,2,16,17,18], fun vs L => ∃ k : Nat, vs = [.lst t_uint8 (encB bs), .ptr 0 0 0, .fsub 1 5, .int .i64 5, .int .i64 k] ∧ L = [.var (rawK bs k), .var (.agg [.ptr 0 0 0, .ptr 0 0 1, .ptr 0 0 2, .ptr 0 0 3, .ptr 0 0 4])] ∧ k ≤ 5, fun vs L => match vs with | [_, _, _, _, .int _ i] => 5 - i.toNat | _ => 0, [], [0,2], rfl, ⟨0, rfl, rfl, by omega⟩, ?_⟩)
  rintro vs L ⟨k, rfl, rfl, hk⟩
  by_cases hk5 : k < 5
  · rcases (by omega : k = 0 ∨ k = 1 ∨ k = 2 ∨ k = 3 ∨ k = 4) with rfl | rfl | rfl | rfl | rfl
    · have b0 := at_bd hb 0
      have b1 := at_bd hb 1
      have b2 := at_bd hb 2
      have hor := rd3_or b0 b1 b2
      have hbits : IntKind.i64.bits = 64 := rfl
      have s1 : bs.getD 0 0 * 2 ^ min (16 : Int).toNat IntKind.i64.bits = bs.getD 0 0 * 65536 := by rw [hbits]; rfl
      have s2 : bs.getD 1 0 * 2 ^ min (8 : Int).toNat IntKind.i64.bits = bs.getD 1 0 * 256 := by rw [hbits]; rfl
      unfold rawK
      (refine gw ?_)
      refine idx_b 0 (by omega) (by omega) ?_
      (refine gw ?_)
      rw [s1]
      try (refine fits (wrap64 ?_ ?_) ?_; (focus omega); (focus omega))
      (refine gw ?_)
      refine idx_b 1 (by omega) (by omega) ?_
      (refine gw ?_)
      rw [s2]
      try (refine fits (wrap64 ?_ ?_) ?_; (focus omega); (focus omega))
      (refine gw ?_)
      refine idx_b 2 (by omega) (by omega) ?_
      (refine gw ?_)
      rw [hor]
      (refine gw ?_)
      refine ⟨[], [0, 1], rfl, ⟨1, rfl, rfl, by omega⟩, (by decide : 5 - (((0 : Nat) : Int) + 1).toNat < 5 - ((0 : Nat) : Int).toNat)⟩
    · have b0 := at_bd hb 3
      have b1 := at_bd hb 4
      have b2 := at_bd hb 5
      have hor := rd3_or b0 b1 b2
      have hbits : IntKind.i64.bits = 64 := rfl
      have s1 : bs.getD 3 0 * 2 ^ min (16 : Int).toNat IntKind.i64.bits = bs.getD 3 0 * 65536 := by rw [hbits]; rfl
      have s2 : bs.getD 4 0 * 2 ^ min (8 : Int).toNat IntKind.i64.bits = bs.getD 4 0 * 256 := by rw [hbits]; rfl
      unfold rawK
      (refine gw ?_)
      refine idx_b 3 (by omega) (by omega) ?_
      (refine gw ?_)
      rw [s1]
      try (refine fits (wrap64 ?_ ?_) ?_; (focus omega); (focus omega))
      (refine gw ?_)
      refine idx_b 4 (by omega) (by omega) ?_
      (refine gw ?_)
      rw [s2]
      try (refine fits (wrap64 ?_ ?_) ?_; (focus omega); (focus omega))
      (refine gw ?_)
      refine idx_b 5 (by omega) (by omega) ?_
      (refine gw ?_)
      rw [hor]
      (refine gw ?_)
      refine ⟨[], [0, 1], rfl, ⟨2, rfl, rfl, by omega⟩, (by decide : 5 - (((1 : Nat) : Int) + 1).toNat < 5 - ((1 : Nat) : Int).toNat)⟩
    · have b0 := at_bd hb 6
      have b1 := at_bd hb 7
      have b2 := at_bd hb 8
      have hor := rd3_or b0 b1 b2
      have hbits : IntKind.i64.bits = 64 := rfl
      have s1 : bs.getD 6 0 * 2 ^ min (16 : Int).toNat IntKind.i64.bits = bs.getD 6 0 * 65536 := by rw [hbits]; rfl
      have s2 : bs.getD 7 0 * 2 ^ min (8 : Int).toNat IntKind.i64.bits = bs.getD 7 0 * 256 := by rw [hbits]; rfl
      unfold rawK
      (refine gw ?_)
      refine idx_b 6 (by omega) (by omega) ?_
      (refine gw ?_)
      rw [s1]
      try (refine fits (wrap64 ?_ ?_) ?_; (focus omega); (focus omega))
      (refine gw ?_)
      refine idx_b 7 (by omega) (by omega) ?_
      (refine gw ?_)
      rw [s2]
      try (refine fits (wrap64 ?_ ?_) ?_; (focus omega); (focus omega))
      (refine gw ?_)
      refine idx_b 8 (by omega) (by omega) ?_
      (refine gw ?_)
      rw [hor]
      (refine gw ?_)
      refine ⟨[], [0, 1], rfl, ⟨3, rfl, rfl, by omega⟩, (by decide : 5 - (((2 : Nat) : Int) + 1).toNat < 5 - ((2 : Nat) : Int).toNat)⟩
    · have b0 := at_bd hb 9
      have b1 := at_bd hb 10
      have b2 := at_bd hb 11
      have hor := rd3_or b0 b1 b2
      have hbits : IntKind.i64.bits = 64 := rfl
      have s1 : bs.getD 9 0 * 2 ^ min (16 : Int).toNat IntKind.i64.bits = bs.getD 9 0 * 65536 := by rw [hbits]; rfl
      have s2 : bs.getD 10 0 * 2 ^ min (8 : Int).toNat IntKind.i64.bits = bs.getD 10 0 * 256 := by rw [hbits]; rfl
      unfold rawK
      (refine gw ?_)
      refine idx_b 9 (by omega) (by omega) ?_
      (refine gw ?_)
      rw [s1]
      try (refine fits (wrap64 ?_ ?_) ?_; (focus omega); (focus omega))
      (refine gw ?_)
      refine idx_b 10 (by omega) (by omega) ?_
      (refine gw ?_)
      rw [s2]
      try (refine fits (wrap64 ?_ ?_) ?_; (focus omega); (focus omega))
      (refine gw ?_)
      refine idx_b 11 (by omega) (by omega) ?_
      (refine gw ?_)
      rw [hor]
      (refine gw ?_)
      refine ⟨[], [0, 1], rfl, ⟨4, rfl, rfl, by omega⟩, (by decide : 5 - (((3 : Nat) : Int) + 1).toNat < 5 - ((3 : Nat) : Int).toNat)⟩
    · have b0 := at_bd hb 12
      have b1 := at_bd hb 13
      have b2 := at_bd hb 14
      have hor := rd3_or b0 b1 b2
      have hbits : IntKind.i64.bits = 64 := rfl
      have s1 : bs.getD 12 0 * 2 ^ min (16 : Int).toNat IntKind.i64.bits = bs.getD 12 0 * 65536 := by rw [hbits]; rfl
      have s2 : bs.getD 13 0 * 2 ^ min (8 : Int).toNat IntKind.i64.bits = bs.getD 13 0 * 256 := by rw [hbits]; rfl
      unfold rawK
      (refine gw ?_)
      refine idx_b 12 (by omega) (by omega) ?_
      (refine gw ?_)
      rw [s1]
      try (refine fits (wrap64 ?_ ?_) ?_; (focus omega); (focus omega))
      (refine gw ?_)
      refine idx_b 13 (by omega) (by omega) ?_
      (refine gw ?_)
      rw [s2]
      try (refine fits (wrap64 ?_ ?_) ?_; (focus omega); (focus omega))
      (refine gw ?_)
      refine idx_b 14 (by omega) (by omega) ?_
      (refine gw ?_)
      rw [hor]
      (refine gw ?_)
      refine ⟨[], [0, 1], rfl, ⟨5, rfl, rfl, by omega⟩, (by decide : 5 - (((4 : Nat) : Int) + 1).toNat < 5 - ((4 : Nat) : Int).toNat)⟩
  obtain rfl : k = 5 := by omega
  rw [show encB (bs.drop 16) = (encB bs).drop 16 from (encB_drop bs 16).symm] at c1
  (refine gw ?_)
  refine idx_b 15 (by omega) (by omega) ?_
  (refine gw ?_)
  have b15 := at_bd hb 15
  refine fits (wrap64 (by omega) (by omega)) ?_
  (refine gw ?_)
  refine Cut.mk (by omega) (by rw [hle]; omega) (by rw [hle]; omega) ?_
  (refine gw ?_; refine Choice.mk ⟨false, Choice.mk ⟨false, _, _, c1, ?_⟩⟩)
  (refine gw ?_)
  exact RetN.fz ⟨[false, true, false], [], rfl, rfl, rfl⟩
end Go.Ev.X
namespace Go.Ev.X
open Go.Ev Go.Ev.N
open Go.Ev.W (i64)

/-- The bytes of what there is, and of calls. -/
def headF (r : W.Rw) : List Int := three r.g ++ three r.l ++ three r.m ++ three r.p ++ three r.b ++ [w8 r.s]
def encF (r : W.Rw) (l : List O) : List Int := headF r ++ putAll l
theorem putAll_le : ∀ (l : List O), (putAll l).length ≤ 8 * l.length
  | [] => by simp [putAll]
  | o :: l => by
    have h := putAll_le l
    have h2 := put_len o
    have e : putAll (o :: l) = (if take (putO o) = [o] then putO o else []) ++ putAll l := by simp [putAll]
    rw [e, List.length_append, List.length_cons]
    split
    · omega
    · simp; omega
def fields5 (r : W.Rw) : List Int := [r.g, r.l, r.m, r.p, r.b]
set_option maxRecDepth 20000 in
set_option maxHeartbeats 8000000 in
theorem encode_told (r : W.Rw) {l : List O} (ho : ∀ o ∈ l, IsO o) (hl : l.length ≤ 100000) : Told P T play_Encode [] [W.eR r, .lst t_api_Op (l.map encO)] (.lst t_uint8 (encB (encF r l))) [] := by
  have c1 := putAll_told l ho (by omega)
  have hpl := putAll_le l
  have hle : (encB (putAll l)).length = (putAll l).length := by simp [encB]
  unfold W.eR
  refine told_of_ev (fn := play_Encode_fn) tabOk mixed (by kernel_rfl) (by kernel_rfl) (by kernel_rfl) (by kernel_rfl) ?_
  (refine gw ?_; refine LoopN.mk ⟨[1,2,4,17,18,19], fun vs L => ∃ (k : Nat) (bs : List Int), vs = [.lst t_api_Op (l.map encO), .ptr 0 0 0, .ref 1, .ref 2, i64 5, i64 k] ∧ L = [.var (W.eR r), .row t_uint8 (encB bs), .row t_int ((fields5 r).map i64)] ∧ k ≤ 5 ∧ bs = ((fields5 r).take k).flatMap three, fun vs L => match vs with | [_, _, _, _, _, .int _ i] => 5 - i.toNat | _ => 0, [], [0,1,2], rfl, ⟨0, [], rfl, rfl, by omega, rfl⟩, ?_⟩)
  rintro vs L ⟨k, bs, rfl, rfl, hk, hbs⟩
  have hbl : bs.length ≤ 15 := by
    rw [hbs]
    rcases (by omega : k = 0 ∨ k = 1 ∨ k = 2 ∨ k = 3 ∨ k = 4 ∨ k = 5) with rfl | rfl | rfl | rfl | rfl | rfl <;> simp [fields5, three]
  have hbe : (encB bs).length = bs.length := by simp [encB]
  by_cases hk5 : k < 5
  · have hkl : k < (fields5 r).length := hk5
    have hx : ∀ Q : AV → Prop, Q (i64 (fields5 r)[k]) → At ((fields5 r).map i64) ((k : Nat) : Int).toNat Q := fun Q q => W.at_map (k := k) hkl q
    have hs : ((fields5 r).take (k + 1)).flatMap three = bs ++ three (fields5 r)[k] := by
      rw [hbs, List.take_succ_eq_append_getElem hkl, List.flatMap_append, List.flatMap_cons, List.flatMap_nil, List.append_nil]
    generalize (fields5 r)[k] = v at *
    (refine gw ?_; refine IfB.tt (by simp; omega) ?_)
    (refine gw ?_)
    refine InB.mk (by omega) (by simp [fields5]; omega) ?_
    (refine gw ?_)
    refine hx _ ?_
    (refine gw ?_)
    refine Fits.mk ?_
    (refine gw ?_)
    refine Fits.mk ?_
    (refine gw ?_)
    refine Fits.mk ?_
    (refine gw ?_)
    refine Room.mk (by rw [hbe]; simp; omega) ?_
    have e3 : encB (bs ++ three v) = encB bs ++ encB (three v) := encB_app _ _
    (refine gw ?_)
    refine ⟨[], [0, 4, 2], rfl, ⟨k + 1, bs ++ three v, rfl, by rw [e3]; rfl, hk5, by rw [hs]⟩, (by omega : 5 - ((k : Int) + 1).toNat < 5 - (k : Int).toNat)⟩
  obtain rfl : k = 5 := by omega
  have hb5 : bs = three r.g ++ three r.l ++ three r.m ++ three r.p ++ three r.b := by rw [hbs]; simp [fields5]
  have e1 : encB (encF r l) = (encB bs ++ [.int .u8 (w8 r.s)]) ++ encB (putAll l) := by
    unfold encF headF
    rw [encB_app, encB_app, hb5]; rfl
  rw [e1]
  (refine gw ?_)
  refine Fits.mk ?_
  (refine gw ?_)
  refine Room.mk (by rw [hbe]; simp; omega) ?_
  (refine gw ?_; refine Choice.mk ⟨false, Choice.mk ⟨false, _, _, c1, ?_⟩⟩)
  (refine gw ?_)
  refine Room.mk (by rw [List.length_append, hbe, hle]; simp; omega) ?_
  (refine gw ?_)
  exact RetN.fz ⟨[true], [], rfl, rfl, rfl⟩
end Go.Ev.X
namespace Go.Ev.W
open Go.Ev Go.Ev.N

theorem allF_ok : ∀ {os : List X.O} {m : Mo}, MoOk m → (∀ o ∈ os, OpOk o) → MoOk (allF m os).1 ∧ (allF m os).1.c = m.c ∧ (allF m os).2.length = os.length
  | [], m, hm, _ => ⟨hm, rfl, rfl⟩
  | o :: os, m, hm, h => by
    have hd := doF_ok hm (h o (by simp))
    have ih := allF_ok (os := os) hd.1 fun x hx => h x (by simp [hx])
    refine ⟨ih.1, ih.2.1.trans hd.2, ?_⟩
    show ((doF m o).2 :: (allF (doF m o).1 os).2).length = _
    rw [List.length_cons, ih.2.2]; rfl
theorem allF_snoc : ∀ (os : List X.O) (m : Mo) (o : X.O), allF m (os ++ [o]) = ((doF (allF m os).1 o).1, (allF m os).2 ++ [(doF (allF m os).1 o).2])
  | [], m, o => rfl
  | x :: os, m, o => by
    show ((allF (doF m x).1 (os ++ [o])).1, (doF m x).2 :: (allF (doF m x).1 (os ++ [o])).2) = _
    rw [allF_snoc os]; rfl
end Go.Ev.W
namespace Go.Ev.W
open Go.Ev Go.Ev.N

/-- A run, so far. -/
theorem allF_at {m : Mo} {os : List X.O} (hm : MoOk m) (ho : ∀ o ∈ os, OpOk o) {k : Nat} (hk : k < os.length) :
    MoOk (allF m (os.take k)).1 ∧ (allF m (os.take k)).2.length = k ∧ (allF m (os.take (k + 1))).1 = (doF (allF m (os.take k)).1 os[k]).1 ∧ (allF m (os.take (k + 1))).2 = (allF m (os.take k)).2 ++ [(doF (allF m (os.take k)).1 os[k]).2] := by
  have h := allF_ok (os := os.take k) hm fun o h => ho o (List.mem_of_mem_take h)
  have hs := allF_snoc (os.take k) m os[k]
  rw [← List.take_succ_eq_append_getElem hk] at hs
  exact ⟨h.1, by rw [h.2.2, List.length_take]; omega, by rw [hs], by rw [hs]⟩
end Go.Ev.W
namespace Go.Ev.W
open Go.Ev Go.Ev.N

/-- What many calls are told. -/
def runF (r : Rw) (os : List X.O) : List An × Nat :=
  if (newM r).2 ≠ 0 then ([], (newM r).2) else if os.length > 5000 then ([], 2) else ((allF (newM r).1 os).2, 0)
def lA (l : List An) : AV := .lst t_api_Ans (l.map eA)
set_option maxRecDepth 20000 in
set_option maxHeartbeats 4000000 in
theorem runHeap_told (r : Rw) {os : List X.O} (ho : ∀ o ∈ os, OpOk o) : Told P T run_Heap [] [eR r, .lst t_api_Op (os.map X.encO)] (.tup [lA (runF r os).1, i64 ((runF r os).2 : Nat)]) [] := by
  have hom : (os.map X.encO).length = os.length := by simp
  have n1 := hpNewI (r := r)
  have n1e := hpNewE (r := r)
  have hok := newM_ok (r := r)
  unfold runF lA
  generalize newM r = M at *
  obtain ⟨m0, e⟩ := M
  by_cases he : e = 0
  case neg =>
    simp only [ne_eq, he, not_false_eq_true, if_true]
    refine told_of_ev (fn := run_Heap_fn) tabOk mixed (by kernel_rfl) (by kernel_rfl) (by kernel_rfl) (by kernel_rfl) ?_
    (refine gw ?_; refine Choice.mk ⟨false, Choice.mk ⟨false, _, _, n1e he, ?_⟩⟩)
    (refine gw ?_; refine IfB.tt (by simpa using he) ?_)
    (refine gw ?_; exact RetN.fz ⟨[true], [], rfl, rfl, rfl⟩)
  subst he
  have hm0 : MoOk m0 := hok rfl
  obtain ⟨s0, hr0, n1⟩ := n1 rfl
  simp only [ne_eq, not_true_eq_false, if_false]
  by_cases hl : os.length > 5000
  · rw [if_pos hl]
    refine told_of_ev (fn := run_Heap_fn) tabOk mixed (by kernel_rfl) (by kernel_rfl) (by kernel_rfl) (by kernel_rfl) ?_
    (refine gw ?_; refine Choice.mk ⟨false, Choice.mk ⟨false, _, _, n1, ?_⟩⟩)
    (refine gw ?_; refine IfB.tt (by rw [hom]; simp; omega) ?_)
    (refine gw ?_; exact RetN.fz ⟨[true], [], rfl, rfl, rfl⟩)
  rw [if_neg hl]
  refine told_of_ev (fn := run_Heap_fn) tabOk mixed (by kernel_rfl) (by kernel_rfl) (by kernel_rfl) (by kernel_rfl) ?_
  (refine gw ?_; refine Choice.mk ⟨false, Choice.mk ⟨false, _, _, n1, ?_⟩⟩)
  (refine gw ?_; refine IfB.ff (by rw [hom]; simp; omega) ?_)
  (refine gw ?_; refine LoopN.mk ⟨[4,6,22,23,24], fun vs L => ∃ (k : Nat) (s : Hs), vs = [.ref 4, .ptr 0 0 0, .lst t_api_Op (os.map X.encO), i64 (os.map X.encO).length, i64 k] ∧ L = hI (allF m0 (os.take k)).1 s ++ [.row t_api_Ans ((allF m0 (os.take k)).2.map eA)] ∧ k ≤ os.length ∧ Hr (allF m0 (os.take k)).1 s, fun vs L => match vs with | [_, _, _, _, .int _ i] => os.length - i.toNat | _ => 0, [], [2,3,4,5,1], rfl, ⟨0, s0, rfl, rfl, by omega, hr0⟩, ?_⟩)
  rintro vs L ⟨k, s, rfl, rfl, hk, hr⟩
  by_cases hko : k < os.length
  · obtain ⟨g1, g2, g3, g4⟩ := allF_at hm0 ho hko
    obtain ⟨s', hr', d1⟩ := hpDoI hr g1 (ho _ (List.getElem_mem hko))
    rw [← g3] at hr' d1
    have hma : (allF m0 (os.take (k + 1))).2.map eA = (allF m0 (os.take k)).2.map eA ++ [eA (doF (allF m0 (os.take k)).1 os[k]).2] := by rw [g4]; simp
    have hlk : ((allF m0 (os.take k)).2.map eA).length = k := by rw [List.length_map]; exact g2
    generalize (doF (allF m0 (os.take k)).1 os[k]).2 = an at *
    (refine gw ?_; refine IfB.tt (by rw [hom]; simp; omega) ?_)
    (refine gw ?_; refine idx_map (hko) ?_)
    (refine gw ?_; refine Choice.mk ⟨false, Choice.mk ⟨false, _, _, d1, ?_⟩⟩)
    (refine gw ?_; refine Room.mk (by first | omega | (simp; omega) | (simp <;> fail)) ?_)
    (refine gw ?_; refine ⟨[], [0,1,2,3,7], rfl, ⟨k + 1, s', rfl, by rw [hma]; rfl, hko, hr'⟩, (by omega : os.length - ((k : Int) + 1).toNat < os.length - (k : Int).toNat)⟩)
  obtain rfl : k = os.length := by omega
  rw [List.take_length]
  (refine gw ?_)
  (refine gw ?_; exact RetN.fz ⟨[true], [], rfl, rfl, rfl⟩)
end Go.Ev.W
namespace Go.Ev.X
open Go.Ev Go.Ev.N
open Go.Ev.W (i64)

/-- What bytes say. -/
def decF (bs : List Int) : W.Rw × List O × Bool := if bs.length < 16 then (⟨0, 0, 0, 0, 0, 0⟩, [], false) else (rawB bs, take (bs.drop 16), true)
theorem dec_told {bs : List Int} (hb : IsB bs) (hl : bs.length ≤ 1000000) : Told P T play_Decode [] [.lst t_uint8 (encB bs)] (.tup [W.eR (decF bs).1, .lst t_api_Op ((decF bs).2.1.map encO), .bool (decF bs).2.2]) [] := by
  unfold decF
  by_cases h : bs.length < 16
  · rw [if_pos h]; exact decode_short h
  · rw [if_neg h]; exact decode_told hb hl (by omega)
/-- What is taken of bytes may be. -/
structure Sm (o : O) : Prop where
  k : 0 ≤ o.k ∧ o.k ≤ 10
  p : 0 ≤ o.p ∧ o.p < 16777216
  s : 0 ≤ o.s ∧ o.s < 16777216
  a : 0 ≤ o.a ∧ o.a < 16777216
  n : 0 ≤ o.n ∧ o.n < 16777216
  b : 0 ≤ o.b ∧ o.b < 256
theorem Sm.ok {o : O} (h : Sm o) : W.OpOk o := ⟨by have := h.k; omega, by have := h.p; omega, by have := h.s; omega, by have := h.a; omega, by have := h.n; omega, h.b⟩
theorem setO_sm {o : O} (h : Sm o) (f : UInt8) {v : Int} (hv : 0 ≤ v ∧ v < 16777216) : Sm (setO o f v) := by
  obtain ⟨a, b, c, d, e, g⟩ := h
  unfold setO
  split
  · exact ⟨a, hv, c, d, e, g⟩
  · split
    · exact ⟨a, b, hv, d, e, g⟩
    · split
      · exact ⟨a, b, c, hv, e, g⟩
      · exact ⟨a, b, c, d, hv, g⟩
theorem fillO_sm : ∀ (fs : List UInt8) (bs : List Int) (o : O), IsB bs → Sm o → Sm (fillO fs bs o).1 ∧ ∀ r, (fillO fs bs o).2 = some r → IsB r
  | [], bs, o, hb, h => ⟨h, fun r hr => by simp [fillO] at hr; rw [← hr]; exact hb⟩
  | f :: fs, b0 :: b1 :: b2 :: bs, o, hb, h => by
    have h0 := hb b0 (by simp)
    have h1 := hb b1 (by simp)
    have h2 := hb b2 (by simp)
    exact fillO_sm fs bs _ (fun x hx => hb x (by simp [hx])) (setO_sm h f ⟨by unfold rd3; omega, by unfold rd3; omega⟩)
  | f :: fs, [], o, hb, h => ⟨h, fun r hr => by simp [fillO] at hr⟩
  | f :: fs, [_], o, hb, h => ⟨h, fun r hr => by simp [fillO] at hr⟩
  | f :: fs, [_, _], o, hb, h => ⟨h, fun r hr => by simp [fillO] at hr⟩
theorem one_sm {k : Int} (hk : 0 ≤ k ∧ k ≤ 10) {bs : List Int} (hb : IsB bs) : Sm (one k bs).1 := by
  have h := fillO_sm (fieldsOf k) bs ⟨k, 0, 0, 0, 0, 0⟩ hb ⟨hk, by simp, by simp, by simp, by simp, by simp⟩
  unfold one
  generalize fillO (fieldsOf k) bs ⟨k, 0, 0, 0, 0, 0⟩ = R at *
  obtain ⟨o, r⟩ := R
  cases r with
  | none => exact h.1
  | some r =>
    simp only
    split
    · exact h.1
    · cases r with
      | nil => exact h.1
      | cons b r =>
        obtain ⟨a1, a2, a3, a4, a5, a6⟩ := h.1
        exact ⟨a1, a2, a3, a4, a5, h.2 _ rfl b (by simp)⟩
theorem take_sm : ∀ (n : Nat) (bs : List Int), bs.length ≤ n → IsB bs → ∀ o ∈ take bs, Sm o
  | _, [], _, _ => fun o ho => by simp [take_nil] at ho
  | 0, b :: bs, h, _ => by simp at h
  | n + 1, b :: bs, h, hb => by
    have hl : bs.length ≤ n := by simpa using h
    have hb' : IsB bs := fun x hx => hb x (by simp [hx])
    intro o ho
    rw [take_cons] at ho
    split at ho
    · exact take_sm n bs hl hb' o ho
    · have h1 := one_sm (k := b % 11) (by omega) hb'
      generalize one (b % 11) bs = R at *
      obtain ⟨o1, m, ok⟩ := R
      cases ok with
      | false => simp at ho
      | true =>
        simp only [List.mem_cons] at ho
        rcases ho with rfl | ho
        · exact h1
        · exact take_sm n (bs.drop m) (by rw [List.length_drop]; omega) (fun x hx => hb' x (List.mem_of_mem_drop hx)) o ho
theorem take_ok (bs : List Int) (hb : IsB bs) : ∀ o ∈ take bs, W.OpOk o := fun o ho => (take_sm bs.length bs (Nat.le_refl _) hb o ho).ok
def playF (bs : List Int) : List W.An × Nat := if (decF bs).2.2 = false then ([], 2) else W.runF (decF bs).1 (decF bs).2.1
set_option maxRecDepth 20000 in
set_option maxHeartbeats 4000000 in
theorem playRun_told {bs : List Int} (hb : IsB bs) (hl : bs.length ≤ 1000000) : Told P T play_Run [] [.lst t_uint8 (encB bs)] (.tup [W.lA (playF bs).1, i64 ((playF bs).2 : Nat)]) [] := by
  have d1 := dec_told hb hl
  have hok : ∀ o ∈ (decF bs).2.1, W.OpOk o := by
    unfold decF
    split
    · intro o ho; simp at ho
    · exact take_ok _ fun x hx => hb x (List.mem_of_mem_drop hx)
  have r1 := W.runHeap_told (decF bs).1 hok
  unfold playF
  generalize decF bs = D at *
  obtain ⟨r, l, ok⟩ := D
  unfold W.lA at *
  cases ok with
  | false =>
    simp only [if_true]
    refine told_of_ev (fn := play_Run_fn) tabOk mixed (by kernel_rfl) (by kernel_rfl) (by kernel_rfl) (by kernel_rfl) ?_
    (refine gw ?_; refine Choice.mk ⟨false, Choice.mk ⟨false, _, _, d1, ?_⟩⟩)
    (refine gw ?_)
    exact RetN.fz ⟨[true], [], rfl, rfl, rfl⟩
  | true =>
    rw [if_neg (show ¬ (true = false) by decide)]
    refine told_of_ev (fn := play_Run_fn) tabOk mixed (by kernel_rfl) (by kernel_rfl) (by kernel_rfl) (by kernel_rfl) ?_
    (refine gw ?_; refine Choice.mk ⟨false, Choice.mk ⟨false, _, _, d1, ?_⟩⟩)
    (refine gw ?_; refine Choice.mk ⟨false, Choice.mk ⟨false, _, _, r1, ?_⟩⟩)
    (refine gw ?_; exact RetN.mk ⟨[], rfl, rfl, rfl⟩)
end Go.Ev.X
namespace Go.Ev.W
open Go.Ev Go.Ev.N

theorem hpConf_told {c : Cf} {g cl : Nat} {s : Hs} : Told P T heap_Heap_Conf (hsL c g cl s) [.ptr 0 0 0] (eC c) (hsL c g cl s) := by
  unfold hsL hpL hpV eC
  refine told_of_ev (fn := heap_Heap_Conf_fn) tabOk mixed (by kernel_rfl) (by kernel_rfl) (by kernel_rfl) (by kernel_rfl) ?_
  (refine gw ?_; exact RetN.mk ⟨[], rfl, rfl, rfl⟩)
end Go.Ev.W
namespace Go.Ev.W
open Go.Ev Go.Ev.N

def rTop : Rw := ⟨1, 4, 8, 4, 6, 0⟩
def oTo1 : X.O := ⟨1, 0, 3, 0, 0, 0⟩
def oTo2 : X.O := ⟨1, 0, 1, 0, 0, 0⟩
def bTop : List Int := [0, 0, 1, 0, 0, 4, 0, 0, 8, 0, 0, 4, 0, 0, 6, 0, 1, 0, 0, 3, 1, 0, 0, 1]
theorem encT : X.encF rTop [oTo1, oTo2] = bTop := by decide +kernel
theorem playT : X.playF bTop = ([an0, { an0 with at' := 4 }], 0) := by decide +kernel
theorem bT_ok : X.IsB bTop := by unfold X.IsB; decide
set_option maxRecDepth 20000 in
set_option maxHeartbeats 4000000 in
theorem begunT_told : Told P T top_begun [] [] (.bool true) [] := by
  have c1 := X.encode_told rTop (l := [oTo1, oTo2]) (fun o ho => by
    simp at ho
    rcases ho with rfl | rfl <;> exact ⟨by decide, by decide⟩) (by simp)
  have c2 := X.playRun_told bT_ok (by decide)
  rw [encT] at c1
  rw [playT] at c2
  refine told_of_ev (fn := top_begun_fn) tabOk mixed (by kernel_rfl) (by kernel_rfl) (by kernel_rfl) (by kernel_rfl) ?_
  (refine gw ?_; refine Choice.mk ⟨false, Choice.mk ⟨false, _, _, c1, ?_⟩⟩)
  (refine gw ?_; refine Choice.mk ⟨false, Choice.mk ⟨false, _, _, c2, ?_⟩⟩)
  (refine gw ?_)
  refine Idx.mk ⟨_, by omega, rfl, ?_⟩
  (refine gw ?_; exact RetN.mk ⟨[], rfl, rfl, rfl⟩)
end Go.Ev.W
namespace Go.Ev.W
open Go.Ev Go.Ev.N

theorem doF_tell (m : Mo) : doF m ⟨10, 0, 0, 0, 0, 0⟩ = (m, { an0 with live := m.live, peak := m.peak, mark := m.mark, pg := cntB m.on }) := by
  unfold doF; simp
theorem Gi.zero {r : Rw} (h : RwS r) (hb : r.b = 5000) : (newM r).2 = 0 ∧ Gi (cfOf r) r0 (newM r).1 ∧ (newM r).1.c = cfOf r := by
  have hs := small_of h
  have h0 : (newM r).2 = 0 := by rw [newM_of]; exact hs.1
  have e : newM r = (⟨cfOf r, [], 0, 0, 0, List.replicate ((cfOf r).H / (cfOf r).Pg) false, List.replicate (cfOf r).H 0⟩, 0) := by
    unfold newM
    rw [if_neg (by simpa using hs.1), hs.2.1]
  have hok : MoOk (newM r).1 := newM_ok h0
  have hc : (cfOf r).Ok := hs.2.2.1
  have hP : (cfOf r).P = 5000 := by
    show r.b.toNat = 5000
    rw [hb]; rfl
  have hH : (cfOf r).H ≤ 5000 := by
    have h1 : (cfOf r).H = (cfOf r).M + (cfOf r).L * ((cfOf r).M / 2) := rfl
    have h2 : (cfOf r).L * ((cfOf r).M / 2) ≤ 7 * 202 := Nat.mul_le_mul (by omega) (by omega)
    omega
  rw [e] at hok ⊢
  have hd : (cfOf r).H / (cfOf r).Pg ≤ (cfOf r).H := Nat.div_le_self _ _
  refine ⟨rfl, ⟨hok, rfl, fun x hx => by simp at hx, by omega, rfl, rfl, r0_ok hc, by intro x hx; simp [r0] at hx, ⟨by intro x hx; simp [r0] at hx, ?_, ?_, by intro x hx; simp [r0] at hx⟩, .inl rfl⟩, rfl⟩
  · generalize cfOf r = c at *
    show ((0 : Nat) : Int) * (c.M : Int) - ((sz c 0 : Nat) : Int) + (c.G : Int) ≤ 2 * waste (sz c 0) []
    simp [sz, waste]; omega
  · generalize cfOf r = c at *
    show ((0 * sz c 0 : Nat) : Int) ≤ (c.M : Int) * ((2 ^ (0 + 1) : Nat) : Int) - 2 * (c.M : Int) + just (sz c 0) []
    simp [just]; omega
set_option maxRecDepth 20000 in
set_option maxHeartbeats 8000000 in
theorem topGame_told {a : List Nat} (ha : IsB a) (hla : a.length ≤ maxLen) : Told P T top_TopGame [] [lB a] (.bool true) [] := by
  have hua : (a.map u8).length = a.length := by simp
  have oka : (⟨a, 0⟩ : Pk).Ok := ⟨ha, Nat.zero_le _, hla⟩
  have t1 := raw_told ⟨a, 0⟩ oka true
  have hsm := rawF_s ⟨a, 0⟩ true
  have hbg : (rawF ⟨a, 0⟩ true).1.b = 5000 := rfl
  generalize rawF ⟨a, 0⟩ true = R at *
  obtain ⟨rw0, pa⟩ := R
  obtain ⟨hz, hgi0, hcc⟩ := Gi.zero hsm hbg
  obtain ⟨_, _, hc, hN, hM, hLs, hGs, _⟩ := small_of hsm
  obtain ⟨s0, hs0, n1⟩ := hpNewI hz
  generalize newM rw0 = M at *
  obtain ⟨m0, e⟩ := M
  subst hz
  obtain ⟨c, hce⟩ : ∃ c, cfOf rw0 = c := ⟨_, rfl⟩
  simp only at hcc hgi0 hs0 n1 hbg
  rw [hce] at hgi0 hc hN hM hLs hGs hcc
  have hI0 : hI m0 s0 = hsL c (c.H / c.G) (c.L + 1) s0 := by unfold hI; rw [hcc]
  have hg := hc.gpos
  have hnM := hc.nM
  have hmH := hc.mH
  have hH2 := hc.h2
  have hdl := Nat.div_le_self c.M c.G
  have hdn : (0 : Int) ≤ ((c.M / c.G : Nat) : Int) := Int.natCast_nonneg _
  have htd : ((c.M : Nat) : Int).tdiv ((c.G : Nat) : Int) = ((c.M / c.G : Nat) : Int) := by rw [Int.tdiv_eq_ediv_of_nonneg (by omega)]; omega
  have hdm := Nat.div_add_mod c.M c.G
  have hml2 := Nat.mod_lt c.M hg
  obtain ⟨d, hd⟩ : ∃ d, c.M / c.G = d := ⟨_, rfl⟩
  rw [hd] at hdl hdn htd hdm
  obtain ⟨K, hK⟩ : ∃ K, 3 * d + 10 = K := ⟨_, rfl⟩
  refine told_of_ev (fn := top_TopGame_fn) tabOk mixed (by kernel_rfl) (by kernel_rfl) (by kernel_rfl) (by kernel_rfl) ?_
  (refine gw ?_; refine Choice.mk ⟨false, Choice.mk ⟨false, _, _, begunT_told, ?_⟩⟩)
  by_cases h6 : a.length > 6
  · (refine gw ?_; refine IfB.tt (by rw [hua]; simp; omega) ?_)
    (refine gw ?_; exact RetN.mk ⟨[], rfl, rfl, rfl⟩)
  (refine gw ?_; refine IfB.ff (by rw [hua]; simp; omega) ?_)
  (refine gw ?_; refine Choice.mk ⟨false, Choice.mk ⟨false, _, _, made_told a, ?_⟩⟩)
  (refine gw ?_; refine Choice.mk ⟨true, Choice.mk ⟨false, _, _, t1, ?_⟩⟩)
  (refine gw ?_; refine Choice.mk ⟨false, Choice.mk ⟨false, _, _, n1, ?_⟩⟩)
  rw [hcc]
  (refine gw ?_; refine Choice.mk ⟨false, Choice.mk ⟨false, _, _, hpConf_told, ?_⟩⟩)
  (refine gw ?_; refine Choice.mk ⟨false, Choice.mk ⟨false, _, _, begin_told c, ?_⟩⟩)
  (refine gw ?_; refine LoopN.mk ⟨[4,6,7,8], fun vs L => ∃ (i : Nat) (r : Rd) (m : Mo) (s : Hs), vs = [.ptr 0 0 0, .ptr 4 0 0, .ptr 5 0 0, i64 i] ∧ L = hI m s ++ [.var (eC c), .var (eRd r)] ∧ i ≤ K ∧ Gi c r m ∧ Hr m s ∧ (r.why = 0 → r.asked = i) ∧ r.asked ≤ i, fun vs L => match vs with | [_, _, _, .int _ i] => K - i.toNat | _ => 0, [], [2,3,4,5,7,8], rfl, ⟨0, r0, m0, s0, rfl, by rw [hI0]; rfl, by omega, hgi0, hs0, fun _ => rfl, by simp [r0]⟩, ?_⟩)
  rintro vs L ⟨i, r, m, s, rfl, rfl, hi, hgi, hs, hai, hai2⟩
  have ca := asks_told (r := r) hc hgi.rk.s
  (refine gw ?_)
  rw [htd]
  (refine gw ?_; first | refine IfB.dec (fun h4 => ?_) (fun h4 => ?_) | refine IfB.eq (fun h4 => ?_) (fun h4 => ?_) | refine IfB.ne (fun h4 => ?_) (fun h4 => ?_) | refine IfB.mk (fun h4 => ?_) (fun h4 => ?_))
  · by_cases hw : r.why = 0
    · rw [show askG c r = (sz c r.step, true) by unfold askG; rw [if_pos hw]] at ca
      have hszN := hc.sz_le hgi.rk.s
      obtain ⟨m1, y, hd1, hy0, hyH, hg1, hnd, hat, hok1, hx1, hh1, hmk1, hwy1, hsub1, hak⟩ := hgi.ask hw
      have hi1 : ∀ x ∈ m1.bs, ∀ z ∈ m1.bs, x.a = z.a → x = z := hg1.ok.a.inj
      have hab : ∀ k (h : k < (r.live.map (·.a) ++ [y]).length), -1 ≤ (r.live.map (·.a) ++ [y])[k] ∧ (r.live.map (·.a) ++ [y])[k] ≤ 65536 := fun k h => by
        obtain ⟨z, hz, e⟩ := (hat _).1 (List.getElem_mem h)
        have := hg1.ok.a.b z hz
        have := hg1.ok.c.h2
        rw [← e]; omega
      obtain ⟨ats, hats⟩ : ∃ ats, r.live.map (·.a) ++ [y] = ats := ⟨_, rfl⟩
      have hal : ats.length = r.live.length + 1 := by rw [← hats]; simp
      have hak1 : ∀ k (h : k < ats.length) (h2 : k < r.live.length), ats[k] = r.live[k].a := fun k h h2 => by
        subst hats
        rw [List.getElem_append_left (by simpa using h2), List.getElem_map]
      have hak2 : ∀ k (h : k < ats.length) (h2 : ¬ k < r.live.length), ats[k] = y := fun k h h2 => by
        subst hats
        rw [List.getElem_append_right (by simpa using h2)]; simp
      rw [hats] at hg1 hnd hat
      simp only [hats] at hab
      obtain ⟨s1, hs1, d1⟩ := hpDoI hs hgi.ok (o := mal (sz c r.step)) ⟨by simp [mal], by simp [mal], by simp only [mal]; omega, by simp [mal], by simp [mal], by simp [mal]⟩
      rw [hd1] at d1 hs1
      have d1 : Told P T heap_Heap_Do (hI m s) [.ptr 0 0 0, .agg [i64 1, i64 0, i64 ((sz c r.step : Nat) : Int), i64 0, i64 0, .int .u8 0]] (.agg [i64 0, i64 y, i64 0, .int .u8 0, i64 0, i64 0, i64 0, i64 0]) (hI m1 s1) := d1
      have tt := told_told hc hgi.rk y (by omega) (by omega)
      have hlr := hok1.len hc
      have hlr0 := hgi.rk.len hc
      have hcl : (toldF c r y).live.length ≤ 100000 := by omega
      have hml : (r.live.map eSp).length = r.live.length := by simp
      (refine gw ?_; refine Choice.mk ⟨false, Choice.mk ⟨false, _, _, ca, ?_⟩⟩)
      (refine gw ?_; refine Choice.mk ⟨false, Choice.mk ⟨false, _, _, d1, ?_⟩⟩)
      (refine gw ?_; refine Choice.mk ⟨false, Choice.mk ⟨false, _, _, tt, ?_⟩⟩)
      (refine gw ?_; refine LoopN.mk ⟨[4,6,7,8,11,12,13], fun vs L => ∃ (k : Nat) (m2 : Mo) (s2 : Hs), vs = [.ptr 0 0 0, .ptr 4 0 0, .ptr 5 0 0, i64 i, .ptr 6 0 0, lS r.live, i64 k] ∧ L = hI m2 s2 ++ [.var (eC c), .var (eRd (toldF c r y)), .var (.agg [i64 0, i64 y, i64 0, .int .u8 0, i64 0, i64 0, i64 0, i64 0])] ∧ k ≤ r.live.length + 1 ∧ Gm' c (toldF c r y) m1 ats k m2 ∧ Hr m2 s2, fun vs L => match vs with | [_, _, _, _, _, _, .int _ i] => r.live.length + 1 - i.toNat | _ => 0, [], [0,1,2,3,4,5,6], rfl, ⟨0, m1, s1, rfl, rfl, by omega, hg1, hs1⟩, ?_⟩)
      rintro vs L ⟨k, m2, s2, rfl, rfl, hk, hg2, hs2⟩
      by_cases hk1 : k < r.live.length + 1
      · (refine gw ?_; refine IfB.tt (by rw [hml]; simp; omega) ?_)
        have hk1 : k < ats.length := by omega
        by_cases hk2 : k < r.live.length
        · have hzl : ats[k] = r.live[k].a := hak1 k hk1 hk2
          (refine gw ?_; refine IfB.tt (by rw [hml]; simp; omega) ?_)
          (refine gw ?_; refine idx_map (hk2) ?_)
          (refine gw ?_; refine Choice.mk ⟨false, Choice.mk ⟨false, _, _, refCut_told (toldF c r y).live (r.live[k].a) hcl, ?_⟩⟩)
          cases hh : (cutF (toldF c r y).live (r.live[k].a)).2.2 with
          | true =>
            (refine gw ?_; refine ⟨[], [0,1,2,3,4,5,6], rfl, ⟨k + 1, m2, s2, rfl, rfl, by omega, hg2.keep (by omega) (by rw [hzl]; exact hh), hs2⟩, (by omega : r.live.length + 1 - ((k : Int) + 1).toNat < r.live.length + 1 - (k : Int).toNat)⟩)
          | false =>
            have hfr := hg2.free (by omega) hnd hat hi1 (by rw [hzl, hh]; simp)
            rw [hzl] at hfr
            have hzz : -9223372036854775808 ≤ r.live[k].a ∧ r.live[k].a ≤ 9223372036854775807 := by
              have := hab k hk1
              rw [hzl] at this; omega
            obtain ⟨s3, hs3, d2⟩ := hpDoI hs2 hg2.ok (o := fre (r.live[k].a)) ⟨by simp [fre], hzz, by simp [fre], by simp [fre], by simp [fre], by simp [fre]⟩
            generalize doF m2 (fre (r.live[k].a)) = D at *
            obtain ⟨m3, an3⟩ := D
            have d2 : Told P T heap_Heap_Do (hI m2 s2) [.ptr 0 0 0, .agg [i64 5, i64 (r.live[k].a), i64 0, i64 0, i64 0, .int .u8 0]] (.agg [i64 (an3.e : Nat), i64 an3.at', i64 an3.n, .int .u8 (an3.b : Int), i64 an3.live, i64 an3.peak, i64 an3.mark, i64 an3.pg]) (hI m3 s3) := d2
            have he3 : an3.e = 0 := hfr.1
            rw [he3] at d2
            (refine gw ?_; refine Choice.mk ⟨false, Choice.mk ⟨false, _, _, d2, ?_⟩⟩)
            (refine gw ?_; refine ⟨[], [0,1,2,3,4,5,6], rfl, ⟨k + 1, m3, s3, rfl, rfl, by omega, hfr.2, hs3⟩, (by omega : r.live.length + 1 - ((k : Int) + 1).toNat < r.live.length + 1 - (k : Int).toNat)⟩)
        · have hzl : ats[k] = y := hak2 k hk1 hk2
          (refine gw ?_; refine IfB.ff (by rw [hml]; simp; omega) ?_)
          (refine gw ?_; refine Choice.mk ⟨false, Choice.mk ⟨false, _, _, refCut_told (toldF c r y).live (y) hcl, ?_⟩⟩)
          cases hh : (cutF (toldF c r y).live (y)).2.2 with
          | true =>
            (refine gw ?_; refine ⟨[], [0,1,2,3,4,5,6], rfl, ⟨k + 1, m2, s2, rfl, rfl, by omega, hg2.keep (by omega) (by rw [hzl]; exact hh), hs2⟩, (by omega : r.live.length + 1 - ((k : Int) + 1).toNat < r.live.length + 1 - (k : Int).toNat)⟩)
          | false =>
            have hfr := hg2.free (by omega) hnd hat hi1 (by rw [hzl, hh]; simp)
            rw [hzl] at hfr
            have hzz : -9223372036854775808 ≤ y ∧ y ≤ 9223372036854775807 := by
              have := hab k hk1
              rw [hzl] at this; omega
            obtain ⟨s3, hs3, d2⟩ := hpDoI hs2 hg2.ok (o := fre (y)) ⟨by simp [fre], hzz, by simp [fre], by simp [fre], by simp [fre], by simp [fre]⟩
            generalize doF m2 (fre (y)) = D at *
            obtain ⟨m3, an3⟩ := D
            have d2 : Told P T heap_Heap_Do (hI m2 s2) [.ptr 0 0 0, .agg [i64 5, i64 (y), i64 0, i64 0, i64 0, .int .u8 0]] (.agg [i64 (an3.e : Nat), i64 an3.at', i64 an3.n, .int .u8 (an3.b : Int), i64 an3.live, i64 an3.peak, i64 an3.mark, i64 an3.pg]) (hI m3 s3) := d2
            have he3 : an3.e = 0 := hfr.1
            rw [he3] at d2
            (refine gw ?_; refine Choice.mk ⟨false, Choice.mk ⟨false, _, _, d2, ?_⟩⟩)
            (refine gw ?_; refine ⟨[], [0,1,2,3,4,5,6], rfl, ⟨k + 1, m3, s3, rfl, rfl, by omega, hfr.2, hs3⟩, (by omega : r.live.length + 1 - ((k : Int) + 1).toNat < r.live.length + 1 - (k : Int).toNat)⟩)
      · have hke : k = ats.length := by omega
        subst hke
        (refine gw ?_; refine IfB.ff (by rw [hml]; simp; omega) ?_)
        (refine gw ?_; refine ⟨[], [0,1,2,3,4,5], rfl, ⟨i + 1, toldF c r y, m2, s2, rfl, rfl, by omega, hg2.done hat hi1 hsub1 hgi.on hok1 hx1 hh1 hmk1 hwy1, hs2, fun _ => by rw [hak, hai hw], by omega⟩, (by omega : K - ((i : Int) + 1).toNat < K - (i : Int).toNat)⟩)
    rw [show askG c r = (0, false) by unfold askG; rw [if_neg hw]] at ca
    (refine gw ?_; refine Choice.mk ⟨false, Choice.mk ⟨false, _, _, ca, ?_⟩⟩)
    have hov := hgi.wy.resolve_left hw
    have hfin : (c.H : Int) - 3 * (c.N : Int) ≤ r.most := high hc hgi.rk.toRdB hgi.rx hgi.rh hov.2.1 hov.2.2
    obtain ⟨s9, hs9, d9⟩ := hpDoI hs hgi.ok (o := ⟨10, 0, 0, 0, 0, 0⟩) ⟨by simp, by simp, by simp, by simp, by simp, by simp⟩
    rw [doF_tell] at d9
    have d9 : Told P T heap_Heap_Do (hI m s) [.ptr 0 0 0, .agg [i64 10, i64 0, i64 0, i64 0, i64 0, .int .u8 0]] (.agg [i64 0, i64 0, i64 0, .int .u8 0, i64 m.live, i64 m.peak, i64 m.mark, i64 (cntB m.on : Nat)]) (hI m s9) := d9
    (refine gw ?_; refine Choice.mk ⟨false, Choice.mk ⟨false, _, _, d9, ?_⟩⟩)
    have hmH2 : m.mark ≤ c.H := by have := hgi.ok.k.2.2; rw [hgi.ce] at this; exact this
    have hme := hgi.mrk
    (refine gw ?_; refine IfB.tt (by rw [hov.1]; rfl) ?_)
    (refine gw ?_; refine IfB.tt (by rw [decide_eq_true (by omega)]; rfl) ?_)
    rw [hme]
    rw [hme] at hmH2
    (refine gw ?_; refine RetN.mk ⟨[], rfl, ?_, rfl⟩)
    show AV.bool (bif true then decide (r.most ≤ (c.H : Int)) else false) = AV.bool true
    rw [decide_eq_true (by omega)]; rfl
  · have hw : r.why ≠ 0 := fun hw => by
      have := short hc hgi.rk.toRdB hgi.rh
      have hik : i = K := by omega
      rw [hai hw, hik, ← hK] at this
      have e1 : (3 * d + 10) * c.G = 3 * (c.G * d) + 10 * c.G := by rw [Nat.add_mul, Nat.mul_assoc, Nat.mul_comm d]
      rw [e1] at this
      generalize c.G * d = gd at *
      omega
    have hov := hgi.wy.resolve_left hw
    have hfin : (c.H : Int) - 3 * (c.N : Int) ≤ r.most := high hc hgi.rk.toRdB hgi.rx hgi.rh hov.2.1 hov.2.2
    obtain ⟨s9, hs9, d9⟩ := hpDoI hs hgi.ok (o := ⟨10, 0, 0, 0, 0, 0⟩) ⟨by simp, by simp, by simp, by simp, by simp, by simp⟩
    rw [doF_tell] at d9
    have d9 : Told P T heap_Heap_Do (hI m s) [.ptr 0 0 0, .agg [i64 10, i64 0, i64 0, i64 0, i64 0, .int .u8 0]] (.agg [i64 0, i64 0, i64 0, .int .u8 0, i64 m.live, i64 m.peak, i64 m.mark, i64 (cntB m.on : Nat)]) (hI m s9) := d9
    (refine gw ?_; refine Choice.mk ⟨false, Choice.mk ⟨false, _, _, d9, ?_⟩⟩)
    have hmH2 : m.mark ≤ c.H := by have := hgi.ok.k.2.2; rw [hgi.ce] at this; exact this
    have hme := hgi.mrk
    (refine gw ?_; refine IfB.tt (by rw [hov.1]; rfl) ?_)
    (refine gw ?_; refine IfB.tt (by rw [decide_eq_true (by omega)]; rfl) ?_)
    rw [hme]
    rw [hme] at hmH2
    (refine gw ?_; refine RetN.mk ⟨[], rfl, ?_, rfl⟩)
    show AV.bool (bif true then decide (r.most ≤ (c.H : Int)) else false) = AV.bool true
    rw [decide_eq_true (by omega)]; rfl
theorem topGame {x0 : AV} (h0 : Shp T 8 ts_uint8 x0) : Told P T top_TopGame [] [x0] (.bool true) [] := by
  obtain ⟨a, rfl, ha, hla⟩ := shp_bytes h0
  exact topGame_told ha hla
end Go.Ev.W
