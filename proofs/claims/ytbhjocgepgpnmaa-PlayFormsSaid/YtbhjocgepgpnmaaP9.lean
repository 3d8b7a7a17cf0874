/- Words and lemmas, part 9, for laws of this seat (a part of their proofs). -/
import Derived.Test.YtbhjocgepgpnmaaP1
import Derived.Test.YtbhjocgepgpnmaaP5
import Derived.Test.YtbhjocgepgpnmaaP6
import Derived.Test.YtbhjocgepgpnmaaP8
import Derived.Test.YtbhjocgepgpnmaaNm
import Derived.Test.YtbhjocgepgpnmaaEvOpen
import Derived.Test.YtbhjocgepgpnmaaEvLib
import Derived.Test.YtbhjocgepgpnmaaEvGrid
import Derived.Test.YtbhjocgepgpnmaaEvTrim
set_option linter.unusedVariables false
set_option linter.unusedSimpArgs false
namespace Go.Ev.W
open Go.Ev Go.Ev.N

/-- What many calls are told. -/
def runF (r : Rw) (os : List X.O) : List An × Nat :=
  if (newM r).2 ≠ 0 then ([], (newM r).2) else if os.length > 5000 then ([], 2) else ((allF (newM r).1 os).2, 0)
def lA (l : List An) : AV := .lst t_api_Ans (l.map eA)
set_option maxRecDepth 20000 in
set_option maxHeartbeats 4000000 in
theorem runHeap_told (r : Rw) {os : List X.O} (ho : ∀ o ∈ os, OpOk o) : Told P T run_Heap [] [eR r, .lst t_api_Op (os.map X.encO)] (.tup [lA (runF r os).1, i64 ((runF r os).2 : Nat)]) [] := by
  have hom : (os.map X.encO).length = os.length := by simp
  have n1 := hpNewI (r := r)
  have n1e := hpNewE (r := r)
  have hok := newM_ok (r := r)
  unfold runF lA
  generalize newM r = M at *
  obtain ⟨m0, e⟩ := M
  by_cases he : e = 0
  case neg =>
    simp only [ne_eq, he, not_false_eq_true, if_true]
    refine told_of_ev (fn := run_Heap_fn) tabOk mixed (by kernel_rfl) (by kernel_rfl) (by kernel_rfl) (by kernel_rfl) ?_
    (refine gw ?_; refine Choice.mk ⟨false, Choice.mk ⟨false, _, _, n1e he, ?_⟩⟩)
    (refine gw ?_; refine IfB.tt (by simpa using he) ?_)
    (refine gw ?_; exact RetN.fz ⟨[true], [], rfl, rfl, rfl⟩)
  subst he
  have hm0 : MoOk m0 := hok rfl
  obtain ⟨s0, hr0, n1⟩ := n1 rfl
  simp only [ne_eq, not_true_eq_false, if_false]
  by_cases hl : os.length > 5000
  · rw [if_pos hl]
    refine told_of_ev (fn := run_Heap_fn) tabOk mixed (by kernel_rfl) (by kernel_rfl) (by kernel_rfl) (by kernel_rfl) ?_
    (refine gw ?_; refine Choice.mk ⟨false, Choice.mk ⟨false, _, _, n1, ?_⟩⟩)
    (refine gw ?_; refine IfB.tt (by rw [hom]; simp; omega) ?_)
    (refine gw ?_; exact RetN.fz ⟨[true], [], rfl, rfl, rfl⟩)
  rw [if_neg hl]
  refine told_of_ev (fn := run_Heap_fn) tabOk mixed (by kernel_rfl) (by kernel_rfl) (by kernel_rfl) (by kernel_rfl) ?_
  (refine gw ?_; refine Choice.mk ⟨false, Choice.mk ⟨false, _, _, n1, ?_⟩⟩)
  (refine gw ?_; refine IfB.ff (by rw [hom]; simp; omega) ?_)
  (refine gw ?_; refine LoopN.mk ⟨[4,6,22,23,24], fun vs L => ∃ (k : Nat) (s : Hs), vs = [.ref 4, .ptr 0 0 0, .lst t_api_Op (os.map X.encO), i64 (os.map X.encO).length, i64 k] ∧ L = hI (allF m0 (os.take k)).1 s ++ [.row t_api_Ans ((allF m0 (os.take k)).2.map eA)] ∧ k ≤ os.length ∧ Hr (allF m0 (os.take k)).1 s, fun vs L => match vs with | [_, _, _, _, .int _ i] => os.length - i.toNat | _ => 0, [], [2,3,4,5,1], rfl, ⟨0, s0, rfl, rfl, by omega, hr0⟩, ?_⟩)
  rintro vs L ⟨k, s, rfl, rfl, hk, hr⟩
  by_cases hko : k < os.length
  · obtain ⟨g1, g2, g3, g4⟩ := allF_at hm0 ho hko
    obtain ⟨s', hr', d1⟩ := hpDoI hr g1 (ho _ (List.getElem_mem hko))
    rw [← g3] at hr' d1
    have hma : (allF m0 (os.take (k + 1))).2.map eA = (allF m0 (os.take k)).2.map eA ++ [eA (doF (allF m0 (os.take k)).1 os[k]).2] := by rw [g4]; simp
    have hlk : ((allF m0 (os.take k)).2.map eA).length = k := by rw [List.length_map]; exact g2
    generalize (doF (allF m0 (os.take k)).1 os[k]).2 = an at *
    (refine gw ?_; refine IfB.tt (by rw [hom]; simp; omega) ?_)
    (refine gw ?_; refine idx_map (hko) ?_)
    (refine gw ?_; refine Choice.mk ⟨false, Choice.mk ⟨false, _, _, d1, ?_⟩⟩)
    (refine gw ?_; refine Room.mk (by first | omega | (simp; omega) | (simp <;> fail)) ?_)
    (refine gw ?_; refine ⟨[], [0,1,2,3,7], rfl, ⟨k + 1, s', rfl, by rw [hma]; rfl, hko, hr'⟩, (by omega : os.length - ((k : Int) + 1).toNat < os.length - (k : Int).toNat)⟩)
  obtain rfl : k = os.length := by omega
  rw [List.take_length]
  (refine gw ?_)
  (refine gw ?_; exact RetN.fz ⟨[true], [], rfl, rfl, rfl⟩)
end Go.Ev.W
namespace Go.Ev.X
open Go.Ev Go.Ev.N
open Go.Ev.W (i64)

/-- What bytes say. -/
def decF (bs : List Int) : W.Rw × List O × Bool := if bs.length < 16 then (⟨0, 0, 0, 0, 0, 0⟩, [], false) else (rawB bs, take (bs.drop 16), true)
theorem dec_told {bs : List Int} (hb : IsB bs) (hl : bs.length ≤ 1000000) : Told P T play_Decode [] [.lst t_uint8 (encB bs)] (.tup [W.eR (decF bs).1, .lst t_api_Op ((decF bs).2.1.map encO), .bool (decF bs).2.2]) [] := by
  unfold decF
  by_cases h : bs.length < 16
  · rw [if_pos h]; exact decode_short h
  · rw [if_neg h]; exact decode_told hb hl (by omega)
/-- What is taken of bytes may be. -/
structure Sm (o : O) : Prop where
  k : 0 ≤ o.k ∧ o.k ≤ 10
  p : 0 ≤ o.p ∧ o.p < 16777216
  s : 0 ≤ o.s ∧ o.s < 16777216
  a : 0 ≤ o.a ∧ o.a < 16777216
  n : 0 ≤ o.n ∧ o.n < 16777216
  b : 0 ≤ o.b ∧ o.b < 256
theorem Sm.ok {o : O} (h : Sm o) : W.OpOk o := ⟨by have := h.k; omega, by have := h.p; omega, by have := h.s; omega, by have := h.a; omega, by have := h.n; omega, h.b⟩
theorem setO_sm {o : O} (h : Sm o) (f : UInt8) {v : Int} (hv : 0 ≤ v ∧ v < 16777216) : Sm (setO o f v) := by
  obtain ⟨a, b, c, d, e, g⟩ := h
  unfold setO
  split
  · exact ⟨a, hv, c, d, e, g⟩
  · split
    · exact ⟨a, b, hv, d, e, g⟩
    · split
      · exact ⟨a, b, c, hv, e, g⟩
      · exact ⟨a, b, c, d, hv, g⟩
theorem fillO_sm : ∀ (fs : List UInt8) (bs : List Int) (o : O), IsB bs → Sm o → Sm (fillO fs bs o).1 ∧ ∀ r, (fillO fs bs o).2 = some r → IsB r
  | [], bs, o, hb, h => ⟨h, fun r hr => by simp [fillO] at hr; rw [← hr]; exact hb⟩
  | f :: fs, b0 :: b1 :: b2 :: bs, o, hb, h => by
    have h0 := hb b0 (by simp)
    have h1 := hb b1 (by simp)
    have h2 := hb b2 (by simp)
    exact fillO_sm fs bs _ (fun x hx => hb x (by simp [hx])) (setO_sm h f ⟨by unfold rd3; omega, by unfold rd3; omega⟩)
  | f :: fs, [], o, hb, h => ⟨h, fun r hr => by simp [fillO] at hr⟩
  | f :: fs, [_], o, hb, h => ⟨h, fun r hr => by simp [fillO] at hr⟩
  | f :: fs, [_, _], o, hb, h => ⟨h, fun r hr => by simp [fillO] at hr⟩
theorem one_sm {k : Int} (hk : 0 ≤ k ∧ k ≤ 10) {bs : List Int} (hb : IsB bs) : Sm (one k bs).1 := by
  have h := fillO_sm (fieldsOf k) bs ⟨k, 0, 0, 0, 0, 0⟩ hb ⟨hk, by simp, by simp, by simp, by simp, by simp⟩
  unfold one
  generalize fillO (fieldsOf k) bs ⟨k, 0, 0, 0, 0, 0⟩ = R at *
  obtain ⟨o, r⟩ := R
  cases r with
  | none => exact h.1
  | some r =>
    simp only
    split
    · exact h.1
    · cases r with
      | nil => exact h.1
      | cons b r =>
        obtain ⟨a1, a2, a3, a4, a5, a6⟩ := h.1
        exact ⟨a1, a2, a3, a4, a5, h.2 _ rfl b (by simp)⟩
theorem take_sm : ∀ (n : Nat) (bs : List Int), bs.length ≤ n → IsB bs → ∀ o ∈ take bs, Sm o
  | _, [], _, _ => fun o ho => by simp [take_nil] at ho
  | 0, b :: bs, h, _ => by simp at h
  | n + 1, b :: bs, h, hb => by
    have hl : bs.length ≤ n := by simpa using h
    have hb' : IsB bs := fun x hx => hb x (by simp [hx])
    intro o ho
    rw [take_cons] at ho
    split at ho
    · exact take_sm n bs hl hb' o ho
    · have h1 := one_sm (k := b % 11) (by omega) hb'
      generalize one (b % 11) bs = R at *
      obtain ⟨o1, m, ok⟩ := R
      cases ok with
      | false => simp at ho
      | true =>
        simp only [List.mem_cons] at ho
        rcases ho with rfl | ho
        · exact h1
        · exact take_sm n (bs.drop m) (by rw [List.length_drop]; omega) (fun x hx => hb' x (List.mem_of_mem_drop hx)) o ho
theorem take_ok (bs : List Int) (hb : IsB bs) : ∀ o ∈ take bs, W.OpOk o := fun o ho => (take_sm bs.length bs (Nat.le_refl _) hb o ho).ok
def playF (bs : List Int) : List W.An × Nat := if (decF bs).2.2 = false then ([], 2) else W.runF (decF bs).1 (decF bs).2.1
set_option maxRecDepth 20000 in
set_option maxHeartbeats 4000000 in
theorem playRun_told {bs : List Int} (hb : IsB bs) (hl : bs.length ≤ 1000000) : Told P T play_Run [] [.lst t_uint8 (encB bs)] (.tup [W.lA (playF bs).1, i64 ((playF bs).2 : Nat)]) [] := by
  have d1 := dec_told hb hl
  have hok : ∀ o ∈ (decF bs).2.1, W.OpOk o := by
    unfold decF
    split
    · intro o ho; simp at ho
    · exact take_ok _ fun x hx => hb x (List.mem_of_mem_drop hx)
  have r1 := W.runHeap_told (decF bs).1 hok
  unfold playF
  generalize decF bs = D at *
  obtain ⟨r, l, ok⟩ := D
  unfold W.lA at *
  cases ok with
  | false =>
    simp only [if_true]
    refine told_of_ev (fn := play_Run_fn) tabOk mixed (by kernel_rfl) (by kernel_rfl) (by kernel_rfl) (by kernel_rfl) ?_
    (refine gw ?_; refine Choice.mk ⟨false, Choice.mk ⟨false, _, _, d1, ?_⟩⟩)
    (refine gw ?_)
    exact RetN.fz ⟨[true], [], rfl, rfl, rfl⟩
  | true =>
    rw [if_neg (show ¬ (true = false) by decide)]
    refine told_of_ev (fn := play_Run_fn) tabOk mixed (by kernel_rfl) (by kernel_rfl) (by kernel_rfl) (by kernel_rfl) ?_
    (refine gw ?_; refine Choice.mk ⟨false, Choice.mk ⟨false, _, _, d1, ?_⟩⟩)
    (refine gw ?_; refine Choice.mk ⟨false, Choice.mk ⟨false, _, _, r1, ?_⟩⟩)
    (refine gw ?_; exact RetN.mk ⟨[], rfl, rfl, rfl⟩)
end Go.Ev.X
namespace Go.Ev.X
open Go.Ev Go.Ev.N
open Go.Ev.W (i64)

def rY : W.Rw := ⟨1, 4, 8, 4, 6, 9⟩
def oY : O := ⟨9, 0, 0, 0, 0, 0⟩
def bY : List Int := [0, 0, 1, 0, 0, 4, 0, 0, 8, 0, 0, 4, 0, 0, 6, 9, 9]
theorem encY : encF rY [oY] = bY := by decide +kernel
theorem decY : decF bY = (rY, [oY], true) := by decide +kernel
theorem playY : playF bY = ([W.an0], 0) := by decide +kernel
theorem bY_ok : IsB bY := by unfold IsB; decide
set_option maxRecDepth 20000 in
set_option maxHeartbeats 4000000 in
theorem begun27_told : Told P T law27_begun [] [] (.bool true) [] := by
  have c1 := encode_told rY (l := [oY]) (fun o ho => by simp at ho; subst ho; exact ⟨by decide, by decide⟩) (by simp)
  have c2 := dec_told bY_ok (by decide)
  have c3 := dec_told (bs := []) (fun x h => by simp at h) (by simp)
  have c4 := playRun_told bY_ok (by decide)
  have c5 := playRun_told (bs := []) (fun x h => by simp at h) (by simp)
  rw [encY] at c1
  rw [decY] at c2
  rw [playY] at c4
  rw [show decF [] = (⟨0, 0, 0, 0, 0, 0⟩, [], false) from rfl] at c3
  rw [show playF [] = ([], 2) from rfl] at c5
  refine told_of_ev (fn := law27_begun_fn) tabOk mixed (by kernel_rfl) (by kernel_rfl) (by kernel_rfl) (by kernel_rfl) ?_
  (refine gw ?_; refine Choice.mk ⟨false, Choice.mk ⟨false, _, _, c1, ?_⟩⟩)
  (refine gw ?_; refine Choice.mk ⟨false, Choice.mk ⟨false, _, _, c2, ?_⟩⟩)
  (refine gw ?_; refine Choice.mk ⟨false, Choice.mk ⟨false, _, _, c3, ?_⟩⟩)
  (refine gw ?_; refine Choice.mk ⟨false, Choice.mk ⟨false, _, _, c4, ?_⟩⟩)
  (refine gw ?_; refine Choice.mk ⟨false, Choice.mk ⟨false, _, _, c5, ?_⟩⟩)
  (refine gw ?_; exact RetN.mk ⟨[], rfl, rfl, rfl⟩)
theorem bytesOf {bs : List Int} (hb : IsB bs) : ∃ s : ByteArray, encB bs = s.data.toList.map fun b => .int .u8 b.toNat := by
  refine ⟨⟨(bs.map fun b => UInt8.ofNat b.toNat).toArray⟩, ?_⟩
  simp only [encB, List.map_map]
  refine List.map_congr_left fun b h => ?_
  have := hb b h
  simp only [Function.comp]
  congr 1
  rw [UInt8.toNat_ofNat']
  omega
end Go.Ev.X
namespace Go.Ev.X
open Go.Ev Go.Ev.N
open Go.Ev.W (i64)

def bF : List Int := [0, 0, 1, 0, 0, 4, 0, 0, 8, 0, 0, 4, 0, 1, 2, 5, 1, 0, 0, 3, 9]
def rF : W.Rw := ⟨1, 4, 8, 4, 258, 5⟩
def lF : List O := [⟨1, 0, 3, 0, 0, 0⟩, ⟨9, 0, 0, 0, 0, 0⟩]
def rG : W.Rw := ⟨-1, 16777216, 16777221, 0, 65536, 257⟩
theorem decF1 : decF bF = (rF, lF, true) := by decide +kernel
theorem playF1 : (playF bF).2 = 0 ∧ (playF bF).1.length = 2 ∧ ((playF bF).1.getD 0 W.an0).at' = 0 := by decide +kernel
theorem encF1 : encF rF lF = bF := by decide +kernel
theorem encF2 : encF rG [] = [255, 255, 255, 0, 0, 0, 0, 0, 5, 0, 0, 0, 1, 0, 0, 1] := by decide +kernel
theorem bF_ok : IsB bF := by unfold IsB; decide
set_option maxRecDepth 20000 in
set_option maxHeartbeats 4000000 in
theorem playForms_told : Told P T law27_PlayForms [] [] (.bool true) [] := by
  have c1 := dec_told bF_ok (by decide)
  have c2 := playRun_told bF_ok (by decide)
  have c3 := encode_told rG (l := []) (fun o ho => by simp at ho) (by simp)
  have c4 := encode_told rF (l := lF) (fun o ho => by
    simp only [lF, List.mem_cons, List.not_mem_nil, or_false] at ho
    rcases ho with rfl | rfl <;> exact ⟨by decide, by decide⟩) (by decide)
  rw [decF1] at c1
  rw [encF1] at c4
  rw [encF2] at c3
  obtain ⟨p1, p2, p3⟩ := playF1
  rw [p1] at c2
  generalize (playF bF).1 = an at *
  obtain ⟨x, y, rfl⟩ : ∃ x y, an = [x, y] := by
    match an, p2 with
    | [x, y], _ => exact ⟨x, y, rfl⟩
  have p3 : x.at' = 0 := p3
  obtain ⟨b1, b2, b3, b4, b5, b6, b7, b8⟩ := x
  simp only at p3
  subst p3
  refine told_of_ev (fn := law27_PlayForms_fn) tabOk mixed (by kernel_rfl) (by kernel_rfl) (by kernel_rfl) (by kernel_rfl) ?_
  (refine gw ?_; refine Choice.mk ⟨false, Choice.mk ⟨false, _, _, begun27_told, ?_⟩⟩)
  (refine gw ?_)
  refine Need.mk (by decide) ?_
  (refine gw ?_; refine Choice.mk ⟨false, Choice.mk ⟨false, _, _, c1, ?_⟩⟩)
  (refine gw ?_; refine Choice.mk ⟨false, Choice.mk ⟨false, _, _, c2, ?_⟩⟩)
  (refine gw ?_; refine Choice.mk ⟨false, Choice.mk ⟨false, _, _, c3, ?_⟩⟩)
  (refine gw ?_)
  refine Idx.mk ⟨_, by omega, rfl, ?_⟩
  (refine gw ?_)
  refine Bytes.mk ⟨⟨#[255, 255, 255, 0, 0, 0, 0, 0, 5, 0, 0, 0, 1, 0, 0, 1]⟩, rfl, ?_⟩
  (refine gw ?_; refine Choice.mk ⟨false, Choice.mk ⟨false, _, _, c4, ?_⟩⟩)
  (refine gw ?_)
  refine Bytes.mk ⟨⟨#[0, 0, 1, 0, 0, 4, 0, 0, 8, 0, 0, 4, 0, 1, 2, 5, 1, 0, 0, 3, 9]⟩, rfl, ?_⟩
  (refine gw ?_)
  refine Bytes.mk ⟨⟨#[0, 0, 1, 0, 0, 4, 0, 0, 8, 0, 0, 4, 0, 1, 2, 5, 1, 0, 0, 3, 9]⟩, rfl, ?_⟩
  (refine gw ?_; refine RetN.mk ⟨[], rfl, ?_, rfl⟩)
  show AV.bool _ = _
  simp
end Go.Ev.X
