/- Words and lemmas, part 3, for laws of this seat (a part of their proofs). -/
import Derived.Test.YtbhjocgepgpnmaaGreatQ1
import Derived.Test.YtbhjocgepgpnmaaGreatQ2
import Derived.Test.YtbhjocgepgpnmaaGreatNm
import Derived.Test.YtbhjocgepgpnmaaGreatEvOpen
import Derived.Test.YtbhjocgepgpnmaaGreatEvLib
import Derived.Test.YtbhjocgepgpnmaaGreatEvGrid
import Derived.Test.YtbhjocgepgpnmaaGreatEvTrim
set_option linter.unusedVariables false
set_option linter.unusedSimpArgs false
namespace Go.Ev.X
open Go.Ev Go.Ev.N
open Go.Ev.W (i64 idx_map wrapU64)

theorem tk_skip {b : Int} {t : List Int} (h : b % 11 = 0) : take (b :: t) = take t := by rw [take_cons, if_pos h]
theorem tk_short {b : Int} {t : List Int} {k : Int} (hk : b % 11 = k) (h0 : k ≠ 0) {o : O} {n : Nat} (h : one k t = (o, n, false)) : take (b :: t) = [] := by rw [take_cons, if_neg (by omega), hk, h]
theorem tk_ok {b : Int} {t : List Int} {k : Int} (hk : b % 11 = k) (h0 : k ≠ 0) {o : O} {n : Nat} (h : one k t = (o, n, true)) : take (b :: t) = o :: take (t.drop n) := by rw [take_cons, if_neg (by omega), hk, h]
theorem num1 {b : Int} {t : List Int} (hb : IsB (b :: t)) (hl : (b :: t).length ≤ 1000000) : Told P T ref17_reader_num [rdB (b :: t) false] [.ptr 0 0 0, i64 1] (i64 b) [rdB t false] := by
  have h := num_ok hb hl (n := 1) (by omega) (by simp)
  have e : valF (b :: t) 1 = b := by simp [valF]
  rw [e] at h
  exact h
theorem num3 {x y z : Int} {t : List Int} (hb : IsB (x :: y :: z :: t)) (hl : (x :: y :: z :: t).length ≤ 1000000) : Told P T ref17_reader_num [rdB (x :: y :: z :: t) false] [.ptr 0 0 0, i64 3] (i64 (rd3 x y z)) [rdB t false] := by
  have h := num_ok hb hl (n := 3) (by omega) (by simp)
  have e : valF (x :: y :: z :: t) 3 = rd3 x y z := by simp [valF, rd3]; omega
  rw [e] at h
  exact h
theorem split3 (t : List Int) : t.length < 3 ∨ ∃ x y z u, t = x :: y :: z :: u := by
  match t with
  | [] => exact .inl (by simp)
  | [_] => exact .inl (by simp)
  | [_, _] => exact .inl (by simp)
  | x :: y :: z :: u => exact .inr ⟨x, y, z, u, rfl⟩
theorem fill_short {f : UInt8} {fs : List UInt8} {t : List Int} {o : O} (h : t.length < 3) : fillO (f :: fs) t o = (o, none) := by
  match t, h with
  | [], _ => rfl
  | [_], _ => rfl
  | [_, _], _ => rfl
  | _ :: _ :: _ :: _, h => simp at h; omega
theorem one1_s {t : List Int} (h : t.length < 3) : ∃ o n, one 1 t = (o, n, false) := by
  unfold one; rw [show fieldsOf 1 = [83] from rfl, fill_short h]; exact ⟨_, _, rfl⟩
theorem one1_o {x y z : Int} {t : List Int} : one 1 (x :: y :: z :: t) = (⟨1, 0, rd3 x y z, 0, 0, 0⟩, 3, true) := by
  unfold one; rw [show fieldsOf 1 = [83] from rfl]; simp only [fillO]; rw [if_pos (by decide)]
  refine Prod.ext rfl (Prod.ext ?_ rfl)
  simp only [List.length_cons]; omega
theorem one2_s {t : List Int} (h : t.length < 3) : ∃ o n, one 2 t = (o, n, false) := by
  unfold one; rw [show fieldsOf 2 = [78, 83] from rfl, fill_short h]; exact ⟨_, _, rfl⟩
theorem one2_s2 {x y z : Int} {t : List Int} (h : t.length < 3) : ∃ o n, one 2 (x :: y :: z :: t) = (o, n, false) := by
  unfold one; rw [show fieldsOf 2 = [78, 83] from rfl]; simp only [fillO]; rw [fill_short h]; exact ⟨_, _, rfl⟩
theorem one2_o {x y z x2 y2 z2 : Int} {t : List Int} : one 2 (x :: y :: z :: x2 :: y2 :: z2 :: t) = (⟨2, 0, rd3 x2 y2 z2, 0, rd3 x y z, 0⟩, 6, true) := by
  unfold one; rw [show fieldsOf 2 = [78, 83] from rfl]; simp only [fillO]; rw [if_pos (by decide)]
  refine Prod.ext rfl (Prod.ext ?_ rfl)
  simp only [List.length_cons]; omega
theorem one3_s {t : List Int} (h : t.length < 3) : ∃ o n, one 3 t = (o, n, false) := by
  unfold one; rw [show fieldsOf 3 = [83, 65] from rfl, fill_short h]; exact ⟨_, _, rfl⟩
theorem one3_s2 {x y z : Int} {t : List Int} (h : t.length < 3) : ∃ o n, one 3 (x :: y :: z :: t) = (o, n, false) := by
  unfold one; rw [show fieldsOf 3 = [83, 65] from rfl]; simp only [fillO]; rw [fill_short h]; exact ⟨_, _, rfl⟩
theorem one3_o {x y z x2 y2 z2 : Int} {t : List Int} : one 3 (x :: y :: z :: x2 :: y2 :: z2 :: t) = (⟨3, 0, rd3 x y z, rd3 x2 y2 z2, 0, 0⟩, 6, true) := by
  unfold one; rw [show fieldsOf 3 = [83, 65] from rfl]; simp only [fillO]; rw [if_pos (by decide)]
  refine Prod.ext rfl (Prod.ext ?_ rfl)
  simp only [List.length_cons]; omega
theorem one4_s {t : List Int} (h : t.length < 3) : ∃ o n, one 4 t = (o, n, false) := by
  unfold one; rw [show fieldsOf 4 = [80, 83] from rfl, fill_short h]; exact ⟨_, _, rfl⟩
theorem one4_s2 {x y z : Int} {t : List Int} (h : t.length < 3) : ∃ o n, one 4 (x :: y :: z :: t) = (o, n, false) := by
  unfold one; rw [show fieldsOf 4 = [80, 83] from rfl]; simp only [fillO]; rw [fill_short h]; exact ⟨_, _, rfl⟩
theorem one4_o {x y z x2 y2 z2 : Int} {t : List Int} : one 4 (x :: y :: z :: x2 :: y2 :: z2 :: t) = (⟨4, rd3 x y z, rd3 x2 y2 z2, 0, 0, 0⟩, 6, true) := by
  unfold one; rw [show fieldsOf 4 = [80, 83] from rfl]; simp only [fillO]; rw [if_pos (by decide)]
  refine Prod.ext rfl (Prod.ext ?_ rfl)
  simp only [List.length_cons]; omega
theorem one5_s {t : List Int} (h : t.length < 3) : ∃ o n, one 5 t = (o, n, false) := by
  unfold one; rw [show fieldsOf 5 = [80] from rfl, fill_short h]; exact ⟨_, _, rfl⟩
theorem one5_o {x y z : Int} {t : List Int} : one 5 (x :: y :: z :: t) = (⟨5, rd3 x y z, 0, 0, 0, 0⟩, 3, true) := by
  unfold one; rw [show fieldsOf 5 = [80] from rfl]; simp only [fillO]; rw [if_pos (by decide)]
  refine Prod.ext rfl (Prod.ext ?_ rfl)
  simp only [List.length_cons]; omega
theorem one6_s {t : List Int} (h : t.length < 3) : ∃ o n, one 6 t = (o, n, false) := by
  unfold one; rw [show fieldsOf 6 = [80] from rfl, fill_short h]; exact ⟨_, _, rfl⟩
theorem one6_o {x y z : Int} {t : List Int} : one 6 (x :: y :: z :: t) = (⟨6, rd3 x y z, 0, 0, 0, 0⟩, 3, true) := by
  unfold one; rw [show fieldsOf 6 = [80] from rfl]; simp only [fillO]; rw [if_pos (by decide)]
  refine Prod.ext rfl (Prod.ext ?_ rfl)
  simp only [List.length_cons]; omega
theorem one7_s {t : List Int} (h : t.length < 3) : ∃ o n, one 7 t = (o, n, false) := by
  unfold one; rw [show fieldsOf 7 = [80, 78] from rfl, fill_short h]; exact ⟨_, _, rfl⟩
theorem one7_s2 {x y z : Int} {t : List Int} (h : t.length < 3) : ∃ o n, one 7 (x :: y :: z :: t) = (o, n, false) := by
  unfold one; rw [show fieldsOf 7 = [80, 78] from rfl]; simp only [fillO]; rw [fill_short h]; exact ⟨_, _, rfl⟩
theorem one7_o {x y z x2 y2 z2 : Int} {t : List Int} : one 7 (x :: y :: z :: x2 :: y2 :: z2 :: t) = (⟨7, rd3 x y z, 0, 0, rd3 x2 y2 z2, 0⟩, 6, true) := by
  unfold one; rw [show fieldsOf 7 = [80, 78] from rfl]; simp only [fillO]; rw [if_pos (by decide)]
  refine Prod.ext rfl (Prod.ext ?_ rfl)
  simp only [List.length_cons]; omega
theorem one8_s {t : List Int} (h : t.length < 3) : ∃ o n, one 8 t = (o, n, false) := by
  unfold one; rw [show fieldsOf 8 = [80, 78] from rfl, fill_short h]; exact ⟨_, _, rfl⟩
theorem one8_s2 {x y z : Int} {t : List Int} (h : t.length < 3) : ∃ o n, one 8 (x :: y :: z :: t) = (o, n, false) := by
  unfold one; rw [show fieldsOf 8 = [80, 78] from rfl]; simp only [fillO]; rw [fill_short h]; exact ⟨_, _, rfl⟩
theorem one8_s3 {x y z x2 y2 z2 : Int} : ∃ o n, one 8 (x :: y :: z :: x2 :: y2 :: z2 :: []) = (o, n, false) := ⟨_, _, rfl⟩
theorem one8_o {w : Int} {x y z x2 y2 z2 : Int} {t : List Int} : one 8 (x :: y :: z :: x2 :: y2 :: z2 :: w :: t) = (⟨8, rd3 x y z, 0, 0, rd3 x2 y2 z2, w⟩, 7, true) := by
  unfold one; rw [show fieldsOf 8 = [80, 78] from rfl]; simp only [fillO]; rw [if_neg (by decide)]
  refine Prod.ext rfl (Prod.ext ?_ rfl)
  simp only [List.length_cons]; omega
theorem one9_o {t : List Int} : one 9 (t) = (⟨9, 0, 0, 0, 0, 0⟩, 0, true) := by
  unfold one; rw [show fieldsOf 9 = [] from rfl]; simp only [fillO]; rw [if_pos (by decide)]
  refine Prod.ext rfl (Prod.ext ?_ rfl)
  simp only [List.length_cons]; omega
theorem one10_o {t : List Int} : one 10 (t) = (⟨10, 0, 0, 0, 0, 0⟩, 0, true) := by
  unfold one; rw [show fieldsOf 10 = [] from rfl]; simp only [fillO]; rw [if_pos (by decide)]
  refine Prod.ext rfl (Prod.ext ?_ rfl)
  simp only [List.length_cons]; omega

set_option maxRecDepth 20000 in
set_option maxHeartbeats 16000000 in
theorem takeOps_told (bs0 : List Int) (hb0 : IsB bs0) (hl0 : bs0.length ≤ 1000000) : Told P T ref17_TakeOps [] [.lst t_uint8 (encB bs0)] (.ref 0) [.row t_api_Op ((take bs0).map encO)] := by
  refine told_of_ev (fn := ref17_TakeOps_fn) tabOk mixed (by kernel_rfl) (by kernel_rfl) (by kernel_rfl) (by kernel_rfl) ?_
  (refine gw ?_)
  refine LoopN.mk ⟨[3, 4], fun vs L => ∃ (bs : List Int) (os : List O), vs = [.ptr 0 0 0, .ref 1] ∧ L = [rdB bs false, .row t_api_Op (os.map encO)] ∧ IsB bs ∧ os.length + bs.length ≤ bs0.length ∧ take bs0 = os ++ take bs, fun vs L => match L with | [.var (.agg [.lst _ es, _]), _] => es.length | _ => 0, [], [1, 2], rfl, ⟨bs0, [], rfl, rfl, hb0, by simp, rfl⟩, ?_⟩
  rintro vs L ⟨bs, os, rfl, rfl, hb, hlen, he⟩
  have hle := encB_len bs
  have hom : (os.map encO).length = os.length := by simp
  cases bs with
  | nil =>
    rw [take_nil, List.append_nil] at he
    rw [he]
    (refine gw ?_)
    exact RetN.mk ⟨[1], rfl, rfl, rfl⟩
  | cons b t =>
    have hbb := hb.hd
    have ht := hb.tail
    simp only [List.length_cons] at hlen
    have n1 := num1 hb (by simp; omega)
    have hmod : b.tmod 11 = b % 11 := Int.tmod_eq_emod_of_nonneg hbb.1
    have hlt := encB_len t
    obtain ⟨k, hk⟩ : ∃ k, b % 11 = k := ⟨_, rfl⟩
    have hk0 : 0 ≤ k ∧ k ≤ 10 := by omega
    (refine gw ?_; refine IfB.tt (by rw [hle]; simp) ?_)
    (refine gw ?_; refine Choice.mk ⟨true, Choice.mk ⟨false, _, _, n1, ?_⟩⟩)
    (refine gw ?_)
    rw [hmod, hk]
    rcases (by omega : k = 0 ∨ k = 1 ∨ k = 2 ∨ k = 3 ∨ k = 4 ∨ k = 5 ∨ k = 6 ∨ k = 7 ∨ k = 8 ∨ k = 9 ∨ k = 10) with h | h | h | h | h | h | h | h | h | h | h
    · subst h
      (refine gw ?_)
      refine ⟨[], [0, 1], rfl, ⟨t, os, rfl, rfl, ht, by omega, by rw [he, tk_skip hk]⟩, ?_⟩
      show (encB t).length < (encB (b :: t)).length
      simp only [encB_len, List.length_cons]; omega
    · subst h
      rcases split3 t with hs3 | ⟨x, y, z, u, rfl⟩
      · have c1 := num_short t false (n := 3) (.inr hs3) (by omega) (by omega)
        (refine gw ?_; refine Choice.mk ⟨true, Choice.mk ⟨false, _, _, c1, ?_⟩⟩)
        obtain ⟨o, n, hs⟩ := one1_s (t := t) hs3
        rw [tk_short hk (by decide) hs, List.append_nil] at he
        rw [he]
        (refine gw ?_)
        exact RetN.mk ⟨[1], rfl, rfl, rfl⟩
      · simp only [List.length_cons] at hlen
        have c1 := num3 ht (by simp; omega)
        (refine gw ?_; refine Choice.mk ⟨true, Choice.mk ⟨false, _, _, c1, ?_⟩⟩)
        have hu := ht.tail.tail.tail
        (refine gw ?_; refine Room.mk (by first | omega | (simp; omega) | (simp <;> fail)) ?_)
        (refine gw ?_)
        refine ⟨[], [0, 4], rfl, ⟨((x :: y :: z :: u).drop 3), os ++ [⟨1, 0, rd3 x y z, 0, 0, 0⟩], rfl, by rw [show (os ++ [(⟨1, 0, rd3 x y z, 0, 0, 0⟩ : O)]).map encO = os.map encO ++ [encO ⟨1, 0, rd3 x y z, 0, 0, 0⟩] from by simp]; rfl, hu.drop 0, by simp only [List.length_append, List.length_cons, List.length_nil, List.length_drop] at hlen ⊢; omega, by rw [he, tk_ok hk (by decide) one1_o]; simp⟩, ?_⟩
        show (encB ((x :: y :: z :: u).drop 3)).length < (encB _).length
        simp only [encB_len, List.length_cons, List.drop_succ_cons, List.drop_zero]; omega
    · subst h
      rcases split3 t with hs3 | ⟨x, y, z, u, rfl⟩
      · have c1 := num_short t false (n := 3) (.inr hs3) (by omega) (by omega)
        (refine gw ?_; refine Choice.mk ⟨true, Choice.mk ⟨false, _, _, c1, ?_⟩⟩)
        (refine gw ?_; refine Choice.mk ⟨true, Choice.mk ⟨false, _, _, num_short t true (n := 3) (.inl rfl) (by omega) (by omega), ?_⟩⟩)
        obtain ⟨o, n, hs⟩ := one2_s (t := t) hs3
        rw [tk_short hk (by decide) hs, List.append_nil] at he
        rw [he]
        (refine gw ?_)
        exact RetN.mk ⟨[1], rfl, rfl, rfl⟩
      · simp only [List.length_cons] at hlen
        have c1 := num3 ht (by simp; omega)
        (refine gw ?_; refine Choice.mk ⟨true, Choice.mk ⟨false, _, _, c1, ?_⟩⟩)
        have hu := ht.tail.tail.tail
        rcases split3 u with hs3 | ⟨x2, y2, z2, u2, rfl⟩
        · have c2 := num_short u false (n := 3) (.inr hs3) (by omega) (by omega)
          (refine gw ?_; refine Choice.mk ⟨true, Choice.mk ⟨false, _, _, c2, ?_⟩⟩)
          obtain ⟨o, n, hs⟩ := one2_s2 (x := x) (y := y) (z := z) hs3
          rw [tk_short hk (by decide) hs, List.append_nil] at he
          rw [he]
          (refine gw ?_)
          exact RetN.mk ⟨[1], rfl, rfl, rfl⟩
        · simp only [List.length_cons] at hlen
          have c2 := num3 hu (by simp; omega)
          (refine gw ?_; refine Choice.mk ⟨true, Choice.mk ⟨false, _, _, c2, ?_⟩⟩)
          have hu2 := hu.tail.tail.tail
          (refine gw ?_; refine Room.mk (by first | omega | (simp; omega) | (simp <;> fail)) ?_)
          (refine gw ?_)
          refine ⟨[], [0, 4], rfl, ⟨((x :: y :: z :: x2 :: y2 :: z2 :: u2).drop 6), os ++ [⟨2, 0, rd3 x2 y2 z2, 0, rd3 x y z, 0⟩], rfl, by rw [show (os ++ [(⟨2, 0, rd3 x2 y2 z2, 0, rd3 x y z, 0⟩ : O)]).map encO = os.map encO ++ [encO ⟨2, 0, rd3 x2 y2 z2, 0, rd3 x y z, 0⟩] from by simp]; rfl, hu2.drop 0, by simp only [List.length_append, List.length_cons, List.length_nil, List.length_drop] at hlen ⊢; omega, by rw [he, tk_ok hk (by decide) one2_o]; simp⟩, ?_⟩
          show (encB ((x :: y :: z :: x2 :: y2 :: z2 :: u2).drop 6)).length < (encB _).length
          simp only [encB_len, List.length_cons, List.drop_succ_cons, List.drop_zero]; omega
    · subst h
      rcases split3 t with hs3 | ⟨x, y, z, u, rfl⟩
      · have c1 := num_short t false (n := 3) (.inr hs3) (by omega) (by omega)
        (refine gw ?_; refine Choice.mk ⟨true, Choice.mk ⟨false, _, _, c1, ?_⟩⟩)
        (refine gw ?_; refine Choice.mk ⟨true, Choice.mk ⟨false, _, _, num_short t true (n := 3) (.inl rfl) (by omega) (by omega), ?_⟩⟩)
        obtain ⟨o, n, hs⟩ := one3_s (t := t) hs3
        rw [tk_short hk (by decide) hs, List.append_nil] at he
        rw [he]
        (refine gw ?_)
        exact RetN.mk ⟨[1], rfl, rfl, rfl⟩
      · simp only [List.length_cons] at hlen
        have c1 := num3 ht (by simp; omega)
        (refine gw ?_; refine Choice.mk ⟨true, Choice.mk ⟨false, _, _, c1, ?_⟩⟩)
        have hu := ht.tail.tail.tail
        rcases split3 u with hs3 | ⟨x2, y2, z2, u2, rfl⟩
        · have c2 := num_short u false (n := 3) (.inr hs3) (by omega) (by omega)
          (refine gw ?_; refine Choice.mk ⟨true, Choice.mk ⟨false, _, _, c2, ?_⟩⟩)
          obtain ⟨o, n, hs⟩ := one3_s2 (x := x) (y := y) (z := z) hs3
          rw [tk_short hk (by decide) hs, List.append_nil] at he
          rw [he]
          (refine gw ?_)
          exact RetN.mk ⟨[1], rfl, rfl, rfl⟩
        · simp only [List.length_cons] at hlen
          have c2 := num3 hu (by simp; omega)
          (refine gw ?_; refine Choice.mk ⟨true, Choice.mk ⟨false, _, _, c2, ?_⟩⟩)
          have hu2 := hu.tail.tail.tail
          (refine gw ?_; refine Room.mk (by first | omega | (simp; omega) | (simp <;> fail)) ?_)
          (refine gw ?_)
          refine ⟨[], [0, 4], rfl, ⟨((x :: y :: z :: x2 :: y2 :: z2 :: u2).drop 6), os ++ [⟨3, 0, rd3 x y z, rd3 x2 y2 z2, 0, 0⟩], rfl, by rw [show (os ++ [(⟨3, 0, rd3 x y z, rd3 x2 y2 z2, 0, 0⟩ : O)]).map encO = os.map encO ++ [encO ⟨3, 0, rd3 x y z, rd3 x2 y2 z2, 0, 0⟩] from by simp]; rfl, hu2.drop 0, by simp only [List.length_append, List.length_cons, List.length_nil, List.length_drop] at hlen ⊢; omega, by rw [he, tk_ok hk (by decide) one3_o]; simp⟩, ?_⟩
          show (encB ((x :: y :: z :: x2 :: y2 :: z2 :: u2).drop 6)).length < (encB _).length
          simp only [encB_len, List.length_cons, List.drop_succ_cons, List.drop_zero]; omega
    · subst h
      rcases split3 t with hs3 | ⟨x, y, z, u, rfl⟩
      · have c1 := num_short t false (n := 3) (.inr hs3) (by omega) (by omega)
        (refine gw ?_; refine Choice.mk ⟨true, Choice.mk ⟨false, _, _, c1, ?_⟩⟩)
        (refine gw ?_; refine Choice.mk ⟨true, Choice.mk ⟨false, _, _, num_short t true (n := 3) (.inl rfl) (by omega) (by omega), ?_⟩⟩)
        obtain ⟨o, n, hs⟩ := one4_s (t := t) hs3
        rw [tk_short hk (by decide) hs, List.append_nil] at he
        rw [he]
        (refine gw ?_)
        exact RetN.mk ⟨[1], rfl, rfl, rfl⟩
      · simp only [List.length_cons] at hlen
        have c1 := num3 ht (by simp; omega)
        (refine gw ?_; refine Choice.mk ⟨true, Choice.mk ⟨false, _, _, c1, ?_⟩⟩)
        have hu := ht.tail.tail.tail
        rcases split3 u with hs3 | ⟨x2, y2, z2, u2, rfl⟩
        · have c2 := num_short u false (n := 3) (.inr hs3) (by omega) (by omega)
          (refine gw ?_; refine Choice.mk ⟨true, Choice.mk ⟨false, _, _, c2, ?_⟩⟩)
          obtain ⟨o, n, hs⟩ := one4_s2 (x := x) (y := y) (z := z) hs3
          rw [tk_short hk (by decide) hs, List.append_nil] at he
          rw [he]
          (refine gw ?_)
          exact RetN.mk ⟨[1], rfl, rfl, rfl⟩
        · simp only [List.length_cons] at hlen
          have c2 := num3 hu (by simp; omega)
          (refine gw ?_; refine Choice.mk ⟨true, Choice.mk ⟨false, _, _, c2, ?_⟩⟩)
          have hu2 := hu.tail.tail.tail
          (refine gw ?_; refine Room.mk (by first | omega | (simp; omega) | (simp <;> fail)) ?_)
          (refine gw ?_)
          refine ⟨[], [0, 4], rfl, ⟨((x :: y :: z :: x2 :: y2 :: z2 :: u2).drop 6), os ++ [⟨4, rd3 x y z, rd3 x2 y2 z2, 0, 0, 0⟩], rfl, by rw [show (os ++ [(⟨4, rd3 x y z, rd3 x2 y2 z2, 0, 0, 0⟩ : O)]).map encO = os.map encO ++ [encO ⟨4, rd3 x y z, rd3 x2 y2 z2, 0, 0, 0⟩] from by simp]; rfl, hu2.drop 0, by simp only [List.length_append, List.length_cons, List.length_nil, List.length_drop] at hlen ⊢; omega, by rw [he, tk_ok hk (by decide) one4_o]; simp⟩, ?_⟩
          show (encB ((x :: y :: z :: x2 :: y2 :: z2 :: u2).drop 6)).length < (encB _).length
          simp only [encB_len, List.length_cons, List.drop_succ_cons, List.drop_zero]; omega
    · subst h
      rcases split3 t with hs3 | ⟨x, y, z, u, rfl⟩
      · have c1 := num_short t false (n := 3) (.inr hs3) (by omega) (by omega)
        (refine gw ?_; refine Choice.mk ⟨true, Choice.mk ⟨false, _, _, c1, ?_⟩⟩)
        obtain ⟨o, n, hs⟩ := one5_s (t := t) hs3
        rw [tk_short hk (by decide) hs, List.append_nil] at he
        rw [he]
        (refine gw ?_)
        exact RetN.mk ⟨[1], rfl, rfl, rfl⟩
      · simp only [List.length_cons] at hlen
        have c1 := num3 ht (by simp; omega)
        (refine gw ?_; refine Choice.mk ⟨true, Choice.mk ⟨false, _, _, c1, ?_⟩⟩)
        have hu := ht.tail.tail.tail
        (refine gw ?_; refine Room.mk (by first | omega | (simp; omega) | (simp <;> fail)) ?_)
        (refine gw ?_)
        refine ⟨[], [0, 4], rfl, ⟨((x :: y :: z :: u).drop 3), os ++ [⟨5, rd3 x y z, 0, 0, 0, 0⟩], rfl, by rw [show (os ++ [(⟨5, rd3 x y z, 0, 0, 0, 0⟩ : O)]).map encO = os.map encO ++ [encO ⟨5, rd3 x y z, 0, 0, 0, 0⟩] from by simp]; rfl, hu.drop 0, by simp only [List.length_append, List.length_cons, List.length_nil, List.length_drop] at hlen ⊢; omega, by rw [he, tk_ok hk (by decide) one5_o]; simp⟩, ?_⟩
        show (encB ((x :: y :: z :: u).drop 3)).length < (encB _).length
        simp only [encB_len, List.length_cons, List.drop_succ_cons, List.drop_zero]; omega
    · subst h
      rcases split3 t with hs3 | ⟨x, y, z, u, rfl⟩
      · have c1 := num_short t false (n := 3) (.inr hs3) (by omega) (by omega)
        (refine gw ?_; refine Choice.mk ⟨true, Choice.mk ⟨false, _, _, c1, ?_⟩⟩)
        obtain ⟨o, n, hs⟩ := one6_s (t := t) hs3
        rw [tk_short hk (by decide) hs, List.append_nil] at he
        rw [he]
        (refine gw ?_)
        exact RetN.mk ⟨[1], rfl, rfl, rfl⟩
      · simp only [List.length_cons] at hlen
        have c1 := num3 ht (by simp; omega)
        (refine gw ?_; refine Choice.mk ⟨true, Choice.mk ⟨false, _, _, c1, ?_⟩⟩)
        have hu := ht.tail.tail.tail
        (refine gw ?_; refine Room.mk (by first | omega | (simp; omega) | (simp <;> fail)) ?_)
        (refine gw ?_)
        refine ⟨[], [0, 4], rfl, ⟨((x :: y :: z :: u).drop 3), os ++ [⟨6, rd3 x y z, 0, 0, 0, 0⟩], rfl, by rw [show (os ++ [(⟨6, rd3 x y z, 0, 0, 0, 0⟩ : O)]).map encO = os.map encO ++ [encO ⟨6, rd3 x y z, 0, 0, 0, 0⟩] from by simp]; rfl, hu.drop 0, by simp only [List.length_append, List.length_cons, List.length_nil, List.length_drop] at hlen ⊢; omega, by rw [he, tk_ok hk (by decide) one6_o]; simp⟩, ?_⟩
        show (encB ((x :: y :: z :: u).drop 3)).length < (encB _).length
        simp only [encB_len, List.length_cons, List.drop_succ_cons, List.drop_zero]; omega
    · subst h
      rcases split3 t with hs3 | ⟨x, y, z, u, rfl⟩
      · have c1 := num_short t false (n := 3) (.inr hs3) (by omega) (by omega)
        (refine gw ?_; refine Choice.mk ⟨true, Choice.mk ⟨false, _, _, c1, ?_⟩⟩)
        (refine gw ?_; refine Choice.mk ⟨true, Choice.mk ⟨false, _, _, num_short t true (n := 3) (.inl rfl) (by omega) (by omega), ?_⟩⟩)
        obtain ⟨o, n, hs⟩ := one7_s (t := t) hs3
        rw [tk_short hk (by decide) hs, List.append_nil] at he
        rw [he]
        (refine gw ?_)
        exact RetN.mk ⟨[1], rfl, rfl, rfl⟩
      · simp only [List.length_cons] at hlen
        have c1 := num3 ht (by simp; omega)
        (refine gw ?_; refine Choice.mk ⟨true, Choice.mk ⟨false, _, _, c1, ?_⟩⟩)
        have hu := ht.tail.tail.tail
        rcases split3 u with hs3 | ⟨x2, y2, z2, u2, rfl⟩
        · have c2 := num_short u false (n := 3) (.inr hs3) (by omega) (by omega)
          (refine gw ?_; refine Choice.mk ⟨true, Choice.mk ⟨false, _, _, c2, ?_⟩⟩)
          obtain ⟨o, n, hs⟩ := one7_s2 (x := x) (y := y) (z := z) hs3
          rw [tk_short hk (by decide) hs, List.append_nil] at he
          rw [he]
          (refine gw ?_)
          exact RetN.mk ⟨[1], rfl, rfl, rfl⟩
        · simp only [List.length_cons] at hlen
          have c2 := num3 hu (by simp; omega)
          (refine gw ?_; refine Choice.mk ⟨true, Choice.mk ⟨false, _, _, c2, ?_⟩⟩)
          have hu2 := hu.tail.tail.tail
          (refine gw ?_; refine Room.mk (by first | omega | (simp; omega) | (simp <;> fail)) ?_)
          (refine gw ?_)
          refine ⟨[], [0, 4], rfl, ⟨((x :: y :: z :: x2 :: y2 :: z2 :: u2).drop 6), os ++ [⟨7, rd3 x y z, 0, 0, rd3 x2 y2 z2, 0⟩], rfl, by rw [show (os ++ [(⟨7, rd3 x y z, 0, 0, rd3 x2 y2 z2, 0⟩ : O)]).map encO = os.map encO ++ [encO ⟨7, rd3 x y z, 0, 0, rd3 x2 y2 z2, 0⟩] from by simp]; rfl, hu2.drop 0, by simp only [List.length_append, List.length_cons, List.length_nil, List.length_drop] at hlen ⊢; omega, by rw [he, tk_ok hk (by decide) one7_o]; simp⟩, ?_⟩
          show (encB ((x :: y :: z :: x2 :: y2 :: z2 :: u2).drop 6)).length < (encB _).length
          simp only [encB_len, List.length_cons, List.drop_succ_cons, List.drop_zero]; omega
    · subst h
      rcases split3 t with hs3 | ⟨x, y, z, u, rfl⟩
      · have c1 := num_short t false (n := 3) (.inr hs3) (by omega) (by omega)
        (refine gw ?_; refine Choice.mk ⟨true, Choice.mk ⟨false, _, _, c1, ?_⟩⟩)
        (refine gw ?_; refine Choice.mk ⟨true, Choice.mk ⟨false, _, _, num_short t true (n := 3) (.inl rfl) (by omega) (by omega), ?_⟩⟩)
        (refine gw ?_; refine Choice.mk ⟨true, Choice.mk ⟨false, _, _, num_short t true (n := 1) (.inl rfl) (by omega) (by omega), ?_⟩⟩)
        (refine gw ?_)
        refine fits (by rw [IntKind.wrap_u8]; decide) ?_
        obtain ⟨o, n, hs⟩ := one8_s (t := t) hs3
        rw [tk_short hk (by decide) hs, List.append_nil] at he
        rw [he]
        (refine gw ?_)
        exact RetN.mk ⟨[1], rfl, rfl, rfl⟩
      · simp only [List.length_cons] at hlen
        have c1 := num3 ht (by simp; omega)
        (refine gw ?_; refine Choice.mk ⟨true, Choice.mk ⟨false, _, _, c1, ?_⟩⟩)
        have hu := ht.tail.tail.tail
        rcases split3 u with hs3 | ⟨x2, y2, z2, u2, rfl⟩
        · have c2 := num_short u false (n := 3) (.inr hs3) (by omega) (by omega)
          (refine gw ?_; refine Choice.mk ⟨true, Choice.mk ⟨false, _, _, c2, ?_⟩⟩)
          (refine gw ?_; refine Choice.mk ⟨true, Choice.mk ⟨false, _, _, num_short u true (n := 1) (.inl rfl) (by omega) (by omega), ?_⟩⟩)
          (refine gw ?_)
          refine fits (by rw [IntKind.wrap_u8]; decide) ?_
          obtain ⟨o, n, hs⟩ := one8_s2 (x := x) (y := y) (z := z) hs3
          rw [tk_short hk (by decide) hs, List.append_nil] at he
          rw [he]
          (refine gw ?_)
          exact RetN.mk ⟨[1], rfl, rfl, rfl⟩
        · simp only [List.length_cons] at hlen
          have c2 := num3 hu (by simp; omega)
          (refine gw ?_; refine Choice.mk ⟨true, Choice.mk ⟨false, _, _, c2, ?_⟩⟩)
          have hu2 := hu.tail.tail.tail
          cases u2 with
          | nil =>
            (refine gw ?_; refine Choice.mk ⟨true, Choice.mk ⟨false, _, _, num_short [] false (n := 1) (.inr (by simp)) (by simp) (by omega), ?_⟩⟩)
            (refine gw ?_)
            refine fits (by rw [IntKind.wrap_u8]; decide) ?_
            obtain ⟨o, n, hs⟩ := one8_s3 (x := x) (y := y) (z := z) (x2 := x2) (y2 := y2) (z2 := z2)
            rw [tk_short hk (by decide) hs, List.append_nil] at he
            rw [he]
            (refine gw ?_)
            exact RetN.mk ⟨[1], rfl, rfl, rfl⟩
          | cons w u3 =>
            simp only [List.length_cons] at hlen
            have hw := hu2.hd
            (refine gw ?_; refine Choice.mk ⟨true, Choice.mk ⟨false, _, _, num1 hu2 (by simp; omega), ?_⟩⟩)
            (refine gw ?_)
            refine fits (by rw [IntKind.wrap_u8]; omega) ?_
            (refine gw ?_; refine Room.mk (by first | omega | (simp; omega) | (simp <;> fail)) ?_)
            (refine gw ?_)
            refine ⟨[], [0, 4], rfl, ⟨((x :: y :: z :: x2 :: y2 :: z2 :: w :: u3).drop 7), os ++ [⟨8, rd3 x y z, 0, 0, rd3 x2 y2 z2, w⟩], rfl, by rw [show (os ++ [(⟨8, rd3 x y z, 0, 0, rd3 x2 y2 z2, w⟩ : O)]).map encO = os.map encO ++ [encO ⟨8, rd3 x y z, 0, 0, rd3 x2 y2 z2, w⟩] from by simp]; rfl, hu2.tail.drop 0, by simp only [List.length_append, List.length_cons, List.length_nil, List.length_drop] at hlen ⊢; omega, by rw [he, tk_ok hk (by decide) one8_o]; simp⟩, ?_⟩
            show (encB ((x :: y :: z :: x2 :: y2 :: z2 :: w :: u3).drop 7)).length < (encB _).length
            simp only [encB_len, List.length_cons, List.drop_succ_cons, List.drop_zero]; omega
    · subst h
      (refine gw ?_; refine Room.mk (by first | omega | (simp; omega) | (simp <;> fail)) ?_)
      (refine gw ?_)
      refine ⟨[], [0, 4], rfl, ⟨(t.drop 0), os ++ [⟨9, 0, 0, 0, 0, 0⟩], rfl, by rw [show (os ++ [(⟨9, 0, 0, 0, 0, 0⟩ : O)]).map encO = os.map encO ++ [encO ⟨9, 0, 0, 0, 0, 0⟩] from by simp]; rfl, ht.drop 0, by simp only [List.length_append, List.length_cons, List.length_nil, List.length_drop] at hlen ⊢; omega, by rw [he, tk_ok hk (by decide) one9_o]; simp⟩, ?_⟩
      show (encB (t.drop 0)).length < (encB _).length
      simp only [encB_len, List.length_cons, List.drop_succ_cons, List.drop_zero]; omega
    · subst h
      (refine gw ?_; refine Room.mk (by first | omega | (simp; omega) | (simp <;> fail)) ?_)
      (refine gw ?_)
      refine ⟨[], [0, 4], rfl, ⟨(t.drop 0), os ++ [⟨10, 0, 0, 0, 0, 0⟩], rfl, by rw [show (os ++ [(⟨10, 0, 0, 0, 0, 0⟩ : O)]).map encO = os.map encO ++ [encO ⟨10, 0, 0, 0, 0, 0⟩] from by simp]; rfl, ht.drop 0, by simp only [List.length_append, List.length_cons, List.length_nil, List.length_drop] at hlen ⊢; omega, by rw [he, tk_ok hk (by decide) one10_o]; simp⟩, ?_⟩
      show (encB (t.drop 0)).length < (encB _).length
      simp only [encB_len, List.length_cons, List.drop_succ_cons, List.drop_zero]; omega
end Go.Ev.X
namespace Go.Ev.X
open Go.Ev Go.Ev.N
open Go.Ev.W (i64 idx_map wrapU64)

set_option maxRecDepth 20000 in
set_option maxHeartbeats 8000000 in
theorem putOps_told (l : List O) (hO : ∀ o ∈ l, IsO o) (hl : l.length ≤ 1000000) : Told P T ref17_PutOps [] [.lst t_api_Op (l.map encO)] (.ref 0) [.row t_uint8 (encB (putAll l))] := by
  have hll : (l.map encO).length = l.length := by simp
  refine told_of_ev (fn := ref17_PutOps_fn) tabOk mixed (by kernel_rfl) (by kernel_rfl) (by kernel_rfl) (by kernel_rfl) ?_
  (refine gw ?_; refine LoopN.mk ⟨[0,3,4], fun vs L => ∃ i : Nat, vs = [.lst t_api_Op (l.map encO), .ref 0, i64 i] ∧ L = [.row t_uint8 (encB (putAll (l.take i)))] ∧ i ≤ l.length ∧ (putAll (l.take i)).length ≤ 8 * i, fun vs L => match vs with | [_, _, .int _ i] => l.length - i.toNat | _ => 0, [], [1], rfl, ⟨0, rfl, rfl, Nat.zero_le _, Nat.zero_le _⟩, ?_⟩)
  rintro vs L ⟨i, rfl, rfl, hi, hlen⟩
  by_cases hlt : i < l.length
  · have ho : IsO l[i] := hO _ (List.getElem_mem hlt)
    have hsucc : putAll (l.take (i + 1)) = putAll (l.take i) ++ (if take (putO l[i]) = [l[i]] then putO l[i] else []) := by
      unfold putAll
      rw [List.take_succ_eq_append_getElem hlt, List.flatMap_append, List.flatMap_cons, List.flatMap_nil, List.append_nil]
    have hpl := put_len l[i]
    (refine gw ?_; refine IfB.tt (by rw [hll]; simp; omega) ?_)
    (refine gw ?_; refine idx_map (hlt) ?_)
    (refine gw ?_; refine Choice.mk ⟨false, Choice.mk ⟨false, _, _, putOp_told l[i], ?_⟩⟩)
    (refine gw ?_; refine Choice.mk ⟨false, Choice.mk ⟨false, _, _, takeOps_told (putO l[i]) (isB_put ho) (by omega), ?_⟩⟩)
    by_cases h3 : (take (putO l[i])).length = 1
    · obtain ⟨x, hx⟩ : ∃ x, take (putO l[i]) = [x] := by
        match take (putO l[i]), h3 with
        | [x], _ => exact ⟨x, rfl⟩
      rw [hx] at hsucc
      rw [hx]
      (refine gw ?_; refine InB.mk (by first | omega | (simp; omega) | (simp <;> fail)) (by first | omega | (simp; omega) | (simp <;> fail)) ?_)
      (refine gw ?_)
      refine At.mk ⟨encO x, rfl, ?_⟩
      (refine gw ?_; refine idx_map (hlt) ?_)
      (refine gw ?_)
      refine IfB.mk (fun h4 => ?_) (fun h4 => ?_)
      · have hxe : x = l[i] := encO_inj (by simpa using h4)
        rw [if_pos (by rw [hxe])] at hsucc
        (refine gw ?_; refine Room.mk (by simp [encB]; omega) ?_)
        (refine gw ?_; refine ⟨[], [3], rfl, ⟨i + 1, rfl, by rw [hsucc, encB_app]; rfl, hlt, by rw [hsucc, List.length_append]; omega⟩, (by omega : l.length - ((i : Int) + 1).toNat < l.length - (i : Int).toNat)⟩)
      · have hxe : ¬ [x] = [l[i]] := by
          intro e; simp at e; subst e; simp at h4
        rw [if_neg hxe, List.append_nil] at hsucc
        (refine gw ?_; refine ⟨[], [0], rfl, ⟨i + 1, rfl, by rw [hsucc]; rfl, hlt, by rw [hsucc]; omega⟩, (by omega : l.length - ((i : Int) + 1).toNat < l.length - (i : Int).toNat)⟩)
    · have h4 : ¬ take (putO l[i]) = [l[i]] := by
        intro e; rw [e] at h3; simp at h3
      rw [if_neg h4, List.append_nil] at hsucc
      have h5 : ((take (putO l[i])).map encO).length = (take (putO l[i])).length := by simp
      (refine gw ?_; refine IfB.ff (by rw [h5]; simp; omega) ?_)
      (refine gw ?_; refine ⟨[], [0], rfl, ⟨i + 1, rfl, by rw [hsucc]; rfl, hlt, by rw [hsucc]; omega⟩, (by omega : l.length - ((i : Int) + 1).toNat < l.length - (i : Int).toNat)⟩)
  · have hge : i = l.length := by omega
    subst hge
    rw [List.take_length]
    (refine gw ?_)
    exact RetN.mk ⟨[0], rfl, rfl, rfl⟩
end Go.Ev.X
namespace Go.Ev.X
open Go.Ev Go.Ev.N
open Go.Ev.W (i64)

theorem num_any {bs : List Int} (hb : IsB bs) (hl : bs.length ≤ 1000000) (sh : Bool) {n : Nat} (hn : n ≤ 3) : ∃ v bs' sh', Told P T ref17_reader_num [rdB bs sh] [.ptr 0 0 0, i64 n] (i64 v) [rdB bs' sh'] ∧ IsB bs' ∧ bs'.length ≤ 1000000 ∧ (sh' = true ∨ (sh = false ∧ bs'.length + n = bs.length)) := by
  by_cases h : sh = true ∨ bs.length < n
  · exact ⟨0, bs, true, num_short bs sh h hl (by omega), hb, hl, .inl rfl⟩
  · have h1 : sh = false := by cases sh; rfl; exact absurd (.inl rfl) h
    have h2 : n ≤ bs.length := by omega
    subst h1
    exact ⟨_, _, _, num_ok hb hl hn h2, fun x hx => hb x (List.mem_of_mem_drop hx), by rw [List.length_drop]; omega, .inr ⟨rfl, by rw [List.length_drop]; omega⟩⟩
set_option maxRecDepth 20000 in
set_option maxHeartbeats 4000000 in
theorem decode17_short {bs : List Int} (hb : IsB bs) (h : bs.length < 16) : Told P T ref17_Decode [] [.lst t_uint8 (encB bs)] (.tup [W.eR ⟨0, 0, 0, 0, 0, 0⟩, .lst t_api_Op [], .bool false]) [] := by
  obtain ⟨v1, b1, s1, t1, q1, l1, r1⟩ := num_any hb (by omega) false (n := 3) (by omega)
  obtain ⟨v2, b2, s2, t2, q2, l2, r2⟩ := num_any q1 l1 s1 (n := 3) (by omega)
  obtain ⟨v3, b3, s3, t3, q3, l3, r3⟩ := num_any q2 l2 s2 (n := 3) (by omega)
  obtain ⟨v4, b4, s4, t4, q4, l4, r4⟩ := num_any q3 l3 s3 (n := 3) (by omega)
  obtain ⟨v5, b5, s5, t5, q5, l5, r5⟩ := num_any q4 l4 s4 (n := 3) (by omega)
  obtain ⟨v6, b6, s6, t6, q6, l6, r6⟩ := num_any q5 l5 s5 (n := 1) (by omega)
  have hs : s6 = true := by
    rcases r6 with h6 | ⟨h5, e6⟩
    · exact h6
    · rcases r5 with h' | ⟨h4, e5⟩
      · rw [h5] at h'; cases h'
      · rcases r4 with h' | ⟨h3, e4⟩
        · rw [h4] at h'; cases h'
        · rcases r3 with h' | ⟨h2, e3⟩
          · rw [h3] at h'; cases h'
          · rcases r2 with h' | ⟨h1, e2⟩
            · rw [h2] at h'; cases h'
            · rcases r1 with h' | ⟨_, e1⟩
              · rw [h1] at h'; cases h'
              · omega
  subst hs
  unfold rdB at *
  refine told_of_ev (fn := ref17_Decode_fn) tabOk mixed (by kernel_rfl) (by kernel_rfl) (by kernel_rfl) (by kernel_rfl) ?_
  (refine gw ?_; refine Choice.mk ⟨false, Choice.mk ⟨false, _, _, t1, ?_⟩⟩)
  (refine gw ?_; refine Choice.mk ⟨false, Choice.mk ⟨false, _, _, t2, ?_⟩⟩)
  (refine gw ?_; refine Choice.mk ⟨false, Choice.mk ⟨false, _, _, t3, ?_⟩⟩)
  (refine gw ?_; refine Choice.mk ⟨false, Choice.mk ⟨false, _, _, t4, ?_⟩⟩)
  (refine gw ?_; refine Choice.mk ⟨false, Choice.mk ⟨false, _, _, t5, ?_⟩⟩)
  (refine gw ?_; refine Choice.mk ⟨false, Choice.mk ⟨false, _, _, t6, ?_⟩⟩)
  (refine gw ?_)
  exact RetN.fz ⟨[false, true, false], [], rfl, rfl, rfl⟩
theorem valF3 (bs : List Int) : valF bs 3 = rd3 (bs.getD 0 0) (bs.getD 1 0) (bs.getD 2 0) := by
  simp only [valF, rd3]; omega
theorem getD_drop (bs : List Int) (k j : Nat) : (bs.drop k).getD j 0 = bs.getD (k + j) 0 := by
  simp [List.getD_eq_getElem?_getD, List.getElem?_drop]
set_option maxRecDepth 20000 in
set_option maxHeartbeats 4000000 in
theorem decode17_told {bs : List Int} (hb : IsB bs) (hl : bs.length ≤ 1000000) (h : 16 ≤ bs.length) : Told P T ref17_Decode [] [.lst t_uint8 (encB bs)] (.tup [W.eR (rawB bs), .lst t_api_Op ((take (bs.drop 16)).map encO), .bool true]) [] := by
  have hd : ∀ k, IsB (bs.drop k) ∧ (bs.drop k).length ≤ 1000000 ∧ (bs.drop k).length = bs.length - k := fun k => ⟨fun x hx => hb x (List.mem_of_mem_drop hx), by rw [List.length_drop]; omega, by rw [List.length_drop]⟩
  have t1 := num_ok hb hl (n := 3) (by omega) (by omega)
  have t2 := num_ok (hd 3).1 (hd 3).2.1 (n := 3) (by omega) (by rw [(hd 3).2.2]; omega)
  have t3 := num_ok (hd 6).1 (hd 6).2.1 (n := 3) (by omega) (by rw [(hd 6).2.2]; omega)
  have t4 := num_ok (hd 9).1 (hd 9).2.1 (n := 3) (by omega) (by rw [(hd 9).2.2]; omega)
  have t5 := num_ok (hd 12).1 (hd 12).2.1 (n := 3) (by omega) (by rw [(hd 12).2.2]; omega)
  have t6 := num_ok (hd 15).1 (hd 15).2.1 (n := 1) (by omega) (by rw [(hd 15).2.2]; omega)
  have t7 := takeOps_told (bs.drop 16) (hd 16).1 (hd 16).2.1
  rw [List.drop_drop] at t2 t3 t4 t5 t6
  rw [valF3] at t1 t2 t3 t4 t5
  rw [show valF (bs.drop 15) 1 = (bs.drop 15).getD 0 0 by simp [valF]] at t6
  simp only [getD_drop] at t2 t3 t4 t5 t6
  unfold rdB rawB rw3 W.eR at *
  refine told_of_ev (fn := ref17_Decode_fn) tabOk mixed (by kernel_rfl) (by kernel_rfl) (by kernel_rfl) (by kernel_rfl) ?_
  (refine gw ?_; refine Choice.mk ⟨false, Choice.mk ⟨false, _, _, t1, ?_⟩⟩)
  (refine gw ?_; refine Choice.mk ⟨false, Choice.mk ⟨false, _, _, t2, ?_⟩⟩)
  (refine gw ?_; refine Choice.mk ⟨false, Choice.mk ⟨false, _, _, t3, ?_⟩⟩)
  (refine gw ?_; refine Choice.mk ⟨false, Choice.mk ⟨false, _, _, t4, ?_⟩⟩)
  (refine gw ?_; refine Choice.mk ⟨false, Choice.mk ⟨false, _, _, t5, ?_⟩⟩)
  (refine gw ?_; refine Choice.mk ⟨false, Choice.mk ⟨false, _, _, t6, ?_⟩⟩)
  (refine gw ?_; refine Choice.mk ⟨false, Choice.mk ⟨false, _, _, t7, ?_⟩⟩)
  (refine gw ?_)
  exact RetN.fz ⟨[false, true, false], [], rfl, rfl, rfl⟩
theorem threeN_told (v : Int) : Told P T ref17_three [] [.nsl t_uint8, i64 v] (.ref 0) [.row t_uint8 (encB (three v))] := by
  refine told_of_ev (fn := ref17_three_fn) tabOk mixed (by kernel_rfl) (by kernel_rfl) (by kernel_rfl) (by kernel_rfl) ?_
  (refine gw ?_)
  refine ⟨?_⟩
  (refine gw ?_)
  refine ⟨?_⟩
  (refine gw ?_)
  refine ⟨?_⟩
  (refine gw ?_; refine Room.mk (by first | omega | (simp; omega) | (simp <;> fail)) ?_)
  (refine gw ?_)
  first | exact RetN.mk ⟨[0], rfl, rfl, rfl⟩ | exact RetN.mk ⟨[1], rfl, rfl, rfl⟩ | exact RetN.mk ⟨[2], rfl, rfl, rfl⟩ | exact RetN.mk ⟨[3], rfl, rfl, rfl⟩
set_option maxRecDepth 20000 in
set_option maxHeartbeats 8000000 in
theorem encode17_told (r : W.Rw) {l : List O} (ho : ∀ o ∈ l, IsO o) (hl : l.length ≤ 100000) : Told P T ref17_Encode [] [W.eR r, .lst t_api_Op (l.map encO)] (.lst t_uint8 (encB (encF r l))) [] := by
  have c1 := putOps_told l ho (by omega)
  have hpl := putAll_le l
  have hle : (encB (putAll l)).length = (putAll l).length := by simp [encB]
  have t1 := threeN_told r.g
  have t2 := three_told (three r.g) r.l (by simp [three])
  have t3 := three_told (three r.g ++ three r.l) r.m (by simp [three])
  have t4 := three_told (three r.g ++ three r.l ++ three r.m) r.p (by simp [three])
  have t5 := three_told (three r.g ++ three r.l ++ three r.m ++ three r.p) r.b (by simp [three])
  have e1 : encB (encF r l) = (encB (three r.g ++ three r.l ++ three r.m ++ three r.p ++ three r.b) ++ [.int .u8 (w8 r.s)]) ++ encB (putAll l) := by
    unfold encF headF
    rw [encB_app, encB_app]; rfl
  rw [e1]
  have hel : (encB (three r.g ++ three r.l ++ three r.m ++ three r.p ++ three r.b)).length = 15 := by simp [encB, three]
  unfold W.eR
  refine told_of_ev (fn := ref17_Encode_fn) tabOk mixed (by kernel_rfl) (by kernel_rfl) (by kernel_rfl) (by kernel_rfl) ?_
  (refine gw ?_; refine Choice.mk ⟨true, Choice.mk ⟨false, _, _, t1, ?_⟩⟩)
  (refine gw ?_; refine Choice.mk ⟨true, Choice.mk ⟨false, _, _, t2, ?_⟩⟩)
  (refine gw ?_; refine Choice.mk ⟨true, Choice.mk ⟨false, _, _, t3, ?_⟩⟩)
  (refine gw ?_; refine Choice.mk ⟨true, Choice.mk ⟨false, _, _, t4, ?_⟩⟩)
  (refine gw ?_; refine Choice.mk ⟨true, Choice.mk ⟨false, _, _, t5, ?_⟩⟩)
  (refine gw ?_)
  refine Fits.mk ?_
  (refine gw ?_)
  refine Room.mk (by rw [hel]; simp) ?_
  (refine gw ?_; refine Choice.mk ⟨false, Choice.mk ⟨false, _, _, c1, ?_⟩⟩)
  (refine gw ?_)
  refine Room.mk (by rw [List.length_append, hel, hle]; simp; omega) ?_
  (refine gw ?_)
  exact RetN.fz ⟨[true], [], rfl, rfl, rfl⟩
end Go.Ev.X
namespace Go.Ev.W
open Go.Ev Go.Ev.N

theorem shp_u8 {n : Nat} {t : Nat} {x : AV} (hk : (T t).k = .int .u8) (h : Shp T (n + 1) t x) : ∃ b : Nat, x = u8 b ∧ b < 256 := by
  unfold Shp at h
  rw [hk] at h
  obtain ⟨a, rfl, ha⟩ := h
  have h1 : IntKind.u8.min ≤ a ∧ a ≤ IntKind.u8.max := by simpa [Lit.wf] using ha
  have e1 : IntKind.u8.min = 0 := by decide
  have e2 : IntKind.u8.max = 255 := by decide
  rw [e1, e2] at h1
  refine ⟨a.toNat, ?_, by omega⟩
  show _ = AV.int .u8 ((a.toNat : Nat) : Int)
  rw [show ((a.toNat : Nat) : Int) = a by omega]
theorem shp_i64 {n : Nat} {t : Nat} {x : AV} (hk : (T t).k = .int .i64) (h : Shp T (n + 1) t x) : ∃ a : Int, x = i64 a ∧ -9223372036854775808 ≤ a ∧ a ≤ 9223372036854775807 := by
  unfold Shp at h
  rw [hk] at h
  obtain ⟨a, rfl, ha⟩ := h
  have h1 : IntKind.i64.min ≤ a ∧ a ≤ IntKind.i64.max := by simpa [Lit.wf] using ha
  have e1 : IntKind.i64.min = -9223372036854775808 := by decide
  have e2 : IntKind.i64.max = 9223372036854775807 := by decide
  rw [e1, e2] at h1
  exact ⟨a, rfl, h1.1, h1.2⟩
/-- A row, of what its elements are. -/
theorem shp_list {α : Type} (enc : α → AV) (Q : α → Prop) {n t e : Nat} {x : AV} (hk : (T t).k = .slice e) (h : Shp T (n + 1) t x) (he : ∀ y, Shp T n e y → ∃ a, y = enc a ∧ Q a) : ∃ l : List α, x = .lst e (l.map enc) ∧ l.length ≤ maxLen ∧ ∀ a ∈ l, Q a := by
  unfold Shp at h
  rw [hk] at h
  obtain ⟨es, rfl, hl, hy⟩ := h
  have : ∃ l : List α, es = l.map enc ∧ ∀ a ∈ l, Q a := by
    clear hl
    induction es with
    | nil => exact ⟨[], rfl, fun a h => by simp at h⟩
    | cons y es ih =>
      obtain ⟨l, rfl, hb⟩ := ih fun z hz => hy z (by simp [hz])
      obtain ⟨a, rfl, ha⟩ := he y (hy y (by simp))
      exact ⟨a :: l, rfl, fun b hb' => (List.mem_cons.1 hb').elim (fun e => e ▸ ha) (hb b)⟩
  obtain ⟨l, rfl, hq⟩ := this
  exact ⟨l, rfl, by simpa using hl, hq⟩
theorem shp_bytes {n : Nat} {x : AV} (h : Shp T (n + 2) ts_uint8 x) : ∃ l, x = lB l ∧ IsB l ∧ l.length ≤ maxLen := by
  obtain ⟨l, rfl, h1, h2⟩ := shp_list (e := t_uint8) u8 (fun b => b < 256) (by kernel_rfl) h fun y hy => by
    obtain ⟨b, rfl, hb⟩ := shp_u8 (by kernel_rfl) hy
    exact ⟨b, rfl, hb⟩
  exact ⟨l, rfl, h2, h1⟩
end Go.Ev.W
namespace Go.Ev.W
open Go.Ev Go.Ev.N

abbrev u64 (n : Nat) : AV := .int .u64 (n : Int)
/-- A number of so many bits. -/
def wB : Nat → (Nat → Bool) → Nat
  | 0, _ => 0
  | n + 1, f => 2 ^ n * (f n).toNat + wB n f
theorem wB_lt : ∀ (n : Nat) (f : Nat → Bool), wB n f < 2 ^ n
  | 0, _ => by simp [wB]
  | n + 1, f => by
    have := wB_lt n f
    unfold wB
    rw [Nat.pow_succ]
    cases f n <;> simp <;> omega
theorem wB_bit : ∀ (n : Nat) (f : Nat → Bool) (j : Nat), (wB n f).testBit j = (decide (j < n) && f j)
  | 0, f, j => by simp [wB]
  | n + 1, f, j => by
    have hl := wB_lt n f
    have ih := wB_bit n f
    unfold wB
    cases hf : f n with
    | false =>
      simp only [Bool.toNat_false, Nat.mul_zero, Nat.zero_add]
      rw [ih j]
      by_cases hj : j = n
      · subst hj; simp [hf]
      · have : decide (j < n + 1) = decide (j < n) := decide_eq_decide.2 (by omega)
        rw [this]
    | true =>
      simp only [Bool.toNat_true, Nat.mul_one]
      rcases Nat.lt_trichotomy j n with h | h | h
      · rw [Nat.testBit_two_pow_add_gt h, ih j, decide_eq_true h, decide_eq_true (show j < n + 1 by omega)]
      · subst h
        rw [Nat.testBit_two_pow_add_eq, ih j]; simp [hf]
      · have h2 : 2 ^ n + wB n f < 2 ^ j := by
          have : 2 ^ (n + 1) ≤ 2 ^ j := Nat.pow_le_pow_right (by omega) (by omega)
          rw [Nat.pow_succ] at this
          omega
        rw [Nat.testBit_lt_two_pow h2, decide_eq_false (by omega)]; rfl
theorem wB_congr {n : Nat} {f g : Nat → Bool} (h : ∀ j, j < n → f j = g j) : wB n f = wB n g := by
  apply Nat.eq_of_testBit_eq
  intro j
  rw [wB_bit, wB_bit]
  by_cases hj : j < n
  · rw [h j hj]
  · rw [decide_eq_false hj]; rfl
-- operations on words
theorem b64 {x : Nat} (h : x < 2 ^ 64) : BitVec.ofInt 64 (x : Int) = BitVec.ofNat 64 x := BitVec.ofInt_natCast 64 x
theorem and64 {x y : Nat} (hx : x < 2 ^ 64) (hy : y < 2 ^ 64) : bitsOp .and .u64 (x : Int) (y : Int) = ((x &&& y : Nat) : Int) := by
  have h0 : x &&& y < 2 ^ 64 := Nat.and_lt_two_pow (n := 64) x hy
  have e : (BitVec.ofInt 64 (x : Int) &&& BitVec.ofInt 64 (y : Int)).toNat = x &&& y := by
    rw [BitVec.toNat_and, b64 hx, b64 hy, BitVec.toNat_ofNat, BitVec.toNat_ofNat, Nat.mod_eq_of_lt hx, Nat.mod_eq_of_lt hy]
  show IntKind.u64.wrap ((BitVec.ofInt 64 (x : Int) &&& BitVec.ofInt 64 (y : Int)).toNat : Int) = _
  rw [e]
  exact wrapU64 (by omega) (by omega)
theorem or64 {x y : Nat} (hx : x < 2 ^ 64) (hy : y < 2 ^ 64) : bitsOp .or .u64 (x : Int) (y : Int) = ((x ||| y : Nat) : Int) := by
  have h0 : x ||| y < 2 ^ 64 := Nat.or_lt_two_pow hx hy
  have e : (BitVec.ofInt 64 (x : Int) ||| BitVec.ofInt 64 (y : Int)).toNat = x ||| y := by
    rw [BitVec.toNat_or, b64 hx, b64 hy, BitVec.toNat_ofNat, BitVec.toNat_ofNat, Nat.mod_eq_of_lt hx, Nat.mod_eq_of_lt hy]
  show IntKind.u64.wrap ((BitVec.ofInt 64 (x : Int) ||| BitVec.ofInt 64 (y : Int)).toNat : Int) = _
  rw [e]
  exact wrapU64 (by omega) (by omega)
theorem andn64 {x y : Nat} (hx : x < 2 ^ 64) (hy : y < 2 ^ 64) : bitsOp .andNot .u64 (x : Int) (y : Int) = ((wB 64 fun j => x.testBit j && !y.testBit j : Nat) : Int) := by
  have h0 := wB_lt 64 fun j => x.testBit j && !y.testBit j
  have e : (BitVec.ofInt 64 (x : Int) &&& ~~~(BitVec.ofInt 64 (y : Int))).toNat = wB 64 fun j => x.testBit j && !y.testBit j := by
    apply Nat.eq_of_testBit_eq
    intro j
    rw [wB_bit, b64 hx, b64 hy, BitVec.testBit_toNat, BitVec.getLsbD_and, BitVec.getLsbD_not, BitVec.getLsbD_ofNat, BitVec.getLsbD_ofNat]
    by_cases hj : j < 64 <;> simp [hj]
  show IntKind.u64.wrap ((BitVec.ofInt 64 (x : Int) &&& ~~~(BitVec.ofInt 64 (y : Int))).toNat : Int) = _
  rw [e]
  exact wrapU64 (by omega) (by omega)
theorem not64 {x : Nat} (hx : x < 2 ^ 64) : bitsOp .xor .u64 18446744073709551615 (x : Int) = ((wB 64 fun j => !x.testBit j : Nat) : Int) := by
  have h0 := wB_lt 64 fun j => !x.testBit j
  have e : (BitVec.ofInt 64 (18446744073709551615 : Int) ^^^ BitVec.ofInt 64 (x : Int)).toNat = wB 64 fun j => !x.testBit j := by
    apply Nat.eq_of_testBit_eq
    intro j
    have hm : BitVec.ofInt 64 (18446744073709551615 : Int) = BitVec.allOnes 64 := by decide
    rw [wB_bit, b64 hx, hm, BitVec.testBit_toNat, BitVec.getLsbD_xor, BitVec.getLsbD_allOnes, BitVec.getLsbD_ofNat]
    by_cases hj : j < 64 <;> simp [hj]
  show IntKind.u64.wrap ((BitVec.ofInt 64 (18446744073709551615 : Int) ^^^ BitVec.ofInt 64 (x : Int)).toNat : Int) = _
  rw [e]
  exact wrapU64 (by omega) (by omega)
/-- The lowest bit that is set; 64: none. -/
def lowW (f : Nat → Bool) : Nat := (List.range 64).findIdx f
theorem lowW_eq {f : Nat → Bool} {n : Nat} (hn : n < 64) (h1 : f n = true) (h2 : ∀ j, j < n → f j = false) : lowW f = n := by
  unfold lowW
  rw [List.findIdx_eq (by simpa using hn)]
  exact ⟨by simpa using h1, fun j hj => by simpa using h2 j hj⟩
theorem lowW_none {f : Nat → Bool} (h : ∀ j, j < 64 → f j = false) : lowW f = 64 := by
  unfold lowW
  have : (List.range 64).findIdx f = (List.range 64).length := List.findIdx_eq_length.2 fun x hx => by simpa using h x (by simpa using hx)
  rw [this]; simp
theorem lowW_spec (f : Nat → Bool) : (lowW f = 64 ∧ ∀ j, j < 64 → f j = false) ∨ (lowW f < 64 ∧ f (lowW f) = true ∧ ∀ j, j < lowW f → f j = false) := by
  by_cases h : ∃ j, j < 64 ∧ f j = true
  · right
    have hlt : (List.range 64).findIdx f < (List.range 64).length := List.findIdx_lt_length_of_exists (by obtain ⟨j, h1, h2⟩ := h; exact ⟨j, by simpa using h1, h2⟩)
    have h64 : lowW f < 64 := by simpa [lowW] using hlt
    refine ⟨h64, ?_, fun j hj => ?_⟩
    · have := List.findIdx_getElem (p := f) (xs := List.range 64) (w := hlt)
      simpa [lowW] using this
    · have := List.not_of_lt_findIdx (p := f) (xs := List.range 64) (i := j) hj
      simpa using this
  · left
    have h : ∀ j, j < 64 → f j = false := fun j hj => by
      cases hf : f j with
      | false => rfl
      | true => exact absurd ⟨j, hj, hf⟩ h
    exact ⟨lowW_none h, h⟩
theorem low_eq {u n : Nat} (hn : n < 64) (h1 : u % 2 ^ n = 0) (h2 : (u / 2 ^ n) % 2 = 1) : lowW u.testBit = n := by
  refine lowW_eq hn ?_ fun j hj => ?_
  · rw [Nat.testBit_eq_decide_div_mod_eq, h2]; rfl
  · obtain ⟨q, hq⟩ := Nat.dvd_of_mod_eq_zero h1
    rw [Nat.testBit_eq_decide_div_mod_eq, hq, show n = j + (1 + (n - j - 1)) by omega, Nat.pow_add, Nat.pow_add, Nat.mul_assoc, Nat.mul_div_cancel_left _ (Nat.two_pow_pos j), Nat.pow_one, Nat.mul_assoc]
    simp
structure LowI (u0 k u n : Nat) : Prop where
  eq : u = u0 / 2 ^ n
  z : u0 % 2 ^ n = 0
  m : u % 2 ^ k ≠ 0
  le : n + k ≤ 64
theorem LowI.step {u0 k u n : Nat} (h : LowI u0 (k + k) u n) : LowI u0 k (if u % 2 ^ k = 0 then u / 2 ^ k else u) (if u % 2 ^ k = 0 then n + k else n) := by
  obtain ⟨h1, h2, h3, h4⟩ := h
  split
  · rename_i hz
    obtain ⟨q, hq⟩ := Nat.dvd_of_mod_eq_zero hz
    obtain ⟨p, hp⟩ := Nat.dvd_of_mod_eq_zero h2
    have hpu : p = u := by rw [h1, hp, Nat.mul_div_cancel_left _ (Nat.two_pow_pos n)]
    refine ⟨?_, ?_, ?_, by omega⟩
    · rw [h1, Nat.div_div_eq_div_mul, ← Nat.pow_add]
    · rw [hp, hpu, hq, ← Nat.mul_assoc, ← Nat.pow_add]
      exact Nat.mul_mod_right _ _
    · intro h
      rw [hq, Nat.mul_div_cancel_left _ (Nat.two_pow_pos k)] at h
      obtain ⟨r, hr⟩ := Nat.dvd_of_mod_eq_zero h
      apply h3
      rw [hq, hr, ← Nat.mul_assoc, ← Nat.pow_add]
      exact Nat.mul_mod_right _ _
  · rename_i hz
    exact ⟨h1, h2, hz, by omega⟩
theorem shl1 {k : Nat} (h : k < 64) : (1 : Int) * 2 ^ min ((k : Nat) : Int).toNat IntKind.u64.bits = ((2 ^ k : Nat) : Int) := by
  rw [Int.toNat_natCast, show min k IntKind.u64.bits = k from Nat.min_eq_left (by show k ≤ 64; omega), Int.one_mul]
  simp
theorem shr64 {u k : Nat} (h : k < 64) : ((u : Nat) : Int).fdiv (2 ^ min ((k : Nat) : Int).toNat IntKind.u64.bits) = ((u / 2 ^ k : Nat) : Int) := by
  rw [Int.toNat_natCast, show min k IntKind.u64.bits = k from Nat.min_eq_left (by show k ≤ 64; omega)]
  have : (2 : Int) ^ k = ((2 ^ k : Nat) : Int) := by simp
  rw [this, Int.fdiv_eq_ediv_of_nonneg _ (Int.natCast_nonneg _)]
  exact (Int.natCast_ediv u (2 ^ k)).symm
theorem pow_le63 {k : Nat} (h : k ≤ 63) : 1 ≤ 2 ^ k ∧ 2 ^ k ≤ 9223372036854775808 := ⟨Nat.two_pow_pos k, Nat.pow_le_pow_right (n := 2) (by omega) h⟩
set_option maxHeartbeats 4000000 in
theorem lowOne_told {u0 : Nat} (h0 : u0 < 2 ^ 64) : Told P T word_LowOne [] [u64 u0] (i64 (lowW u0.testBit : Nat)) [] := by
  refine told_of_ev (fn := word_LowOne_fn) tabOk mixed (by kernel_rfl) (by kernel_rfl) (by kernel_rfl) (by kernel_rfl) ?_
  by_cases hz : u0 = 0
  · subst hz
    rw [lowW_none fun j _ => by simp]
    (refine gw ?_; exact RetN.mk ⟨[], rfl, rfl, rfl⟩)
  · (refine gw ?_; refine IfB.ff (by simp; omega) ?_)
    (refine gw ?_; refine LoopN.mk ⟨[0,2,3], fun vs L => ∃ (i u n : Nat), vs = [u64 u, i64 n, u64 (if i = 0 then 0 else 2 ^ (i - 1) : Nat)] ∧ L = [] ∧ i ≤ 6 ∧ LowI u0 (2 ^ i) u n, fun vs L => match vs with | [_, _, .int _ i] => i.toNat | _ => 0, [], [], rfl, ⟨6, u0, 0, rfl, rfl, by omega, ⟨by simp, by simp [Nat.mod_one], by rw [show (2 : Nat) ^ 6 = 64 by decide, Nat.mod_eq_of_lt h0]; exact hz, by decide⟩⟩, ?_⟩)
    rintro vs L ⟨i, u, n, rfl, rfl, hi, hI⟩
    rcases Nat.eq_zero_or_pos i with hi0 | hi0
    · subst hi0
      obtain ⟨e1, e2, e3, e4⟩ := hI
      have hl := low_eq (u := u0) (n := n) (by simp at e4; omega) e2 (by rw [← e1]; simp at e3; omega)
      rw [hl]
      (refine gw ?_; exact RetN.mk ⟨[], rfl, rfl, rfl⟩)
    · obtain ⟨k, hk⟩ : ∃ k, 2 ^ (i - 1) = k := ⟨_, rfl⟩
      have hk2 : 2 ^ i = k + k := by
        rw [← hk]
        conv => lhs; rw [show i = (i - 1) + 1 by omega, Nat.pow_succ]
        omega
      have hk32 : k ≤ 32 ∧ 1 ≤ k := by rw [← hk]; exact ⟨Nat.le_trans (Nat.pow_le_pow_right (by omega) (show i - 1 ≤ 5 by omega)) (by decide), Nat.two_pow_pos _⟩
      rw [hk2] at hI
      rw [if_neg (by omega), hk]
      have hst := hI.step
      have hul : u < 2 ^ 64 := by rw [hI.eq]; exact Nat.lt_of_le_of_lt (Nat.div_le_self _ _) h0
      have hp := pow_le63 (k := k) (by omega)
      have hsl := shl1 (k := k) (by omega)
      have hand : bitsOp .and .u64 ((u : Nat) : Int) (((2 ^ k : Nat) : Int) - 1) = ((u % 2 ^ k : Nat) : Int) := by
        rw [show ((2 ^ k : Nat) : Int) - 1 = ((2 ^ k - 1 : Nat) : Int) by omega, and64 hul (by omega), Nat.and_two_pow_sub_one_eq_mod]
      have hnx : (((k : Nat) : Int)).fdiv (2 ^ min (1 : Int).toNat IntKind.u64.bits) = ((if i - 1 = 0 then 0 else 2 ^ (i - 1 - 1) : Nat) : Int) := by
        have := shr64 (u := k) (k := 1) (by omega)
        rw [show ((1 : Nat) : Int) = (1 : Int) from rfl] at this
        rw [this, ← hk]
        split
        · rename_i h; rw [h]
        · rename_i h
          conv => lhs; rw [show i - 1 = (i - 1 - 1) + 1 by omega, Nat.pow_succ]
          simp
      have hhalf : (if i - 1 = 0 then 0 else 2 ^ (i - 1 - 1) : Nat) < k := by
        rw [← hk]
        split
        · rename_i h; rw [h]; decide
        · rename_i h; exact Nat.pow_lt_pow_right (by omega) (by omega)
      have hn64 := hI.le
      (refine gw ?_; refine IfB.tt (by simp; omega) ?_)
      (refine gw ?_)
      rw [hsl, hand]
      obtain ⟨hf, hhf⟩ : ∃ hf, (if i - 1 = 0 then 0 else 2 ^ (i - 1 - 1) : Nat) = hf := ⟨_, rfl⟩
      rw [hhf] at hnx hhalf
      obtain ⟨um, hum⟩ : ∃ um, u % 2 ^ k = um := ⟨_, rfl⟩
      rw [hum] at hst ⊢
      by_cases hm : um = 0
      · rw [if_pos hm, if_pos hm] at hst
        have hsr := shr64 (u := u) (k := k) (by omega)
        (refine gw ?_; refine IfB.tt (by rw [hm]; rfl) ?_)
        (refine gw ?_)
        rw [hsr]
        (refine gw ?_)
        rw [hnx]
        (refine gw ?_; refine ⟨[], [], rfl, ⟨i - 1, u / 2 ^ k, n + k, by rw [hhf]; rfl, rfl, by omega, by rw [hk]; exact hst⟩, (by omega : ((hf : Nat) : Int).toNat < ((k : Nat) : Int).toNat)⟩)
      · rw [if_neg hm, if_neg hm] at hst
        (refine gw ?_; refine IfB.ff (by simp; omega) ?_)
        (refine gw ?_)
        rw [hnx]
        (refine gw ?_; refine ⟨[], [], rfl, ⟨i - 1, u, n, by rw [hhf]; rfl, rfl, by omega, by rw [hk]; exact hst⟩, (by omega : ((hf : Nat) : Int).toNat < ((k : Nat) : Int).toNat)⟩)
theorem lowZero_told {u : Nat} (h : u < 2 ^ 64) : Told P T word_LowZero [] [u64 u] (i64 (lowW fun j => !u.testBit j : Nat)) [] := by
  have c1 := lowOne_told (wB_lt 64 fun j => !u.testBit j)
  have e : lowW (wB 64 fun j => !u.testBit j).testBit = lowW fun j => !u.testBit j := by
    have h1 : ∀ j, j < 64 → (wB 64 fun j => !u.testBit j).testBit j = !u.testBit j := fun j hj => by rw [wB_bit, decide_eq_true hj, Bool.true_and]
    rcases lowW_spec fun j => !u.testBit j with ⟨e1, e2⟩ | ⟨e1, e2, e3⟩
    · rw [e1]; exact lowW_none fun j hj => by rw [h1 j hj]; exact e2 j hj
    · exact lowW_eq e1 (by rw [h1 _ e1]; exact e2) fun j hj => by rw [h1 j (by omega)]; exact e3 j hj
  rw [e] at c1
  have hx : bitsOp .xor .u64 (if IntKind.u64.signed = true then -1 else IntKind.u64.max) ((u : Nat) : Int) = ((wB 64 fun j => !u.testBit j : Nat) : Int) := not64 h
  refine told_of_ev (fn := word_LowZero_fn) tabOk mixed (by kernel_rfl) (by kernel_rfl) (by kernel_rfl) (by kernel_rfl) ?_
  (refine gw ?_)
  rw [hx]
  (refine gw ?_; refine Choice.mk ⟨false, Choice.mk ⟨true, _, _, c1, ?_⟩⟩)
  (refine gw ?_; exact RetN.mk ⟨[], rfl, rfl, rfl⟩)
/-- Some bits of a word from one on. -/
def maskF (i n : Int) : Nat := if i < 0 ∨ n ≤ 0 ∨ i ≥ 64 then 0 else wB 64 fun j => decide (i ≤ j) && decide ((j : Int) < i + n)
theorem maskF_lt (i n : Int) : maskF i n < 2 ^ 64 := by
  unfold maskF; split
  · decide
  · exact wB_lt _ _
theorem maskF_bit {i n : Int} {j : Nat} (hj : j < 64) (hi : 0 ≤ i) : (maskF i n).testBit j = (decide (i ≤ j) && decide ((j : Int) < i + n)) := by
  unfold maskF
  split
  · rename_i h
    rw [Nat.zero_testBit]
    by_cases h1 : i ≤ (j : Int)
    · rw [decide_eq_false (show ¬ ((j : Int) < i + n) by omega), Bool.and_false]
    · rw [decide_eq_false h1]; rfl
  · rw [wB_bit, decide_eq_true hj, Bool.true_and]
theorem shl64 {u k : Nat} (h : k < 64) : IntKind.u64.wrap (((u : Nat) : Int) * 2 ^ min ((k : Nat) : Int).toNat IntKind.u64.bits) = ((u * 2 ^ k % 2 ^ 64 : Nat) : Int) := by
  rw [Int.toNat_natCast, show min k IntKind.u64.bits = k from Nat.min_eq_left (by show k ≤ 64; omega), IntKind.wrap_u64]
  have : ((u : Nat) : Int) * 2 ^ k = ((u * 2 ^ k : Nat) : Int) := by simp
  rw [this]
  exact (Int.natCast_emod (u * 2 ^ k) (2 ^ 64)).symm
theorem mask_word {i n : Nat} (hi : i < 64) (hn : 1 ≤ n) : (if n < 64 then 2 ^ n - 1 else 2 ^ 64 - 1) * 2 ^ i % 2 ^ 64 = maskF i n := by
  apply Nat.eq_of_testBit_eq
  intro j
  rw [Nat.testBit_mod_two_pow, Nat.testBit_mul_two_pow]
  have h0 : (if n < 64 then 2 ^ n - 1 else 2 ^ 64 - 1 : Nat) = 2 ^ (if n < 64 then n else 64) - 1 := by split <;> rfl
  rw [h0, Nat.testBit_two_pow_sub_one]
  by_cases hj : j < 64
  · rw [maskF_bit hj (by omega), decide_eq_true hj, Bool.true_and]
    by_cases hij : i ≤ j
    · rw [decide_eq_true (show j ≥ i from hij), decide_eq_true (show (i : Int) ≤ (j : Int) by omega), Bool.true_and, Bool.true_and]
      refine decide_eq_decide.2 ?_
      split <;> omega
    · rw [decide_eq_false (show ¬ j ≥ i from hij), decide_eq_false (show ¬ (i : Int) ≤ (j : Int) by omega)]; rfl
  · rw [decide_eq_false hj, Nat.testBit_lt_two_pow (Nat.lt_of_lt_of_le (maskF_lt _ _) (Nat.pow_le_pow_right (by omega) (by omega)))]; rfl
set_option maxHeartbeats 2000000 in
theorem mask_told (i n : Int) (hi : i ≤ 1000000) (hn : -1000000000000 ≤ n ∧ n ≤ 1000000000000) : Told P T word_Mask [] [i64 i, i64 n] (u64 (maskF i n)) [] := by
  refine told_of_ev (fn := word_Mask_fn) tabOk mixed (by kernel_rfl) (by kernel_rfl) (by kernel_rfl) (by kernel_rfl) ?_
  by_cases h1 : i < 0
  · rw [show maskF i n = 0 by unfold maskF; rw [if_pos (.inl h1)]]
    (refine gw ?_; refine IfB.tt (by simpa using h1) ?_)
    (refine gw ?_; exact RetN.mk ⟨[], rfl, rfl, rfl⟩)
  · (refine gw ?_; refine IfB.ff (by simpa using h1) ?_)
    by_cases h2 : n ≤ 0
    · rw [show maskF i n = 0 by unfold maskF; rw [if_pos (.inr (.inl h2))]]
      (refine gw ?_; refine IfB.tt (by simpa using h2) ?_)
      (refine gw ?_; exact RetN.mk ⟨[], rfl, rfl, rfl⟩)
    · (refine gw ?_; refine IfB.ff (by simpa using h2) ?_)
      by_cases h3 : i ≥ 64
      · rw [show maskF i n = 0 by unfold maskF; rw [if_pos (.inr (.inr h3))]]
        (refine gw ?_; refine IfB.tt (by simpa using h3) ?_)
        (refine gw ?_; exact RetN.mk ⟨[], rfl, rfl, rfl⟩)
      · (refine gw ?_; refine IfB.ff (by simpa using h3) ?_)
        obtain ⟨a, rfl⟩ : ∃ a : Nat, i = a := ⟨i.toNat, by omega⟩
        obtain ⟨b, rfl⟩ : ∃ b : Nat, n = b := ⟨n.toNat, by omega⟩
        have hm := mask_word (i := a) (n := b) (by omega) (by omega)
        by_cases h4 : b < 64
        · have hs1 := shl1 (k := b) (by omega)
          have hp := pow_le63 (k := b) (by omega)
          have hs2 := shl64 (u := 2 ^ b - 1) (k := a) (by omega)
          rw [if_pos h4] at hm
          rw [hm] at hs2
          (refine gw ?_; refine IfB.tt (by simp; omega) ?_)
          (refine gw ?_)
          rw [hs1, show ((2 ^ b : Nat) : Int) - 1 = ((2 ^ b - 1 : Nat) : Int) by omega]
          refine ⟨?_⟩
          rw [hs2]
          (refine gw ?_; exact RetN.mk ⟨[], rfl, rfl, rfl⟩)
        · have hs2 := shl64 (u := 2 ^ 64 - 1) (k := a) (by omega)
          rw [if_neg h4] at hm
          rw [hm] at hs2
          have hs2 : IntKind.u64.wrap (18446744073709551615 * 2 ^ min ((a : Nat) : Int).toNat IntKind.u64.bits) = _ := hs2
          (refine gw ?_; refine IfB.ff (by simp; omega) ?_)
          (refine gw ?_)
          refine ⟨?_⟩
          rw [hs2]
          (refine gw ?_; exact RetN.mk ⟨[], rfl, rfl, rfl⟩)
end Go.Ev.W
