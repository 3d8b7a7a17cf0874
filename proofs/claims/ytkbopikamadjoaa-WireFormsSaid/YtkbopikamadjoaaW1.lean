/- Words and lemmas for the law s of this seat (a part of its proof). -/
import Derived.Test.YtkbopikamadjoaaNm
set_option linter.unusedVariables false
set_option linter.unusedSimpArgs false
namespace Go.Ev.W
open Go.Ev Go.Ev.N

theorem fits {k : IntKind} {n : Int} {Q : Int → Prop} (h : k.wrap n = n) (q : Q n) : Fits k n Q := ⟨by rw [h]; exact q⟩
theorem wrap64 {n : Int} (h1 : -9223372036854775808 ≤ n) (h2 : n ≤ 9223372036854775807) : IntKind.i64.wrap n = n := by rw [IntKind.wrap_i64]; omega

structure O where
  k : Int
  p : Int
  s : Int
  a : Int
  n : Int
  b : Int
  deriving DecidableEq

def encO (o : O) : AV := .agg [.int .i64 o.k, .int .i64 o.p, .int .i64 o.s, .int .i64 o.a, .int .i64 o.n, .int .u8 o.b]

theorem sameOps (xs ys : List O) (hx : xs.length < 9223372036854775807) : Told P T ref17_SameOps [] [.lst t_api_Op (xs.map encO), .lst t_api_Op (ys.map encO)] (.bool (decide (xs = ys))) [] := by
  refine told_of_ev (fn := ref17_SameOps_fn) tabOk mixed (by kernel_rfl) (by kernel_rfl) (by kernel_rfl) (by kernel_rfl) ?_
  refine IfB.mk (fun hb => ?_) (fun hb => ?_)
  · refine RetN.mk ⟨[], rfl, ?_, rfl⟩
    show AV.bool false = AV.bool _
    rw [decide_eq_false]
    rintro rfl
    simp at hb
  · have hl : xs.length = ys.length := by simp at hb; omega
    refine LoopN.mk ⟨[0,1,5], fun vs L => ∃ i : Nat, vs = [.lst t_api_Op (xs.map encO), .lst t_api_Op (ys.map encO), .int .i64 i] ∧ i ≤ xs.length ∧ L = [] ∧ xs.take i = ys.take i, fun vs L => match vs with | [_, _, .int _ i] => xs.length - i.toNat | _ => 0, [], rfl, ⟨0, rfl, by omega, rfl, rfl⟩, ?_⟩
    rintro vs L ⟨i, rfl, hi, rfl, ht⟩
    refine IfB.mk (fun hb => ?_) (fun hb => ?_)
    · have hlt : i < xs.length := by simpa using hb
      refine Idx.mk ⟨encO xs[i], by omega, by simp [hlt], ?_⟩
      refine Idx.mk ⟨encO ys[i], by omega, by simp [hl ▸ hlt], ?_⟩
      refine Sure.mk (by kernel_rfl) ?_
      refine IfB.mk (fun hc => ?_) (fun hc => ?_)
      · refine RetN.mk ⟨[], rfl, ?_, rfl⟩
        show AV.bool false = AV.bool _
        rw [decide_eq_false]
        rintro rfl
        simp at hc
      · refine fits (wrap64 (by omega) (by omega)) ?_
        refine ⟨[], rfl, ⟨i + 1, rfl, hlt, rfl, ?_⟩, ?_⟩
        · have : xs[i] = ys[i] := by
            cases hx : xs[i]; cases hy : ys[i]
            rw [hx, hy] at hc
            simpa [encO] using hc
          rw [List.take_succ_eq_append_getElem hlt, List.take_succ_eq_append_getElem (hl ▸ hlt), ht, this]
        · show xs.length - (((i : Int) + 1).toNat) < xs.length - ((i : Int)).toNat
          omega
    · have hge : ¬ i < xs.length := by simpa using hb
      refine RetN.mk ⟨[], rfl, ?_, rfl⟩
      show AV.bool true = AV.bool _
      have : i = xs.length := by omega
      subst this
      rw [List.take_length, hl, List.take_length] at ht
      subst ht
      simp
end Go.Ev.W
