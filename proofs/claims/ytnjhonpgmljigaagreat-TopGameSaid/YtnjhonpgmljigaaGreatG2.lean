/- Words and lemmas, part 2, for laws of this seat (a part of their proofs). -/
import Derived.Test.YtnjhonpgmljigaaGreatG1
import Derived.Test.YtnjhonpgmljigaaGreatNm
import Derived.Test.YtnjhonpgmljigaaGreatEvOpen
import Derived.Test.YtnjhonpgmljigaaGreatEvLib
import Derived.Test.YtnjhonpgmljigaaGreatEvGrid
import Derived.Test.YtnjhonpgmljigaaGreatEvTrim
set_option linter.unusedVariables false
set_option linter.unusedSimpArgs false
namespace Go.Ev.W
open Go.Ev Go.Ev.N

set_option maxHeartbeats 2000000 in
theorem told_told {c : Cf} (hc : c.Ok) {r : Rd} (h : RdOk c r) (y : Int) (hy : -9223372036854775808 ≤ y ∧ y ≤ 9223372036854775807) (hq : r.asked ≤ 1000000) : Told P T game_Told [] [eC c, eRd r, i64 y] (eRd (toldF c r y)) [] := by
  have hlen := h.len hc
  have hml : (r.live.map eSp).length = r.live.length := by simp
  have e2 := hc.sz_le h.s
  have e3 := hc.nM
  have e4 := hc.mH
  have hsp := sz_pos hc r.step
  obtain ⟨n, hn⟩ : ∃ n, sz c r.step = n := ⟨_, rfl⟩
  rw [hn] at e2 hsp
  have hone : oneB ⟨y, n⟩ = decide (0 ≤ y ∧ y ≤ 1099511627776 - n) := by
    unfold oneB; exact decide_eq_decide.2 ⟨fun h => by simp only at h; omega, fun h => by simp only; omega⟩
  have hpc := put_cases h.a ⟨y, n⟩
  have hwr : r.why = 0 → (putR r.live ⟨y, n⟩).2 = false → toldF c r y = ⟨r.step, r.off, r.live, r.most, r.asked + 1, 1⟩ := fun hw hp => by
    unfold toldF; rw [if_neg (by omega), hn, if_pos hp]
  have hwrong : decide (0 ≤ y ∧ y ≤ 1099511627776 - n) = false → (putR r.live ⟨y, n⟩).2 = false := fun hd => by
    rcases hpc.2 with ⟨h1, _⟩ | ⟨_, h1⟩
    · rw [hone, hd] at h1; cases h1
    · rw [h1]
  refine told_of_ev (fn := game_Told_fn) tabOk mixed (by kernel_rfl) (by kernel_rfl) (by kernel_rfl) (by kernel_rfl) ?_
  (refine gw ?_; refine Choice.mk ⟨false, Choice.mk ⟨false, _, _, clone_Span _ (by rw [hml]; omega), ?_⟩⟩)
  (refine gw ?_; first | refine IfB.dec (fun a1 => ?_) (fun a1 => ?_) | refine IfB.eq (fun a1 => ?_) (fun a1 => ?_) | refine IfB.ne (fun a1 => ?_) (fun a1 => ?_) | refine IfB.mk (fun a1 => ?_) (fun a1 => ?_))
  · rw [show toldF c r y = r by unfold toldF; rw [if_pos (by omega)]]
    (refine gw ?_; exact RetN.fz ⟨[true], [], rfl, rfl, rfl⟩)
  · have hw : r.why = 0 := by omega
    have t2 := h.t2 hw
    (refine gw ?_; refine Choice.mk ⟨false, Choice.mk ⟨true, _, _, gsize_told hc h.s, ?_⟩⟩)
    rw [hn]
    (refine gw ?_; first | refine IfB.dec (fun a2 => ?_) (fun a2 => ?_) | refine IfB.eq (fun a2 => ?_) (fun a2 => ?_) | refine IfB.ne (fun a2 => ?_) (fun a2 => ?_) | refine IfB.mk (fun a2 => ?_) (fun a2 => ?_))
    · omega
    · (refine gw ?_; first | refine IfB.dec (fun a3 => ?_) (fun a3 => ?_) | refine IfB.eq (fun a3 => ?_) (fun a3 => ?_) | refine IfB.ne (fun a3 => ?_) (fun a3 => ?_) | refine IfB.mk (fun a3 => ?_) (fun a3 => ?_))
      · rw [hwr hw (hwrong (by simp; omega))]
        (refine gw ?_; exact RetN.fz ⟨[true], [], rfl, rfl, rfl⟩)
      · (refine gw ?_; first | refine IfB.dec (fun a4 => ?_) (fun a4 => ?_) | refine IfB.eq (fun a4 => ?_) (fun a4 => ?_) | refine IfB.ne (fun a4 => ?_) (fun a4 => ?_) | refine IfB.mk (fun a4 => ?_) (fun a4 => ?_))
        · rw [hwr hw (hwrong (by simp; omega))]
          (refine gw ?_; exact RetN.fz ⟨[true], [], rfl, rfl, rfl⟩)
        · have ho : oneB ⟨y, n⟩ = true := by rw [hone]; simp; omega
          (refine gw ?_; refine Choice.mk ⟨false, Choice.mk ⟨true, _, _, containsFunc_told r.live (by omega) game_Told_1 y n (fun x => overB x ⟨y, n⟩) (fun x hx => over1_told x (h.a.1 x hx) y n (by omega)), ?_⟩⟩)
          rcases hpc.2 with ⟨_, h1, l1, l2, q1, q2, q3, q4⟩ | ⟨h1 | h1, q2⟩
          · rw [h1]
            have hrow : (r.live.map eSp).take (lowSp y r.live) ++ (eSp ⟨y, n⟩ :: (r.live.map eSp).drop (lowSp y r.live)) = (l1 ++ ⟨y, n⟩ :: l2).map eSp := by
              have : (putR r.live ⟨y, n⟩).1 = r.live.take (lowSp y r.live) ++ ⟨y, n⟩ :: r.live.drop (lowSp y r.live) := by
                have hc2 : clashR r.live ⟨y, n⟩ = false := by
                  by_cases hcl : clashR r.live ⟨y, n⟩ = false
                  · exact hcl
                  · have : putR r.live ⟨y, n⟩ = (r.live, false) := by unfold putR; rw [if_neg (fun h => hcl h.2)]
                    rw [q2] at this; exact absurd (congrArg Prod.snd this) (by simp)
                unfold putR; rw [if_pos ⟨ho, hc2⟩]
              rw [q2] at this
              rw [show l1 ++ ⟨y, n⟩ :: l2 = r.live.take (lowSp y r.live) ++ ⟨y, n⟩ :: r.live.drop (lowSp y r.live) from this]; simp
            have hmax : (if y + (n : Int) > r.most then y + (n : Int) else r.most) = max r.most (y + n) := by split <;> omega
            have hm := h.m
            have hr1 : RdB c ⟨r.step, r.off, l1 ++ ⟨y, n⟩ :: l2, max r.most (y + n), r.asked + 1, r.why⟩ := by
              have hp := put_apart h.a ⟨y, n⟩
              rw [q2] at hp
              refine ⟨h.s, h.o, hp.1, ?_, by show 0 ≤ max _ _ ∧ max _ _ ≤ _; omega, h.w⟩
              show total (l1 ++ ⟨y, n⟩ :: l2) ≤ _
              rw [total_put, ← q1]; rw [hn] at t2; exact t2
            have hend : endF c (c.L + 1 - r.step) ⟨r.step, r.off, l1 ++ ⟨y, n⟩ :: l2, max r.most (y + n), r.asked + 1, r.why⟩ = toldF c r y := by
              unfold toldF; rw [if_neg (by omega), hn, q2, if_neg (by simp)]
            have hle := lowS_le y r.live
            (refine gw ?_; refine LoopN.mk ⟨[3,4,5,6,7,9], fun vs L => ∃ i : Nat, vs = [.ptr 0 0 0, .ptr 1 0 0, .ptr 2 0 0, .ptr 3 0 0, .ptr 6 0 0, i64 i] ∧ L = [.var (eC c), .var (.agg [i64 r.step, i64 r.off, .ref 5, i64 r.most, i64 ((r.asked : Int) + 1), i64 r.why]), .var (i64 y), .var (.agg [i64 0, i64 0, .ref 4, i64 0, i64 0, i64 0]), .row t_api_Span [], .row t_api_Span (r.live.map eSp), .var (i64 n)] ∧ i ≤ lowSp y r.live, fun vs L => match vs with | [_, _, _, _, _, .int _ i] => r.live.length - i.toNat | _ => 0, [], [0,1,2,3,4,5,6], rfl, ⟨0, rfl, rfl, by omega⟩, ?_⟩)
            rintro vs L ⟨i, rfl, rfl, hi⟩
            have stay : ∀ i : Nat, (hlt : i < r.live.length) → r.live[i].a < y → i ≤ lowSp y r.live → i < lowSp y r.live := fun i hlt h1 h2 => by
              rcases Nat.lt_or_ge i (lowSp y r.live) with h | h
              · exact h
              · have e : i = lowSp y r.live := by omega
                subst e
                have := lowS_ge hlt; omega
            (refine gw ?_; first | refine IfB.dec (fun b1 => ?_) (fun b1 => ?_) | refine IfB.eq (fun b1 => ?_) (fun b1 => ?_) | refine IfB.ne (fun b1 => ?_) (fun b1 => ?_) | refine IfB.mk (fun b1 => ?_) (fun b1 => ?_))
            · have hlt : i < r.live.length := by omega
              (refine gw ?_)
              refine At.mk ⟨eSp r.live[i], by rw [Int.toNat_natCast]; simp [hlt], ?_⟩
              (refine gw ?_; first | refine IfB.dec (fun b2 => ?_) (fun b2 => ?_) | refine IfB.eq (fun b2 => ?_) (fun b2 => ?_) | refine IfB.ne (fun b2 => ?_) (fun b2 => ?_) | refine IfB.mk (fun b2 => ?_) (fun b2 => ?_))
              · have := stay i hlt b2 hi
                (refine gw ?_; refine ⟨[], [0,1,2,3,4,5,6], rfl, ⟨i + 1, rfl, rfl, by omega⟩, (by omega : r.live.length - ((i : Int) + 1).toNat < r.live.length - (i : Int).toNat)⟩)
              · have e : i = lowSp y r.live := by
                  rcases Nat.lt_or_ge i (lowSp y r.live) with h | h
                  · exact absurd (lowSp_lt hlt h) b2
                  · omega
                subst e
                (refine gw ?_; refine Choice.mk ⟨true, Choice.mk ⟨false, _, _, insert_Span (r.live.map eSp) (eSp ⟨y, n⟩) (lowSp y r.live) (by omega) (by omega), ?_⟩⟩)
                (refine gw ?_)
                (refine LoopN.mk ⟨[3,4,6], fun vs L => ∃ (r' : Rd) (v : AV) (rest : List Blk), vs = [.ptr 0 0 0, .ptr 1 0 0, .ptr 2 0 0] ∧ L = [.var (eC c), .var (.agg [i64 r'.step, i64 r'.off, v, i64 r'.most, i64 r'.asked, i64 r'.why]), .var (.agg [i64 0, i64 0, .ref 3, i64 0, i64 0, i64 0]), .row t_api_Span []] ++ rest ∧ (v = .ref 4 ∧ rest = [.row t_api_Span (r'.live.map eSp)] ∨ v = lS r'.live ∧ rest = []) ∧ RdB c r' ∧ r'.why = 0 ∧ endF c (c.L + 1 - r'.step) r' = toldF c r y, fun vs L => match L with | _ :: .var (.agg (.int _ s :: _)) :: _ => c.L + 1 - s.toNat | _ => 0, [], [0,1,3,4,8], rfl, ⟨⟨r.step, r.off, l1 ++ ⟨y, n⟩ :: l2, max r.most (y + n), r.asked + 1, r.why⟩, _, _, rfl, ?_, .inl ⟨rfl, rfl⟩, hr1, hw, hend⟩, ?_⟩)
                · show [Blk.var _, Blk.var (AV.agg [_, _, _, i64 (if y + n > r.most then y + n else r.most), _, _]), _, _, Blk.row _ _] = _
                  rw [hrow, hmax]; rfl
                rintro vs L ⟨r', v, rest, rfl, rfl, hv, hB, hw', hE⟩
                have hlen' := hB.len hc
                have hml' : (r'.live.map eSp).length = r'.live.length := by simp
                have hB1 := hB.s
                have hB2 := hB.t
                have hB3 := total_nonneg hB.a
                have hsz := hc.sz_le hB1
                have hk : c.L + 1 - r'.step = (c.L - r'.step) + 1 := by omega
                rw [hk, endF] at hE
                rcases hv with ⟨rfl, rfl⟩ | ⟨rfl, rfl⟩
                all_goals
                  (refine gw ?_; refine Choice.mk ⟨false, Choice.mk ⟨true, _, _, live_told (l := r'.live) (by omega) hB.a (by omega), ?_⟩⟩)
                  (refine gw ?_; refine Choice.mk ⟨false, Choice.mk ⟨true, _, _, gsize_told hc hB1, ?_⟩⟩)
                  (refine gw ?_; first | refine IfB.dec (fun d1 => ?_) (fun d1 => ?_) | refine IfB.eq (fun d1 => ?_) (fun d1 => ?_) | refine IfB.ne (fun d1 => ?_) (fun d1 => ?_) | refine IfB.mk (fun d1 => ?_) (fun d1 => ?_))
                  · rw [if_pos (by omega)] at hE
                    (refine gw ?_; first | refine IfB.dec (fun d2 => ?_) (fun d2 => ?_) | refine IfB.eq (fun d2 => ?_) (fun d2 => ?_) | refine IfB.ne (fun d2 => ?_) (fun d2 => ?_) | refine IfB.mk (fun d2 => ?_) (fun d2 => ?_))
                    · rw [if_pos (by omega)] at hE
                      rw [← hE]
                      (refine gw ?_; exact RetN.fz ⟨[true], [], rfl, rfl, rfl⟩)
                    · rw [if_neg (by omega)] at hE
                      have hn' := nextF_ok hc hB (by omega)
                      (refine gw ?_; refine Choice.mk ⟨false, Choice.mk ⟨false, _, _, gnext_told hc hB (by omega), ?_⟩⟩)
                      ((try (conv => whnf)); refine ⟨[], [0,1,2,3], rfl, ⟨nextF c r', _, [], rfl, rfl, .inr ⟨rfl, rfl⟩, hn'.1, by rw [hn'.2.2.1, hw'], by rw [← hE, hn'.2.1]; congr 1; omega⟩, ?_⟩)
                      show c.L + 1 - (((nextF c r').step : Nat) : Int).toNat < c.L + 1 - ((r'.step : Nat) : Int).toNat
                      rw [hn'.2.1]; omega
                  · rw [if_neg (by omega)] at hE
                    rw [← hE]
                    (refine gw ?_; exact RetN.fz ⟨[true], [], rfl, rfl, rfl⟩)
            · have e : i = lowSp y r.live := by omega
              subst e
              (refine gw ?_; refine Choice.mk ⟨true, Choice.mk ⟨false, _, _, insert_Span (r.live.map eSp) (eSp ⟨y, n⟩) (lowSp y r.live) (by omega) (by omega), ?_⟩⟩)
              (refine gw ?_)
              (refine LoopN.mk ⟨[3,4,6], fun vs L => ∃ (r' : Rd) (v : AV) (rest : List Blk), vs = [.ptr 0 0 0, .ptr 1 0 0, .ptr 2 0 0] ∧ L = [.var (eC c), .var (.agg [i64 r'.step, i64 r'.off, v, i64 r'.most, i64 r'.asked, i64 r'.why]), .var (.agg [i64 0, i64 0, .ref 3, i64 0, i64 0, i64 0]), .row t_api_Span []] ++ rest ∧ (v = .ref 4 ∧ rest = [.row t_api_Span (r'.live.map eSp)] ∨ v = lS r'.live ∧ rest = []) ∧ RdB c r' ∧ r'.why = 0 ∧ endF c (c.L + 1 - r'.step) r' = toldF c r y, fun vs L => match L with | _ :: .var (.agg (.int _ s :: _)) :: _ => c.L + 1 - s.toNat | _ => 0, [], [0,1,3,4,8], rfl, ⟨⟨r.step, r.off, l1 ++ ⟨y, n⟩ :: l2, max r.most (y + n), r.asked + 1, r.why⟩, _, _, rfl, ?_, .inl ⟨rfl, rfl⟩, hr1, hw, hend⟩, ?_⟩)
              · show [Blk.var _, Blk.var (AV.agg [_, _, _, i64 (if y + n > r.most then y + n else r.most), _, _]), _, _, Blk.row _ _] = _
                rw [hrow, hmax]; rfl
              rintro vs L ⟨r', v, rest, rfl, rfl, hv, hB, hw', hE⟩
              have hlen' := hB.len hc
              have hml' : (r'.live.map eSp).length = r'.live.length := by simp
              have hB1 := hB.s
              have hB2 := hB.t
              have hB3 := total_nonneg hB.a
              have hsz := hc.sz_le hB1
              have hk : c.L + 1 - r'.step = (c.L - r'.step) + 1 := by omega
              rw [hk, endF] at hE
              rcases hv with ⟨rfl, rfl⟩ | ⟨rfl, rfl⟩
              all_goals
                (refine gw ?_; refine Choice.mk ⟨false, Choice.mk ⟨true, _, _, live_told (l := r'.live) (by omega) hB.a (by omega), ?_⟩⟩)
                (refine gw ?_; refine Choice.mk ⟨false, Choice.mk ⟨true, _, _, gsize_told hc hB1, ?_⟩⟩)
                (refine gw ?_; first | refine IfB.dec (fun d1 => ?_) (fun d1 => ?_) | refine IfB.eq (fun d1 => ?_) (fun d1 => ?_) | refine IfB.ne (fun d1 => ?_) (fun d1 => ?_) | refine IfB.mk (fun d1 => ?_) (fun d1 => ?_))
                · rw [if_pos (by omega)] at hE
                  (refine gw ?_; first | refine IfB.dec (fun d2 => ?_) (fun d2 => ?_) | refine IfB.eq (fun d2 => ?_) (fun d2 => ?_) | refine IfB.ne (fun d2 => ?_) (fun d2 => ?_) | refine IfB.mk (fun d2 => ?_) (fun d2 => ?_))
                  · rw [if_pos (by omega)] at hE
                    rw [← hE]
                    (refine gw ?_; exact RetN.fz ⟨[true], [], rfl, rfl, rfl⟩)
                  · rw [if_neg (by omega)] at hE
                    have hn' := nextF_ok hc hB (by omega)
                    (refine gw ?_; refine Choice.mk ⟨false, Choice.mk ⟨false, _, _, gnext_told hc hB (by omega), ?_⟩⟩)
                    ((try (conv => whnf)); refine ⟨[], [0,1,2,3], rfl, ⟨nextF c r', _, [], rfl, rfl, .inr ⟨rfl, rfl⟩, hn'.1, by rw [hn'.2.2.1, hw'], by rw [← hE, hn'.2.1]; congr 1; omega⟩, ?_⟩)
                    show c.L + 1 - (((nextF c r').step : Nat) : Int).toNat < c.L + 1 - ((r'.step : Nat) : Int).toNat
                    rw [hn'.2.1]; omega
                · rw [if_neg (by omega)] at hE
                  rw [← hE]
                  (refine gw ?_; exact RetN.fz ⟨[true], [], rfl, rfl, rfl⟩)
          · rw [ho] at h1; cases h1
          · rw [h1, hwr hw (by rw [q2])]
            (refine gw ?_; exact RetN.fz ⟨[true], [], rfl, rfl, rfl⟩)
end Go.Ev.W
namespace Go.Ev.W
open Go.Ev Go.Ev.N

def r0 : Rd := ⟨0, 0, [], 0, 0, 0⟩
theorem r0_ok {c : Cf} (hc : c.Ok) : RdOk c r0 := by
  have h1 := sz_pos hc 0
  have h2 := hc.sz_le (k := 0) (by omega)
  have h3 := hc.nM
  refine ⟨⟨by show 0 ≤ c.L; omega, by show 0 < sz c 0; omega, ⟨by simp [r0], List.Pairwise.nil⟩, ?_, by simp [r0], by simp [r0]⟩, fun _ => ?_⟩
  · show total [] ≤ _; simp [total]
  · show total [] + _ ≤ _; simp [total, r0]; omega
end Go.Ev.W
namespace Go.Ev.W
open Go.Ev Go.Ev.N

/-- What is held is no smaller than a granule, and covers the offset. -/
def RdX (c : Cf) (r : Rd) : Prop := ∀ x ∈ r.live, (c.G : Int) ≤ x.n ∧ covF r.off (sz c r.step) x = true
theorem nextF_x {c : Cf} {r : Rd} (h : RdX c r) : RdX c (nextF c r) := by
  have e := sz_succ c r.step
  unfold nextF
  split
  · intro x hx
    obtain ⟨h1, h2⟩ := List.mem_filter.1 (show x ∈ r.live.filter _ from hx)
    exact ⟨(h x h1).1, by show covF (r.off + sz c r.step) (sz c (r.step + 1)) x = true; rw [e]; exact h2⟩
  · intro x hx
    obtain ⟨h1, h2⟩ := List.mem_filter.1 (show x ∈ r.live.filter _ from hx)
    exact ⟨(h x h1).1, by show covF r.off (sz c (r.step + 1)) x = true; rw [e]; exact h2⟩
theorem endF_x {c : Cf} : ∀ (k : Nat) {r : Rd}, RdX c r → RdX c (endF c k r)
  | 0, _, h => h
  | k + 1, r, h => by
    unfold endF
    split
    · split
      · exact h
      · exact endF_x k (nextF_x h)
    · exact h
theorem toldF_x {c : Cf} {r : Rd} (hc : c.Ok) (hr : RdOk c r) (h : RdX c r) (y : Int) : RdX c (toldF c r y) := by
  unfold toldF
  split
  · exact h
  · split
    · exact h
    · refine endF_x _ ?_
      intro x hx
      have hs := sz_pos hc r.step
      rcases (put_cases hr.a ⟨y, sz c r.step⟩).2 with ⟨_, _, l1, l2, e, e2, _, _⟩ | ⟨_, e2⟩
      · have hx : x ∈ (putR r.live ⟨y, sz c r.step⟩).1 := hx
        rw [e2] at hx
        have : x = ⟨y, sz c r.step⟩ ∨ x ∈ r.live := by
          rw [e]
          simp only [List.mem_append, List.mem_cons] at hx ⊢
          rcases hx with h | h | h
          · exact .inr (.inl h)
          · exact .inl h
          · exact .inr (.inr h)
        rcases this with rfl | hm
        · refine ⟨?_, ?_⟩
          · show (c.G : Int) ≤ ((sz c r.step : Nat) : Int)
            have : sz c 0 ≤ sz c r.step := sz_mono (by omega)
            have e0 : sz c 0 = c.G := by simp [sz]
            omega
          · show covF r.off (sz c r.step) ⟨y, sz c r.step⟩ = true
            unfold covF
            exact decide_eq_true (Int.emod_lt_of_pos _ (by omega))
        · exact h x hm
      · have hx : x ∈ (putR r.live ⟨y, sz c r.step⟩).1 := hx
        rw [e2] at hx; exact h x hx
end Go.Ev.W
namespace Go.Ev.W
open Go.Ev Go.Ev.N

theorem endF_most {c : Cf} : ∀ (k : Nat) (r : Rd), (endF c k r).most = r.most
  | 0, _ => rfl
  | k + 1, r => by
    unfold endF
    split
    · split
      · rfl
      · rw [endF_most k]; unfold nextF; split <;> rfl
    · rfl
end Go.Ev.W
namespace Go.Ev.W
open Go.Ev Go.Ev.N

/-- How much pieces are less than so much, together. -/
def waste (m : Nat) : List Sp → Int
  | [] => 0
  | x :: l => (m : Int) - x.n + waste m l
/-- How much those are together that are just so great. -/
def just (m : Nat) : List Sp → Int
  | [] => 0
  | x :: l => (if x.n = (m : Int) then (m : Int) else 0) + just m l
theorem waste_app (m : Nat) : ∀ l1 l2, waste m (l1 ++ l2) = waste m l1 + waste m l2
  | [], l2 => by simp [waste]
  | x :: l1, l2 => by simp only [List.cons_append, waste, waste_app m l1 l2]; omega
theorem just_app (m : Nat) : ∀ l1 l2, just m (l1 ++ l2) = just m l1 + just m l2
  | [], l2 => by simp [just]
  | x :: l1, l2 => by simp only [List.cons_append, just, just_app m l1 l2]; omega
theorem waste_eq (m : Nat) : ∀ l : List Sp, waste m l = (m : Int) * l.length - total l
  | [] => by simp [waste, total]
  | x :: l => by
    rw [waste, waste_eq m l, total_cons, List.length_cons, Int.natCast_add, Int.mul_add]; omega
theorem just_le (m : Nat) : ∀ {l : List Sp}, (∀ x ∈ l, oneB x = true) → 0 ≤ just m l ∧ just m l ≤ total l
  | [], _ => by simp [just, total]
  | x :: l, h => by
    have ih := just_le m (l := l) fun y hy => h y (by simp [hy])
    have hx := (oneB_iff _).1 (h x (by simp))
    rw [just, total_cons]
    split <;> omega
theorem just_zero {m : Nat} : ∀ {l : List Sp}, (∀ x ∈ l, x.n < (m : Int)) → just m l = 0
  | [], _ => rfl
  | x :: l, h => by
    rw [just, if_neg (by have := h x (by simp); omega), just_zero fun y hy => h y (by simp [hy])]; rfl
/-- Either one covers, or the other. -/
theorem cov_split {off m : Nat} (hm : off < m) {x : Sp} (hn : 1 ≤ x.n ∧ x.n ≤ m) (hc : covF off m x = true) : covF off (2 * m) x = !covF (off + m) (2 * m) x := by
  have h0 := of_decide_eq_true hc
  have hm0 : (0 : Int) < (m : Int) := by omega
  obtain ⟨d, hd⟩ : ∃ d, ((off : Int) - x.a) % (m : Int) = d := ⟨_, rfl⟩
  have hd0 := Int.emod_nonneg ((off : Int) - x.a) (b := (m : Int)) (by omega)
  rw [hd] at h0 hd0
  obtain ⟨q, hq⟩ : ∃ q, (off : Int) - x.a = (m : Int) * q + d := ⟨((off : Int) - x.a) / m, by rw [← hd]; exact (Int.mul_ediv_add_emod _ _).symm⟩
  have e2 : ((2 * m : Nat) : Int) = 2 * (m : Int) := by omega
  have key : (((off : Int) - x.a) % (2 * (m : Int)) = d ∧ (((off + m : Nat) : Int) - x.a) % (2 * (m : Int)) = d + m) ∨ (((off : Int) - x.a) % (2 * (m : Int)) = d + m ∧ (((off + m : Nat) : Int) - x.a) % (2 * (m : Int)) = d) := by
    have e3 : ((off + m : Nat) : Int) - x.a = (m : Int) * (q + 1) + d := by rw [Int.mul_add]; omega
    rw [e3, hq]
    rcases Int.emod_two_eq q with hq2 | hq2
    · obtain ⟨p, rfl⟩ : ∃ p, q = 2 * p := ⟨q / 2, by omega⟩
      left
      constructor
      · rw [show (m : Int) * (2 * p) + d = d + 2 * (m : Int) * p by rw [Int.mul_left_comm, Int.mul_assoc]; omega, Int.add_mul_emod_self_left, Int.emod_eq_of_lt (by omega) (by omega)]
      · rw [show (m : Int) * (2 * p + 1) + d = (d + m) + 2 * (m : Int) * p by rw [Int.mul_add, Int.mul_left_comm, Int.mul_assoc]; omega, Int.add_mul_emod_self_left, Int.emod_eq_of_lt (by omega) (by omega)]
    · obtain ⟨p, rfl⟩ : ∃ p, q = 2 * p + 1 := ⟨q / 2, by omega⟩
      right
      constructor
      · rw [show (m : Int) * (2 * p + 1) + d = (d + m) + 2 * (m : Int) * p by rw [Int.mul_add, Int.mul_left_comm, Int.mul_assoc]; omega, Int.add_mul_emod_self_left, Int.emod_eq_of_lt (by omega) (by omega)]
      · rw [show (m : Int) * (2 * p + 1 + 1) + d = d + 2 * (m : Int) * (p + 1) by rw [show 2 * p + 1 + 1 = 2 * (p + 1) by omega, Int.mul_left_comm, Int.mul_assoc]; omega, Int.add_mul_emod_self_left, Int.emod_eq_of_lt (by omega) (by omega)]
  unfold covF
  rw [e2]
  rcases key with ⟨k1, k2⟩ | ⟨k1, k2⟩
  · rw [k1, k2, decide_eq_true (by omega), decide_eq_false (by omega)]; rfl
  · rw [k1, k2, decide_eq_true (p := d < x.n) (by omega), decide_eq_false (by omega)]; rfl
theorem less_split {off m : Nat} (hm : off < m) : ∀ {l : List Sp}, (∀ x ∈ l, (1 ≤ x.n ∧ x.n ≤ m) ∧ covF off m x = true) → less off (2 * m) l + less (off + m) (2 * m) l = waste (2 * m) l
  | [], _ => rfl
  | x :: l, h => by
    have ih := less_split hm (l := l) fun y hy => h y (by simp [hy])
    have hx := h x (by simp)
    have hc := cov_split hm hx.1 hx.2
    simp only [less, waste]
    rw [← ih, hc]
    cases covF (off + m) (2 * m) x <;> simp <;> omega
theorem less_filter {off m : Nat} : ∀ l : List Sp, waste m (l.filter (covF off m)) = less off m l
  | [] => rfl
  | x :: l => by
    rw [List.filter_cons, less, ← less_filter l]
    split <;> simp_all [waste]
/-- What a game has come to, at least. -/
structure RdH (c : Cf) (r : Rd) : Prop where
  n : ∀ x ∈ r.live, x.n ≤ ((sz c r.step : Nat) : Int)
  w : (r.step : Int) * (c.M : Int) - ((sz c r.step : Nat) : Int) + (c.G : Int) ≤ 2 * waste (sz c r.step) r.live
  q : ((r.asked * sz c r.step : Nat) : Int) ≤ (c.M : Int) * ((2 ^ (r.step + 1) : Nat) : Int) - 2 * (c.M : Int) + just (sz c r.step) r.live
  e : ∀ x ∈ r.live, x.a + x.n ≤ r.most
theorem nextF_h {c : Cf} (hc : c.Ok) {r : Rd} (hr : RdB c r) (hX : RdX c r) (h : RdH c r) (ht : (c.M : Int) < total r.live + sz c r.step) : RdH c (nextF c r) := by
  have e := sz_succ c r.step
  have hs := sz_pos hc r.step
  have hsp := less_split (off := r.off) (m := sz c r.step) hr.o (l := r.live) fun x hx => ⟨⟨((oneB_iff _).1 (hr.a.1 x hx)).1, h.n x hx⟩, (hX x hx).2⟩
  have hw := waste_eq (2 * sz c r.step) r.live
  have hw1 := waste_eq (sz c r.step) r.live
  have hlen : ((2 * sz c r.step : Nat) : Int) * (r.live.length : Int) = 2 * (((sz c r.step : Nat) : Int) * (r.live.length : Int)) := by rw [Int.natCast_mul, Int.mul_assoc]; rfl
  have hwst := h.w
  have hq := h.q
  have hj := just_le (sz c r.step) hr.a.1
  have hT := hr.t
  have hpow : (c.M : Int) * ((2 ^ (r.step + 1 + 1) : Nat) : Int) = 2 * ((c.M : Int) * ((2 ^ (r.step + 1) : Nat) : Int)) := by
    rw [Nat.pow_succ, Int.natCast_mul, ← Int.mul_assoc]
    show _ * (2 : Int) = _
    omega
  have hask : ((r.asked * (2 * sz c r.step) : Nat) : Int) = 2 * ((r.asked * sz c r.step : Nat) : Int) := by rw [Nat.mul_left_comm]; omega
  have hstep : (((r.step + 1 : Nat)) : Int) * (c.M : Int) = (r.step : Int) * (c.M : Int) + c.M := by rw [Int.natCast_add, Int.add_mul]; omega
  have main : ∀ off2 : Nat, 2 * less off2 (2 * sz c r.step) r.live ≥ waste (2 * sz c r.step) r.live → RdH c { r with step := r.step + 1, off := off2, live := r.live.filter (covF off2 (2 * sz c r.step)) } := by
    intro off2 hl
    have hf : ∀ x ∈ r.live.filter (covF off2 (2 * sz c r.step)), x ∈ r.live := fun x hx => (List.mem_filter.1 hx).1
    refine ⟨fun x hx => ?_, ?_, ?_, fun x hx => h.e x (hf x hx)⟩
    · have := h.n x (hf x hx)
      show x.n ≤ ((sz c (r.step + 1) : Nat) : Int)
      rw [e]; omega
    · show ((r.step + 1 : Nat) : Int) * (c.M : Int) - ((sz c (r.step + 1) : Nat) : Int) + (c.G : Int) ≤ 2 * waste (sz c (r.step + 1)) (r.live.filter _)
      rw [e, less_filter, hstep]
      omega
    · show ((r.asked * sz c (r.step + 1) : Nat) : Int) ≤ (c.M : Int) * ((2 ^ (r.step + 1 + 1) : Nat) : Int) - 2 * (c.M : Int) + just (sz c (r.step + 1)) (r.live.filter _)
      rw [e, hask, hpow, just_zero fun x hx => ?_]
      · omega
      · have := h.n x (hf x hx); omega
  unfold nextF
  split
  · exact main _ (by omega)
  · exact main _ (by omega)
theorem endF_h {c : Cf} (hc : c.Ok) : ∀ (k : Nat) {r : Rd}, RdB c r → RdX c r → RdH c r → c.L < k + r.step → RdH c (endF c k r) ∧ ((endF c k r).why = r.why ∨ ((endF c k r).why = 2 ∧ (endF c k r).step = c.L ∧ (c.M : Int) < total (endF c k r).live + sz c c.L))
  | 0, r, hB, _, _, hk => by have := hB.s; omega
  | k + 1, r, hB, hX, h, hk => by
    unfold endF
    split
    · split
      · rename_i h1 h2
        have e : r.step = c.L := by have := hB.s; omega
        exact ⟨⟨h.n, h.w, h.q, h.e⟩, .inr ⟨rfl, e, by rw [← e]; show (c.M : Int) < total r.live + _; omega⟩⟩
      · have n := nextF_ok hc hB (by omega)
        have := endF_h hc k n.1 (nextF_x hX) (nextF_h hc hB hX h (by omega)) (by rw [n.2.1]; omega)
        rw [n.2.2.1] at this; exact this
    · exact ⟨h, .inl rfl⟩
end Go.Ev.W
namespace Go.Ev.W
open Go.Ev Go.Ev.N

theorem cov_at {off m : Nat} (hm : 1 ≤ m) {x : Sp} (hc : covF off m x = true) : ∃ t : Int, x.a ≤ (off : Int) + m * t ∧ (off : Int) + m * t < x.a + x.n := by
  have h0 := of_decide_eq_true hc
  have hd0 := Int.emod_nonneg ((off : Int) - x.a) (b := (m : Int)) (by omega)
  have e := Int.mul_ediv_add_emod ((off : Int) - x.a) (m : Int)
  refine ⟨-(((off : Int) - x.a) / m), ?_⟩
  rw [Int.mul_neg]
  omega
theorem cov_far {off m : Nat} (hm : 1 ≤ m) {B : Int} : ∀ {l : List Sp} {t0 : Int}, Apart l → (∀ x ∈ l, covF off m x = true) → (∀ x ∈ l, x.a + x.n ≤ B) → (∀ x ∈ l, (off : Int) + m * (t0 - 1) < x.a) → 1 ≤ l.length → (off : Int) + m * (t0 + (l.length : Int) - 1) + 1 ≤ B
  | [], _, _, _, _, _, h => by simp at h
  | x :: l, t0, ha, hc, hB, ht, _ => by
    obtain ⟨ha2, _, _, h2⟩ := apart_mid (l1 := []) ha
    rw [List.nil_append] at ha2
    obtain ⟨t, h3, h4⟩ := cov_at hm (hc x (by simp))
    have h5 := ht x (by simp)
    have h6 := hB x (by simp)
    have hm0 : (0 : Int) < (m : Int) := by omega
    have ht0 : t0 ≤ t := by
      have : (m : Int) * (t0 - 1) < (m : Int) * t := by omega
      have := Int.lt_of_mul_lt_mul_left this (by omega)
      omega
    cases l with
    | nil =>
      have : (m : Int) * t0 ≤ (m : Int) * t := Int.mul_le_mul_of_nonneg_left ht0 (by omega)
      simp only [List.length_cons, List.length_nil]
      rw [show t0 + ((0 + 1 : Nat) : Int) - 1 = t0 by omega]
      omega
    | cons y l =>
      have ih := cov_far hm (B := B) (l := y :: l) (t0 := t + 1) ha2 (fun z hz => hc z (List.mem_cons_of_mem _ hz)) (fun z hz => hB z (List.mem_cons_of_mem _ hz)) (fun z hz => by
        have := h2 z hz
        rw [show t + 1 - 1 = t by omega]; omega) (by simp)
      have : (m : Int) * (t0 + ((x :: y :: l).length : Int) - 1) ≤ (m : Int) * (t + 1 + ((y :: l).length : Int) - 1) := Int.mul_le_mul_of_nonneg_left (by simp only [List.length_cons]; omega) (by omega)
      omega
/-- A game that is over has driven who answered that high. -/
theorem high {c : Cf} (hc : c.Ok) {r : Rd} (hr : RdB c r) (hX : RdX c r) (h : RdH c r) (hs : r.step = c.L) (ht : (c.M : Int) < total r.live + sz c c.L) : (c.H : Int) - 3 * c.N ≤ r.most := by
  have hN : sz c c.L = c.N := by rw [hc.n]; rfl
  have hw := h.w
  have he := waste_eq (sz c r.step) r.live
  rw [hs, hN] at hw he
  rw [hN] at ht
  have hnM := hc.nM
  have hH := hc.h
  have hN1 := sz_pos hc c.L
  rw [hN] at hN1
  have hlen : 1 ≤ r.live.length := by
    rcases Nat.eq_zero_or_pos r.live.length with h0 | h0
    · have := List.eq_nil_of_length_eq_zero h0
      rw [this] at ht
      simp [total] at ht
      omega
    · exact h0
  have hf := cov_far (off := r.off) (m := c.N) hN1 (B := r.most) (l := r.live) (t0 := 0) hr.a (fun x hx => by have := (hX x hx).2; rw [hs, hN] at this; exact this) h.e (fun x hx => by
    have := (oneB_iff _).1 (hr.a.1 x hx)
    have ho := hr.o
    rw [hs, hN] at ho
    rw [show (0 : Int) - 1 = -1 by rfl, Int.mul_neg, Int.mul_one]; omega) hlen
  have e2 : (c.N : Int) * (0 + (r.live.length : Int) - 1) = (c.N : Int) * (r.live.length : Int) - c.N := by
    rw [Int.zero_add, Int.mul_sub, Int.mul_one]
  rw [e2] at hf
  obtain ⟨q, hq⟩ : ∃ q, c.M = 2 * q := by
    obtain ⟨q, e⟩ := hc.m
    exact ⟨max c.N c.Pg * q, by rw [e, Nat.mul_assoc]⟩
  have hLM : (c.L : Int) * (c.M : Int) = 2 * ((c.L * (c.M / 2) : Nat) : Int) := by
    rw [hq, Nat.mul_div_cancel_left _ (by omega), Int.natCast_mul, Int.natCast_mul, Int.mul_left_comm]; rfl
  rw [hLM] at hw
  generalize c.L * (c.M / 2) = z at *
  generalize (c.N : Int) * (r.live.length : Int) = y at *
  omega
/-- It does not last. -/
theorem short {c : Cf} (hc : c.Ok) {r : Rd} (hr : RdB c r) (h : RdH c r) : r.asked * c.G < 2 * c.M := by
  have hq := h.q
  have hj := just_le (sz c r.step) hr.a.1
  have hT := hr.t
  have hm1 := hc.m1
  have e1 : r.asked * sz c r.step = (r.asked * c.G) * 2 ^ r.step := by unfold sz; rw [Nat.mul_assoc]
  have e2 : (c.M : Int) * ((2 ^ (r.step + 1) : Nat) : Int) = ((2 * c.M * 2 ^ r.step : Nat) : Int) := by
    rw [Nat.pow_succ, Int.natCast_mul, Int.natCast_mul, Int.natCast_mul]
    show (c.M : Int) * (_ * 2) = 2 * (c.M : Int) * _
    rw [Int.mul_comm 2 (c.M : Int), Int.mul_assoc, Int.mul_comm 2]
  rw [e1, e2] at hq
  have : (r.asked * c.G) * 2 ^ r.step < (2 * c.M) * 2 ^ r.step := by omega
  exact Nat.lt_of_mul_lt_mul_right this
/-- What an answer must be. -/
structure GoodAt (l : List Sp) (n : Nat) (y : Int) : Prop where
  z : 0 ≤ y
  o : ∀ x ∈ l, x.a + x.n ≤ y ∨ y + n ≤ x.a
theorem toldF_h {c : Cf} (hc : c.Ok) {r : Rd} (hr : RdOk c r) (hX : RdX c r) (h : RdH c r) (hw : r.why = 0) {y : Int} (hy : GoodAt r.live (sz c r.step) y) (hb : y ≤ 1000000) :
    RdH c (toldF c r y) ∧ (toldF c r y).most = max r.most (y + sz c r.step) ∧ ((toldF c r y).why = 0 ∨ ((toldF c r y).why = 2 ∧ (toldF c r y).step = c.L ∧ (c.M : Int) < total (toldF c r y).live + sz c c.L)) := by
  have hs := sz_pos hc r.step
  have hs2 := hc.sz_le hr.s
  have hs3 := hc.nM
  have hs4 := hc.mH
  have h1 : oneB ⟨y, sz c r.step⟩ = true := (oneB_iff _).2 ⟨by show (1 : Int) ≤ ((sz c r.step : Nat) : Int); omega, by show ((sz c r.step : Nat) : Int) ≤ _; omega, hy.z, by show y ≤ 1099511627776 - ((sz c r.step : Nat) : Int); omega⟩
  have hno : (r.live.any fun x => overB x ⟨y, sz c r.step⟩) = false := by
    rw [List.any_eq_false]
    intro x hx
    rw [over_iff]
    simp only
    have := hy.o x hx
    omega
  rcases (put_cases hr.a ⟨y, sz c r.step⟩).2 with ⟨_, _, l1, l2, e, e2, q3, q4⟩ | ⟨h5 | h5, _⟩
  · have ht2 := hr.t2 hw
    have hm := hr.m
    have hmem : ∀ x ∈ l1 ++ (⟨y, sz c r.step⟩ : Sp) :: l2, x = ⟨y, sz c r.step⟩ ∨ x ∈ r.live := fun x hx => by
      rw [e]
      simp only [List.mem_append, List.mem_cons] at hx ⊢
      rcases hx with h | h | h
      · exact .inr (.inl h)
      · exact .inl h
      · exact .inr (.inr h)
    have hsG : c.G ≤ sz c r.step := by
      have : sz c 0 ≤ sz c r.step := sz_mono (by omega)
      have e0 : sz c 0 = c.G := by simp [sz]
      omega
    obtain ⟨r1, hr1⟩ : ∃ r1 : Rd, (⟨r.step, r.off, l1 ++ ⟨y, sz c r.step⟩ :: l2, max r.most (y + sz c r.step), r.asked + 1, r.why⟩ : Rd) = r1 := ⟨_, rfl⟩
    have hB1 : RdB c r1 := by
      have hpa := put_apart hr.a ⟨y, sz c r.step⟩
      rw [e2] at hpa
      rw [← hr1]
      refine ⟨hr.s, hr.o, hpa.1, ?_, by show 0 ≤ max _ _ ∧ max _ _ ≤ _; omega, hr.w⟩
      show total (l1 ++ _ :: l2) ≤ _
      rw [total_put, ← e]; exact ht2
    have hX1 : RdX c r1 := by
      rw [← hr1]
      intro x hx
      rcases hmem x hx with rfl | hm'
      · refine ⟨by show (c.G : Int) ≤ ((sz c r.step : Nat) : Int); omega, ?_⟩
        show covF r.off (sz c r.step) _ = true
        unfold covF
        exact decide_eq_true (Int.emod_lt_of_pos _ (by omega))
      · exact hX x hm'
    have hH1 : RdH c r1 := by
      rw [← hr1]
      refine ⟨fun x hx => ?_, ?_, ?_, fun x hx => ?_⟩
      · rcases hmem x hx with rfl | hm'
        · exact Int.le_refl _
        · exact h.n x hm'
      · show (r.step : Int) * (c.M : Int) - ((sz c r.step : Nat) : Int) + (c.G : Int) ≤ 2 * waste (sz c r.step) (l1 ++ _ :: l2)
        have hw2 := h.w
        rw [e, waste_app] at hw2
        rw [waste_app, waste]
        show _ ≤ 2 * (waste (sz c r.step) l1 + (((sz c r.step : Nat) : Int) - ((sz c r.step : Nat) : Int) + waste (sz c r.step) l2))
        omega
      · show (((r.asked + 1) * sz c r.step : Nat) : Int) ≤ (c.M : Int) * ((2 ^ (r.step + 1) : Nat) : Int) - 2 * (c.M : Int) + just (sz c r.step) (l1 ++ _ :: l2)
        have hq := h.q
        rw [e, just_app] at hq
        rw [just_app, just, if_pos rfl, Nat.succ_mul]
        omega
      · show x.a + x.n ≤ max r.most (y + sz c r.step)
        rcases hmem x hx with rfl | hm'
        · show y + ((sz c r.step : Nat) : Int) ≤ _; omega
        · have := h.e x hm'; omega
    have hE : toldF c r y = endF c (c.L + 1 - r.step) r1 := by
      unfold toldF; rw [if_neg (by omega), e2, if_neg (by simp), hr1]
    have := endF_h hc (c.L + 1 - r.step) hB1 hX1 hH1 (by rw [← hr1]; show c.L < c.L + 1 - r.step + r.step; have := hr.s; omega)
    rw [hE]
    refine ⟨this.1, by rw [endF_most, ← hr1], ?_⟩
    rcases this.2 with h' | h'
    · left; rw [h', ← hr1]; exact hw
    · exact .inr h'
  · rw [h1] at h5; cases h5
  · rw [hno] at h5; cases h5
end Go.Ev.W
namespace Go.Ev.W
open Go.Ev Go.Ev.N

theorem made_told (l : List Nat) : Told P T mk_Made [] [lB l] (.ptr 0 0 0) [pkB ⟨l, 0⟩] := by
  refine told_of_ev (fn := mk_Made_fn) tabOk mixed (by kernel_rfl) (by kernel_rfl) (by kernel_rfl) (by kernel_rfl) ?_
  exact RetN.mk ⟨[0], rfl, rfl, rfl⟩
theorem num_told (p : Pk) (ok : p.Ok) (m : Nat) (hm : m ≤ 1000000) : Told P T mk_Picks_Num [pkB p] [.ptr 0 0 0, i64 m] (i64 (p.num m)) [pkB (p.next m)] := by
  have hml : (p.l.map u8).length = p.l.length := by simp
  have hl := ok.l
  simp only [maxLen] at hl
  refine told_of_ev (fn := mk_Picks_Num_fn) tabOk mixed (by kernel_rfl) (by kernel_rfl) (by kernel_rfl) (by kernel_rfl) ?_
  refine gw ?_
  (refine gw ?_; first | refine IfB.dec (fun h1 => ?_) (fun h1 => ?_) | refine IfB.eq (fun h1 => ?_) (fun h1 => ?_) | refine IfB.ne (fun h1 => ?_) (fun h1 => ?_) | refine IfB.mk (fun h1 => ?_) (fun h1 => ?_))
  · have e1 : p.num m = 0 := by unfold Pk.num; rw [if_neg (by omega)]
    have e2 : p.next m = p := by unfold Pk.next; rw [if_neg (by omega)]
    rw [e1, e2]
    refine gw ?_
    (refine gw ?_; exact RetN.mk ⟨[], rfl, rfl, rfl⟩)
  · refine gw ?_
    (refine gw ?_; first | refine IfB.dec (fun h2 => ?_) (fun h2 => ?_) | refine IfB.eq (fun h2 => ?_) (fun h2 => ?_) | refine IfB.ne (fun h2 => ?_) (fun h2 => ?_) | refine IfB.mk (fun h2 => ?_) (fun h2 => ?_))
    · have e1 : p.num m = 0 := by unfold Pk.num; rw [if_neg (by omega)]
      have e2 : p.next m = p := by unfold Pk.next; rw [if_neg (by omega)]
      rw [e1, e2]
      refine gw ?_
      (refine gw ?_; exact RetN.mk ⟨[], rfl, rfl, rfl⟩)
    · have hlt : p.n < p.l.length := by omega
      have e1 : p.num m = p.l[p.n] % m := by unfold Pk.num; rw [if_pos (by omega), List.getElem?_eq_getElem hlt]; rfl
      have e2 : p.next m = ⟨p.l, p.n + 1⟩ := by unfold Pk.next; rw [if_pos (by omega)]
      have hb := ok.b _ (List.getElem_mem hlt)
      rw [e1, e2]
      refine gw ?_
      refine idx_map' p.n (by omega) hlt ?_
      refine gw ?_
      (refine gw ?_; exact RetN.mk ⟨[], rfl, rfl, rfl⟩)
end Go.Ev.W
namespace Go.Ev.W
open Go.Ev Go.Ev.N

/-- Numbers and bools of a row, by place. -/
def tabF (n : Nat) (f : Nat → AV) : List AV := (List.range n).map f
theorem tabF_len (n : Nat) (f : Nat → AV) : (tabF n f).length = n := by simp [tabF]
theorem tabF_get {n : Nat} {f : Nat → AV} {k : Nat} (h : k < n) : (tabF n f)[k]? = some (f k) := by simp [tabF, h]
theorem tabF_congr {n : Nat} {f g : Nat → AV} (h : ∀ k, k < n → f k = g k) : tabF n f = tabF n g := List.map_congr_left fun k hk => h k (by simpa using hk)
theorem tabF_set {n : Nat} {f g : Nat → AV} {k : Nat} {v : AV} (h : k < n) (hg : ∀ j, j < n → g j = if j = k then v else f j) : (tabF n f).set k v = tabF n g := by
  apply List.ext_getElem?
  intro j
  rw [List.getElem?_set]
  by_cases hj : j < n
  · rw [tabF_get hj, tabF_get hj, hg j hj]
    by_cases e : k = j
    · subst e; simp [tabF_len, h]
    · simp [e, Ne.symm e]
  · rw [List.getElem?_eq_none (by rw [tabF_len]; omega), List.getElem?_eq_none (by rw [tabF_len]; omega)]
    rw [if_neg (by omega)]
theorem tabF_map {α : Type} (l : List α) (enc : α → AV) (d : α) : l.map enc = tabF l.length fun k => enc (l.getD k d) := by
  apply List.ext_getElem?
  intro j
  by_cases hj : j < l.length
  · rw [tabF_get hj]; simp [hj, List.getD_eq_getElem?_getD]
  · rw [List.getElem?_eq_none (by simp; omega), List.getElem?_eq_none (by rw [tabF_len]; omega)]
theorem tabF_of {α : Type} (n : Nat) (f : Nat → α) (enc : α → AV) : (tabF n fun k => enc (f k)) = ((List.range n).map f).map enc := by simp [tabF]

/-- How much is charged for so much, at a multiple of so much; why not. -/
def chargeF (c : Cf) (s a : Int) : Nat × Nat :=
  if (logF a).2 = false ∨ a > c.N then (0, 3) else if s < 0 ∨ s > c.N then (0, 4) else (upN (max (max s.toNat a.toNat) c.G), 0)
def prodF (c : Cf) (n s : Int) : Nat × Nat :=
  if n < 0 ∨ s < 0 then (0, 2) else if n * s ≤ c.N then ((n * s).toNat, 0) else (0, 4)
def newF (c : Cf) (live s a : Int) : Nat × Nat :=
  if (chargeF c s a).2 ≠ 0 then (0, (chargeF c s a).2) else if live > (c.M : Int) - (chargeF c s a).1 then (0, 5) else ((chargeF c s a).1, 0)
def manyF (c : Cf) (live n s : Int) : Nat × Nat :=
  if (prodF c n s).2 ≠ 0 then (0, (prodF c n s).2) else newF c live (prodF c n s).1 1

/-- A block: where, how much is charged, how much was asked for. -/
structure Bk where
  a : Int
  c : Int
  q : Int
  deriving DecidableEq
def eB (b : Bk) : AV := .agg [i64 b.a, i64 b.c, i64 b.q]
/-- All that there is. -/
structure Mo where
  c : Cf
  bs : List Bk
  live : Int
  peak : Int
  mark : Int
  on : List Bool
  mem : List Nat
  deriving DecidableEq
def lT (l : List Bool) : AV := .lst t_bool (l.map .bool)
/-- What a call is told. -/
structure An where
  e : Nat
  at' : Int
  n : Int
  b : Nat
  live : Int
  peak : Int
  mark : Int
  pg : Int
  deriving DecidableEq
def eA (x : An) : AV := .agg [i64 x.e, i64 x.at', i64 x.n, .int .u8 (x.b : Int), i64 x.live, i64 x.peak, i64 x.mark, i64 x.pg]
def an0 : An := ⟨0, 0, 0, 0, 0, 0, 0, 0⟩
def anE (e : Nat) : An := ⟨e, 0, 0, 0, 0, 0, 0, 0⟩

def ovr (a n b m : Int) : Bool := decide (a < b + m ∧ b < a + n)
def freeAt (l : List Bk) (n y : Int) : Bool := l.all fun b => !ovr y n b.a b.c
/-- The lowest place of so much. -/
def lowGo (l : List Bk) (n : Nat) : Nat → Nat → Nat × Bool
  | 0, _ => (0, false)
  | f + 1, k => if freeAt l n (k * n : Nat) = true then (k * n, true) else lowGo l n f (k + 1)
def lowF (c : Cf) (l : List Bk) (n : Nat) : Nat × Bool := lowGo l n (c.H / n) 0
def lowB (y : Int) : List Bk → Nat
  | [] => 0
  | x :: l => if x.a ≤ y then lowB y l + 1 else 0
def putB (l : List Bk) (b : Bk) : List Bk := l.take (lowB b.a l) ++ b :: l.drop (lowB b.a l)
def metF (pg size : Nat) (l : List Bk) : List Bool := (List.range (size / pg)).map fun i => l.any fun b => ovr (i * pg : Nat) pg b.a b.c
def cntB (l : List Bool) : Nat := (l.filter id).length
/-- Which pages are there then, which are fresh; none: too many. -/
def commitF (on met : List Bool) (first behind : Nat) (most : Nat) : List Bool × List Nat × Bool :=
  let these := fun i => decide (first ≤ i ∧ i < behind)
  let need := (List.range on.length).map fun i => met.getD i false || these i
  let all := (List.range on.length).map fun i => on.getD i false || these i
  let fresh := (List.range on.length).filter fun i => these i && !on.getD i false
  if cntB need > most then ([], [], false)
  else (if cntB all > most then (List.range on.length).map fun i => all.getD i false && need.getD i false else all, fresh, true)
def trimF (on met : List Bool) : List Bool × Nat :=
  ((List.range on.length).map fun i => on.getD i false && met.getD i false, ((List.range on.length).filter fun i => on.getD i false && !met.getD i false).length)
def byteF (seed page i : Nat) : Nat := (seed % 256 + 31 * (page % 256) + 7 * (i % 256) + 1) % 256
def fillF (mem : List Nat) (seed page size : Nat) : List Nat := (List.range mem.length).map fun i => if i / size = page then byteF seed page (i % size) else mem.getD i 0
def totalB (l : List Bk) : Int := (l.map (·.c)).sum
def placeF (m : Mo) (l : List Bk) (n : Nat) (q : Int) : Mo × Int × Nat :=
  let lo := lowF m.c l n
  if lo.2 = false then (m, 0, 7)
  else
    let co := commitF m.on (metF m.c.Pg m.c.H l) (lo.1 / m.c.Pg) ((lo.1 + n - 1) / m.c.Pg + 1) m.c.P
    if co.2.2 = false then (m, 0, 6)
    else
      let bs := putB l ⟨lo.1, n, q⟩
      ({ m with bs := bs, live := totalB bs, peak := max m.peak (totalB bs), mark := max m.mark (lo.1 + n), on := co.1, mem := co.2.1.foldl (fun mem p => fillF mem m.c.Sd p m.c.Pg) m.mem }, lo.1, 0)
def newM (r : Rw) : Mo × Nat :=
  if (ofF r).2 ≠ 0 then (⟨cf0, [], 0, 0, 0, [], []⟩, (ofF r).2) else (⟨(ofF r).1, [], 0, 0, 0, List.replicate ((ofF r).1.H / (ofF r).1.Pg) false, List.replicate (ofF r).1.H 0⟩, 0)
end Go.Ev.W
namespace Go.Ev.W
open Go.Ev Go.Ev.N

/-- Blocks that lie apart, rising, within so much. -/
structure ApB (H : Nat) (l : List Bk) : Prop where
  p : l.Pairwise fun x y => x.a + x.c ≤ y.a
  b : ∀ x ∈ l, 0 ≤ x.a ∧ 1 ≤ x.c ∧ x.a + x.c ≤ H
theorem ApB.nil (H : Nat) : ApB H [] := ⟨List.Pairwise.nil, by simp⟩
theorem ApB.sub {H : Nat} {l m : List Bk} (h : ApB H l) (hs : m.Sublist l) : ApB H m := ⟨h.p.sublist hs, fun x hx => h.b x (hs.subset hx)⟩
/-- Those ahead of a place, and those behind it. -/
theorem put_split {H : Nat} : ∀ {l : List Bk}, ApB H l → ∀ y : Int, ∃ l1 l2, l = l1 ++ l2 ∧ lowB y l = l1.length ∧ (∀ x ∈ l1, x.a ≤ y) ∧ ∀ x ∈ l2, y < x.a
  | [], _, _ => ⟨[], [], rfl, rfl, by simp, by simp⟩
  | x :: l, h, y => by
    have hl : ApB H l := h.sub (List.sublist_cons_self _ _)
    by_cases hx : x.a ≤ y
    · obtain ⟨l1, l2, rfl, e, h1, h2⟩ := put_split hl y
      exact ⟨x :: l1, l2, rfl, by simp [lowB, hx, e], by simpa [hx] using h1, h2⟩
    · refine ⟨[], x :: l, rfl, by simp [lowB, hx], by simp, fun z hz => ?_⟩
      have := h.b x (by simp)
      rcases List.mem_cons.1 hz with rfl | hz
      · omega
      · have := (List.pairwise_cons.1 h.p).1 z hz; omega
theorem freeAt_iff {l : List Bk} {n y : Int} : freeAt l n y = true ↔ ∀ x ∈ l, ¬ (y < x.a + x.c ∧ x.a < y + n) := by
  simp only [freeAt, List.all_eq_true, Bool.not_eq_true', ovr, decide_eq_false_iff_not]
theorem putB_ok {H : Nat} {l : List Bk} (h : ApB H l) {b : Bk} (hf : freeAt l b.c b.a = true) (hb : 0 ≤ b.a ∧ 1 ≤ b.c ∧ b.a + b.c ≤ H) :
    ApB H (putB l b) ∧ (∀ x, x ∈ putB l b ↔ x = b ∨ x ∈ l) ∧ totalB (putB l b) = totalB l + b.c ∧ (putB l b).length = l.length + 1 := by
  obtain ⟨l1, l2, e, e1, h1, h2⟩ := put_split h b.a
  have e3 : putB l b = l1 ++ b :: l2 := by unfold putB; rw [e1, e, List.take_left, List.drop_left]
  rw [freeAt_iff] at hf
  have hp := h.p
  have hbb := h.b
  rw [e] at hp hbb hf
  rw [List.pairwise_append] at hp
  have g1 : ∀ x ∈ l1, x.a + x.c ≤ b.a := fun x hx => by have := hf x (by simp [hx]); have := h1 x hx; omega
  have g2 : ∀ x ∈ l2, b.a + b.c ≤ x.a := fun x hx => by have := hf x (by simp [hx]); have := h2 x hx; have := hbb x (by simp [hx]); omega
  rw [e3, e]
  refine ⟨⟨?_, fun x hx => ?_⟩, fun x => ?_, ?_, by simp; omega⟩
  · rw [List.pairwise_append, List.pairwise_cons]
    refine ⟨hp.1, ⟨g2, hp.2.1⟩, fun x hx y hy => ?_⟩
    rcases List.mem_cons.1 hy with rfl | hy
    · exact g1 x hx
    · exact hp.2.2 x hx y hy
  · simp only [List.mem_append, List.mem_cons] at hx
    rcases hx with hx | rfl | hx
    · exact hbb x (by simp [hx])
    · exact hb
    · exact hbb x (by simp [hx])
  · simp only [List.mem_append, List.mem_cons]
    constructor
    · rintro (h | h | h)
      · exact .inr (.inl h)
      · exact .inl h
      · exact .inr (.inr h)
    · rintro (h | h | h)
      · exact .inr (.inl h)
      · exact .inl h
      · exact .inr (.inr h)
  · simp only [totalB, List.map_append, List.sum_append, List.map_cons, List.sum_cons]; omega
theorem totalB_nonneg {H : Nat} {l : List Bk} (h : ApB H l) : (l.length : Int) ≤ totalB l := by
  have hb := h.b
  clear h
  induction l with
  | nil => simp [totalB]
  | cons x l ih =>
    have := ih fun y hy => hb y (by simp [hy])
    have := hb x (by simp)
    have e : totalB (x :: l) = x.c + totalB l := by simp only [totalB, List.map_cons, List.sum_cons]
    rw [e, List.length_cons]; omega
theorem lowGo_spec {l : List Bk} {n : Nat} : ∀ (f k : Nat), (lowGo l n f k).2 = true → ∃ j, k ≤ j ∧ j < k + f ∧ (lowGo l n f k).1 = j * n ∧ freeAt l n ((j * n : Nat) : Int) = true ∧ ∀ i, k ≤ i → i < j → freeAt l n ((i * n : Nat) : Int) = false
  | 0, k, h => by simp [lowGo] at h
  | f + 1, k, h => by
    unfold lowGo at h ⊢
    split at h
    · rename_i hf
      rw [if_pos hf]
      exact ⟨k, Nat.le_refl _, by omega, rfl, hf, fun i _ _ => by omega⟩
    · rename_i hf
      rw [if_neg hf]
      obtain ⟨j, h1, h2, h3, h4, h5⟩ := lowGo_spec f (k + 1) h
      refine ⟨j, by omega, by omega, h3, h4, fun i hi hj => ?_⟩
      rcases Nat.lt_or_ge k i with h' | h'
      · exact h5 i h' hj
      · have : i = k := by omega
        subst this; simpa using hf
theorem lowF_spec {c : Cf} {l : List Bk} {n : Nat} (hn : 1 ≤ n) (h : (lowF c l n).2 = true) : ∃ j, (lowF c l n).1 = j * n ∧ j * n + n ≤ c.H ∧ freeAt l n ((lowF c l n).1 : Nat) = true ∧ ∀ i, i < j → freeAt l n ((i * n : Nat) : Int) = false := by
  obtain ⟨j, _, h2, h3, h4, h5⟩ := lowGo_spec (c.H / n) 0 h
  refine ⟨j, h3, ?_, by unfold lowF; rw [h3]; exact h4, fun i hi => h5 i (Nat.zero_le _) hi⟩
  have : (j + 1) * n ≤ c.H / n * n := Nat.mul_le_mul_right _ (by omega)
  have := Nat.div_mul_le_self c.H n
  rw [Nat.succ_mul] at *
  omega
/-- What holds of all that there is. -/
structure MoOk (m : Mo) : Prop where
  c : m.c.Ok
  a : ApB m.c.H m.bs
  z : ∀ x ∈ m.bs, ∃ k, k ≤ m.c.L ∧ x.c = ((m.c.G * 2 ^ k : Nat) : Int) ∧ x.a % x.c = 0 ∧ 0 ≤ x.q ∧ x.q ≤ x.c
  l : m.live = totalB m.bs
  lM : m.live ≤ m.c.M
  p : m.live ≤ m.peak ∧ m.peak ≤ m.c.M
  k : (∀ x ∈ m.bs, x.a + x.c ≤ m.mark) ∧ 0 ≤ m.mark ∧ m.mark ≤ m.c.H
  o : m.on.length = m.c.H / m.c.Pg
  on : cntB m.on ≤ m.c.P
  mm : m.mem.length = m.c.H
  b : IsB m.mem
end Go.Ev.W
namespace Go.Ev.W
open Go.Ev Go.Ev.N

theorem shp_u8 {n : Nat} {t : Nat} {x : AV} (hk : (T t).k = .int .u8) (h : Shp T (n + 1) t x) : ∃ b : Nat, x = u8 b ∧ b < 256 := by
  unfold Shp at h
  rw [hk] at h
  obtain ⟨a, rfl, ha⟩ := h
  have h1 : IntKind.u8.min ≤ a ∧ a ≤ IntKind.u8.max := by simpa [Lit.wf] using ha
  have e1 : IntKind.u8.min = 0 := by decide
  have e2 : IntKind.u8.max = 255 := by decide
  rw [e1, e2] at h1
  refine ⟨a.toNat, ?_, by omega⟩
  show _ = AV.int .u8 ((a.toNat : Nat) : Int)
  rw [show ((a.toNat : Nat) : Int) = a by omega]
/-- A row, of what its elements are. -/
theorem shp_list {α : Type} (enc : α → AV) (Q : α → Prop) {n t e : Nat} {x : AV} (hk : (T t).k = .slice e) (h : Shp T (n + 1) t x) (he : ∀ y, Shp T n e y → ∃ a, y = enc a ∧ Q a) : ∃ l : List α, x = .lst e (l.map enc) ∧ l.length ≤ maxLen ∧ ∀ a ∈ l, Q a := by
  unfold Shp at h
  rw [hk] at h
  obtain ⟨es, rfl, hl, hy⟩ := h
  have : ∃ l : List α, es = l.map enc ∧ ∀ a ∈ l, Q a := by
    clear hl
    induction es with
    | nil => exact ⟨[], rfl, fun a h => by simp at h⟩
    | cons y es ih =>
      obtain ⟨l, rfl, hb⟩ := ih fun z hz => hy z (by simp [hz])
      obtain ⟨a, rfl, ha⟩ := he y (hy y (by simp))
      exact ⟨a :: l, rfl, fun b hb' => (List.mem_cons.1 hb').elim (fun e => e ▸ ha) (hb b)⟩
  obtain ⟨l, rfl, hq⟩ := this
  exact ⟨l, rfl, by simpa using hl, hq⟩
theorem shp_bytes {n : Nat} {x : AV} (h : Shp T (n + 2) ts_uint8 x) : ∃ l, x = lB l ∧ IsB l ∧ l.length ≤ maxLen := by
  obtain ⟨l, rfl, h1, h2⟩ := shp_list (e := t_uint8) u8 (fun b => b < 256) (by kernel_rfl) h fun y hy => by
    obtain ⟨b, rfl, hb⟩ := shp_u8 (by kernel_rfl) hy
    exact ⟨b, rfl, hb⟩
  exact ⟨l, rfl, h2, h1⟩
end Go.Ev.W
namespace Go.Ev.W
open Go.Ev Go.Ev.N

theorem tdiv_rng {w s : Int} (h1 : -9223372036854775808 ≤ w) (h2 : w ≤ 9223372036854775807) (hs : 1 ≤ s) : -9223372036854775808 ≤ w.tdiv s ∧ w.tdiv s ≤ 9223372036854775807 := by
  rcases Int.lt_or_le w 0 with h | h
  · obtain ⟨y, rfl⟩ : ∃ y, w = -y := ⟨-w, by omega⟩
    rw [Int.neg_tdiv, Int.tdiv_eq_ediv_of_nonneg (show 0 ≤ y by omega)]
    have a := Int.ediv_nonneg (show 0 ≤ y by omega) (show 0 ≤ s by omega)
    have b := Int.ediv_le_self s (show 0 ≤ y by omega)
    omega
  · rw [Int.tdiv_eq_ediv_of_nonneg h]
    have a := Int.ediv_nonneg h (show 0 ≤ s by omega)
    have b := Int.ediv_le_self s h
    omega
theorem mul_over {n s : Int} (hn : 0 ≤ n) (hs : 1 ≤ s ∧ s ≤ 9223372036854775807) (h : 9223372036854775808 ≤ n * s) : (IntKind.i64.wrap (n * s)).tdiv s ≠ n := by
  intro e
  have h1 := Int.mul_tdiv_add_tmod (IntKind.i64.wrap (n * s)) s
  rw [e] at h1
  have h2 := Int.tmod_lt_of_pos (IntKind.i64.wrap (n * s)) (show (0 : Int) < s by omega)
  have h3 := Int.lt_tmod_of_pos (IntKind.i64.wrap (n * s)) (show (0 : Int) < s by omega)
  rw [Int.mul_comm s n] at h1
  generalize (IntKind.i64.wrap (n * s)).tmod s = d at *
  rw [IntKind.wrap_i64] at h1
  generalize n * s = p at *
  omega
theorem chargeF_bd {c : Cf} (hc : c.Ok) (s a : Int) : (chargeF c s a).1 ≤ 65536 ∧ ((chargeF c s a).2 = 0 → ∃ k, k ≤ c.L ∧ (chargeF c s a).1 = c.G * 2 ^ k ∧ 0 ≤ s ∧ s ≤ (chargeF c s a).1) := by
  unfold chargeF
  split
  · simp
  · split
    · simp
    · rename_i h1 h2
      simp only [not_or] at h1 h2
      have ha : a ≤ c.N := by omega
      have hN := hc.n
      obtain ⟨g, hg⟩ := hc.g
      have hpN : c.N = 2 ^ (g + c.L) := by rw [hN, hg, Nat.pow_add]
      have hle : upN (max (max s.toNat a.toNat) c.G) ≤ 2 ^ (g + c.L) := by
        refine upN_le ?_
        rw [← hpN]
        have hgN : c.G ≤ c.N := by rw [hN]; exact Nat.le_mul_of_pos_right _ (Nat.two_pow_pos _)
        omega
      have hb := hc.nM
      have hb2 := hc.mH
      refine ⟨by rw [← hpN] at hle; omega, fun _ => ?_⟩
      obtain ⟨e, he⟩ := pow_up (v := max s.toNat a.toNat) hc.g
      refine ⟨e, ?_, he, by omega, ?_⟩
      · rw [he, hg, ← Nat.pow_add] at hle
        have := (Nat.pow_le_pow_iff_right (a := 2) (by omega)).1 hle
        omega
      · have := le_upN (max (max s.toNat a.toNat) c.G)
        show s ≤ ((upN _ : Nat) : Int)
        omega
theorem prodF_bd {c : Cf} (n s : Int) : (prodF c n s).1 ≤ c.N := by
  unfold prodF; split
  · simp
  · split
    · show (n * s).toNat ≤ _; omega
    · simp
end Go.Ev.W
namespace Go.Ev.W
open Go.Ev Go.Ev.N

def findB (l : List Bk) (y : Int) : Option Nat := l.findIdx? fun x => decide (x.a = y)
end Go.Ev.W
namespace Go.Ev.W
open Go.Ev Go.Ev.N

theorem cntB_succ {l : List Bool} {i : Nat} (h : i < l.length) : cntB (l.take (i + 1)) = cntB (l.take i) + if l[i] = true then 1 else 0 := by
  unfold cntB; rw [List.take_succ_eq_append_getElem h, List.filter_append]
  cases l[i] <;> simp
theorem cntB_le (l : List Bool) : cntB l ≤ l.length := List.length_filter_le _ _
end Go.Ev.W
namespace Go.Ev.W
open Go.Ev Go.Ev.N

theorem lT_get {l : List Bool} {i : Nat} (h : i < l.length) : l.getD i false = l[i] := by simp [List.getD_eq_getElem?_getD, h]
def isIn (f b i : Nat) : Bool := decide (f ≤ i ∧ i < b)
def needF (met : List Bool) (f b i : Nat) : Bool := met.getD i false || isIn f b i
def freshL (on : List Bool) (f b i : Nat) : List Nat := (List.range i).filter fun j => isIn f b j && !on.getD j false
theorem freshL_succ (on : List Bool) (f b i : Nat) : freshL on f b (i + 1) = freshL on f b i ++ if (isIn f b i && !on.getD i false) = true then [i] else [] := by
  unfold freshL; rw [List.range_succ, List.filter_append]; simp [List.filter_cons]
theorem freshL_len (on : List Bool) (f b i : Nat) : (freshL on f b i).length ≤ i := by
  unfold freshL
  have := List.length_filter_le (fun j => isIn f b j && !on.getD j false) (List.range i)
  simpa using this
theorem commitF_eq (on met : List Bool) (f b most : Nat) : commitF on met f b most =
    if cntB ((List.range on.length).map (needF met f b)) > most then ([], [], false)
    else (if cntB ((List.range on.length).map (needF on f b)) > most then (List.range on.length).map fun i => needF on f b i && needF met f b i else (List.range on.length).map (needF on f b), freshL on f b on.length, true) := by
  unfold commitF
  simp only
  have e1 : ((List.range on.length).map fun i => met.getD i false || decide (f ≤ i ∧ i < b)) = (List.range on.length).map (needF met f b) := rfl
  have e2 : ((List.range on.length).map fun i => on.getD i false || decide (f ≤ i ∧ i < b)) = (List.range on.length).map (needF on f b) := rfl
  rw [e1, e2]
  have e3 : ((List.range on.length).map fun i => ((List.range on.length).map (needF on f b)).getD i false && ((List.range on.length).map (needF met f b)).getD i false) = (List.range on.length).map fun i => needF on f b i && needF met f b i := by
    refine List.map_congr_left fun i hi => ?_
    have hi : i < on.length := by simpa using hi
    simp [List.getD_eq_getElem?_getD, hi]
  rw [e3]
  rfl
end Go.Ev.W
namespace Go.Ev.W
open Go.Ev Go.Ev.N

theorem totalB_le {H : Nat} : ∀ {l : List Bk} {lo : Int}, (l.Pairwise fun x y => x.a + x.c ≤ y.a) → (∀ x ∈ l, lo ≤ x.a ∧ 1 ≤ x.c ∧ x.a + x.c ≤ H) → lo ≤ H → totalB l ≤ H - lo
  | [], lo, _, _, h => by simp [totalB]; omega
  | x :: l, lo, hp, hb, h => by
    have hx := hb x (by simp)
    rw [List.pairwise_cons] at hp
    have := totalB_le (l := l) (lo := x.a + x.c) hp.2 (fun y hy => ⟨hp.1 y hy, (hb y (by simp [hy])).2⟩) hx.2.2
    have e : totalB (x :: l) = x.c + totalB l := by simp only [totalB, List.map_cons, List.sum_cons]
    rw [e]; omega
theorem ApB.tot {H : Nat} {l : List Bk} (h : ApB H l) : totalB l ≤ H := by
  have := totalB_le (lo := 0) h.p (fun x hx => ⟨(h.b x hx).1, (h.b x hx).2.1, (h.b x hx).2.2⟩) (by omega)
  omega
theorem ApB.len {H : Nat} {l : List Bk} (h : ApB H l) : l.length ≤ H := by have := h.tot; have := totalB_nonneg h; omega
theorem fillF_len (mem : List Nat) (a b c : Nat) : (fillF mem a b c).length = mem.length := by simp [fillF]
theorem fills_len (sd pg : Nat) : ∀ (fs : List Nat) (mem : List Nat), (fs.foldl (fun mem p => fillF mem sd p pg) mem).length = mem.length
  | [], _ => rfl
  | f :: fs, mem => by rw [List.foldl_cons, fills_len sd pg fs, fillF_len]

theorem Cf.Ok.pgH {c : Cf} (h : c.Ok) : ∃ k, c.H = c.Pg * k := by
  obtain ⟨e, he⟩ := h.p
  obtain ⟨q, hq⟩ := h.m
  have hd : ∃ r, max c.N c.Pg = c.Pg * r := by
    rcases Nat.le_total c.N c.Pg with h1 | h1
    · exact ⟨1, by rw [Nat.max_eq_right h1]; omega⟩
    · rw [Nat.max_eq_left h1]
      have hg := h.gpos
      have hn := h.n
      rw [hn, he] at h1 ⊢
      have h2 := Nat.le_of_mul_le_mul_left h1 (by omega)
      have h3 := (Nat.pow_le_pow_iff_right (by omega : 1 < 2)).1 h2
      exact ⟨2 ^ (c.L - e), by rw [Nat.mul_assoc, ← Nat.pow_add]; congr 2; omega⟩
  obtain ⟨r, hr⟩ := hd
  have h1 : c.M / 2 = c.Pg * r * q := by rw [hq, hr, show 2 * (c.Pg * r) * q = 2 * (c.Pg * r * q) by rw [Nat.mul_assoc 2]]; omega
  refine ⟨r * q * 2 + c.L * (r * q), ?_⟩
  rw [h.h, h1, hq, hr, Nat.mul_add]
  have e1 : 2 * (c.Pg * r) * q = c.Pg * (r * q * 2) := by simp only [Nat.mul_assoc, Nat.mul_comm, Nat.mul_left_comm]
  have e2 : c.L * (c.Pg * r * q) = c.Pg * (c.L * (r * q)) := by simp only [Nat.mul_assoc, Nat.mul_comm, Nat.mul_left_comm]
  rw [e1, e2]
theorem Cf.Ok.pgpos {c : Cf} (h : c.Ok) : 1 ≤ c.Pg := by
  obtain ⟨e, he⟩ := h.p
  have := h.gpos
  have := Nat.one_le_two_pow (n := e)
  rw [he]; exact Nat.mul_pos (by omega) (by omega)
theorem Cf.Ok.pages {c : Cf} (h : c.Ok) {y n : Nat} (hn : 1 ≤ n) (hy : y + n ≤ c.H) : y / c.Pg ≤ (y + n - 1) / c.Pg + 1 ∧ (y + n - 1) / c.Pg + 1 ≤ c.H / c.Pg := by
  have hp := h.pgpos
  obtain ⟨k, hk⟩ := h.pgH
  refine ⟨?_, ?_⟩
  · have := Nat.div_le_div_right (c := c.Pg) (show y ≤ y + n - 1 by omega); omega
  · rw [hk, Nat.mul_div_cancel_left _ (by omega)]
    refine Nat.div_lt_of_lt_mul ?_
    rw [← hk]; omega
end Go.Ev.W
namespace Go.Ev.X
open Go.Ev Go.Ev.N

theorem fits {k : IntKind} {n : Int} {Q : Int → Prop} (h : k.wrap n = n) (q : Q n) : Fits k n Q := ⟨by rw [h]; exact q⟩
theorem wrap64 {n : Int} (h1 : -9223372036854775808 ≤ n) (h2 : n ≤ 9223372036854775807) : IntKind.i64.wrap n = n := by rw [IntKind.wrap_i64]; omega

structure O where
  k : Int
  p : Int
  s : Int
  a : Int
  n : Int
  b : Int
  deriving DecidableEq

def encO (o : O) : AV := .agg [.int .i64 o.k, .int .i64 o.p, .int .i64 o.s, .int .i64 o.a, .int .i64 o.n, .int .u8 o.b]

end Go.Ev.X
