/- Words and lemmas, part 4, for laws of this seat (a part of their proofs). -/
import Derived.Test.YtbmgdbhnendopaaC3
set_option linter.unusedVariables false
set_option linter.unusedSimpArgs false
namespace Go.Ev.W
open Go.Ev Go.Ev.N

/-- What is held is no smaller than a granule, and covers the offset. -/
def RdX (c : Cf) (r : Rd) : Prop := ∀ x ∈ r.live, (c.G : Int) ≤ x.n ∧ covF r.off (sz c r.step) x = true
theorem nextF_x {c : Cf} {r : Rd} (h : RdX c r) : RdX c (nextF c r) := by
  have e := sz_succ c r.step
  unfold nextF
  split
  · intro x hx
    obtain ⟨h1, h2⟩ := List.mem_filter.1 (show x ∈ r.live.filter _ from hx)
    exact ⟨(h x h1).1, by show covF (r.off + sz c r.step) (sz c (r.step + 1)) x = true; rw [e]; exact h2⟩
  · intro x hx
    obtain ⟨h1, h2⟩ := List.mem_filter.1 (show x ∈ r.live.filter _ from hx)
    exact ⟨(h x h1).1, by show covF r.off (sz c (r.step + 1)) x = true; rw [e]; exact h2⟩
theorem endF_x {c : Cf} : ∀ (k : Nat) {r : Rd}, RdX c r → RdX c (endF c k r)
  | 0, _, h => h
  | k + 1, r, h => by
    unfold endF
    split
    · split
      · exact h
      · exact endF_x k (nextF_x h)
    · exact h
theorem toldF_x {c : Cf} {r : Rd} (hc : c.Ok) (hr : RdOk c r) (h : RdX c r) (y : Int) : RdX c (toldF c r y) := by
  unfold toldF
  split
  · exact h
  · split
    · exact h
    · refine endF_x _ ?_
      intro x hx
      have hs := sz_pos hc r.step
      rcases (put_cases hr.a ⟨y, sz c r.step⟩).2 with ⟨_, _, l1, l2, e, e2, _, _⟩ | ⟨_, e2⟩
      · have hx : x ∈ (putR r.live ⟨y, sz c r.step⟩).1 := hx
        rw [e2] at hx
        have : x = ⟨y, sz c r.step⟩ ∨ x ∈ r.live := by
          rw [e]
          simp only [List.mem_append, List.mem_cons] at hx ⊢
          rcases hx with h | h | h
          · exact .inr (.inl h)
          · exact .inl h
          · exact .inr (.inr h)
        rcases this with rfl | hm
        · refine ⟨?_, ?_⟩
          · show (c.G : Int) ≤ ((sz c r.step : Nat) : Int)
            have : sz c 0 ≤ sz c r.step := sz_mono (by omega)
            have e0 : sz c 0 = c.G := by simp [sz]
            omega
          · show covF r.off (sz c r.step) ⟨y, sz c r.step⟩ = true
            unfold covF
            exact decide_eq_true (Int.emod_lt_of_pos _ (by omega))
        · exact h x hm
      · have hx : x ∈ (putR r.live ⟨y, sz c r.step⟩).1 := hx
        rw [e2] at hx; exact h x hx
theorem len_le {c : Cf} {G : Nat} : ∀ {l : List Sp}, (∀ x ∈ l, (G : Int) ≤ x.n) → ((l.length * G : Nat) : Int) ≤ total l
  | [], _ => by simp [total]
  | x :: l, h => by
    have ih := len_le (c := c) (l := l) fun y hy => h y (by simp [hy])
    have hx := h x (by simp)
    rw [total_cons, List.length_cons, Nat.succ_mul]
    omega
theorem tmod2 {x m : Int} (hm : 0 < m) : (x.tmod m + m).tmod m = x % m := by
  rcases Int.lt_or_le x 0 with h | h
  · obtain ⟨y, rfl⟩ : ∃ y, x = -y := ⟨-x, by omega⟩
    have h1 := Int.emod_nonneg y (b := m) (by omega)
    have h2 := Int.emod_lt_of_pos y hm
    rw [Int.neg_tmod, Int.tmod_eq_emod_of_nonneg (show 0 ≤ y by omega), Int.tmod_eq_emod_of_nonneg (by omega), Int.add_emod_right]
    have : -y = 0 - y := by omega
    rw [this, Int.sub_emod 0 y m, Int.zero_emod]
    congr 1; omega
  · have h1 := Int.emod_nonneg x (b := m) (by omega)
    rw [Int.tmod_eq_emod_of_nonneg h, Int.tmod_eq_emod_of_nonneg (by omega), Int.add_emod_right, Int.emod_emod]

set_option maxHeartbeats 4000000 in
theorem gameFair_told (bs ls : List Nat) (hb : IsB bs) (hl : bs.length ≤ maxLen) (hb2 : IsB ls) (hl2 : ls.length ≤ maxLen) : Told P T law22_GameFair [] [lB bs, lB ls] (.bool true) [] := by
  have hmb : (bs.map u8).length = bs.length := by simp
  have hml : (ls.map u8).length = ls.length := by simp
  refine told_of_ev (fn := law22_GameFair_fn) tabOk mixed (by kernel_rfl) (by kernel_rfl) (by kernel_rfl) (by kernel_rfl) ?_
  ((repeat ((conv => whnf); first | (refine Sure.mk (by kernel_rfl) ?_) | (refine IfB.tt rfl ?_) | (refine IfB.ff rfl ?_) | (refine IfB.tt ?_ ?_; (focus (simp <;> fail))) | (refine IfB.ff ?_ ?_; (focus (simp <;> fail))) | (refine fits (wrap64 ?_ ?_) ?_; (focus omega); (focus omega)) | (refine fits (wrapU64 ?_ ?_) ?_; (focus omega); (focus omega)) | (refine Need.mk ?_ ?_; (focus omega)) | (refine InB.mk ?_ ?_ ?_; (focus omega); (focus omega)))); (try (conv => whnf)); refine Choice.mk ⟨false, Choice.mk ⟨true, _, _, begun22_told, ?_⟩⟩)
  ((repeat ((conv => whnf); first | (refine Sure.mk (by kernel_rfl) ?_) | (refine IfB.tt rfl ?_) | (refine IfB.ff rfl ?_) | (refine IfB.tt ?_ ?_; (focus (simp <;> fail))) | (refine IfB.ff ?_ ?_; (focus (simp <;> fail))) | (refine fits (wrap64 ?_ ?_) ?_; (focus omega); (focus omega)) | (refine fits (wrapU64 ?_ ?_) ?_; (focus omega); (focus omega)) | (refine Need.mk ?_ ?_; (focus omega)) | (refine InB.mk ?_ ?_ ?_; (focus omega); (focus omega)))); (try (conv => whnf)); first | refine IfB.dec (fun h1 => ?_) (fun h1 => ?_) | refine IfB.eq (fun h1 => ?_) (fun h1 => ?_) | refine IfB.ne (fun h1 => ?_) (fun h1 => ?_) | refine IfB.mk (fun h1 => ?_) (fun h1 => ?_))
  · ((repeat ((conv => whnf); first | (refine Sure.mk (by kernel_rfl) ?_) | (refine IfB.tt rfl ?_) | (refine IfB.ff rfl ?_) | (refine IfB.tt ?_ ?_; (focus (simp <;> fail))) | (refine IfB.ff ?_ ?_; (focus (simp <;> fail))) | (refine fits (wrap64 ?_ ?_) ?_; (focus omega); (focus omega)) | (refine fits (wrapU64 ?_ ?_) ?_; (focus omega); (focus omega)) | (refine Need.mk ?_ ?_; (focus omega)) | (refine InB.mk ?_ ?_ ?_; (focus omega); (focus omega)))); (try (conv => whnf)); exact RetN.mk ⟨[], rfl, rfl, rfl⟩)
  · ((repeat ((conv => whnf); first | (refine Sure.mk (by kernel_rfl) ?_) | (refine IfB.tt rfl ?_) | (refine IfB.ff rfl ?_) | (refine IfB.tt ?_ ?_; (focus (simp <;> fail))) | (refine IfB.ff ?_ ?_; (focus (simp <;> fail))) | (refine fits (wrap64 ?_ ?_) ?_; (focus omega); (focus omega)) | (refine fits (wrapU64 ?_ ?_) ?_; (focus omega); (focus omega)) | (refine Need.mk ?_ ?_; (focus omega)) | (refine InB.mk ?_ ?_ ?_; (focus omega); (focus omega)))); (try (conv => whnf)); first | refine IfB.dec (fun h2 => ?_) (fun h2 => ?_) | refine IfB.eq (fun h2 => ?_) (fun h2 => ?_) | refine IfB.ne (fun h2 => ?_) (fun h2 => ?_) | refine IfB.mk (fun h2 => ?_) (fun h2 => ?_))
    · ((repeat ((conv => whnf); first | (refine Sure.mk (by kernel_rfl) ?_) | (refine IfB.tt rfl ?_) | (refine IfB.ff rfl ?_) | (refine IfB.tt ?_ ?_; (focus (simp <;> fail))) | (refine IfB.ff ?_ ?_; (focus (simp <;> fail))) | (refine fits (wrap64 ?_ ?_) ?_; (focus omega); (focus omega)) | (refine fits (wrapU64 ?_ ?_) ?_; (focus omega); (focus omega)) | (refine Need.mk ?_ ?_; (focus omega)) | (refine InB.mk ?_ ?_ ?_; (focus omega); (focus omega)))); (try (conv => whnf)); exact RetN.mk ⟨[], rfl, rfl, rfl⟩)
    · ((repeat ((conv => whnf); first | (refine Sure.mk (by kernel_rfl) ?_) | (refine IfB.tt rfl ?_) | (refine IfB.ff rfl ?_) | (refine IfB.tt ?_ ?_; (focus (simp <;> fail))) | (refine IfB.ff ?_ ?_; (focus (simp <;> fail))) | (refine fits (wrap64 ?_ ?_) ?_; (focus omega); (focus omega)) | (refine fits (wrapU64 ?_ ?_) ?_; (focus omega); (focus omega)) | (refine Need.mk ?_ ?_; (focus omega)) | (refine InB.mk ?_ ?_ ?_; (focus omega); (focus omega)))); (try (conv => whnf)); refine Choice.mk ⟨false, Choice.mk ⟨false, _, _, made_told bs, ?_⟩⟩)
      ((repeat ((conv => whnf); first | (refine Sure.mk (by kernel_rfl) ?_) | (refine IfB.tt rfl ?_) | (refine IfB.ff rfl ?_) | (refine IfB.tt ?_ ?_; (focus (simp <;> fail))) | (refine IfB.ff ?_ ?_; (focus (simp <;> fail))) | (refine fits (wrap64 ?_ ?_) ?_; (focus omega); (focus omega)) | (refine fits (wrapU64 ?_ ?_) ?_; (focus omega); (focus omega)) | (refine Need.mk ?_ ?_; (focus omega)) | (refine InB.mk ?_ ?_ ?_; (focus omega); (focus omega)))); (try (conv => whnf)); refine Choice.mk ⟨true, Choice.mk ⟨false, _, _, conf_told ⟨bs, 0⟩ ⟨hb, Nat.zero_le _, hl⟩ true, ?_⟩⟩)
      obtain ⟨hc, hN⟩ := conf_ok ⟨bs, 0⟩ true
      obtain ⟨c, hce⟩ : ∃ c, (ofF (rawF ⟨bs, 0⟩ true).1).1 = c := ⟨_, rfl⟩
      rw [hce] at hc hN ⊢
      have hg := hc.gpos
      have hnM := hc.nM
      have hmH := hc.mH
      ((repeat ((conv => whnf); first | (refine Sure.mk (by kernel_rfl) ?_) | (refine IfB.tt rfl ?_) | (refine IfB.ff rfl ?_) | (refine IfB.tt ?_ ?_; (focus (simp <;> fail))) | (refine IfB.ff ?_ ?_; (focus (simp <;> fail))) | (refine fits (wrap64 ?_ ?_) ?_; (focus omega); (focus omega)) | (refine fits (wrapU64 ?_ ?_) ?_; (focus omega); (focus omega)) | (refine Need.mk ?_ ?_; (focus omega)) | (refine InB.mk ?_ ?_ ?_; (focus omega); (focus omega)))); (try (conv => whnf)); first | refine IfB.dec (fun h3 => ?_) (fun h3 => ?_) | refine IfB.eq (fun h3 => ?_) (fun h3 => ?_) | refine IfB.ne (fun h3 => ?_) (fun h3 => ?_) | refine IfB.mk (fun h3 => ?_) (fun h3 => ?_))
      · omega
      · ((repeat ((conv => whnf); first | (refine Sure.mk (by kernel_rfl) ?_) | (refine IfB.tt rfl ?_) | (refine IfB.ff rfl ?_) | (refine IfB.tt ?_ ?_; (focus (simp <;> fail))) | (refine IfB.ff ?_ ?_; (focus (simp <;> fail))) | (refine fits (wrap64 ?_ ?_) ?_; (focus omega); (focus omega)) | (refine fits (wrapU64 ?_ ?_) ?_; (focus omega); (focus omega)) | (refine Need.mk ?_ ?_; (focus omega)) | (refine InB.mk ?_ ?_ ?_; (focus omega); (focus omega)))); (try (conv => whnf)); refine Choice.mk ⟨false, Choice.mk ⟨false, _, _, begin_told c, ?_⟩⟩)
        ((repeat ((conv => whnf); first | (refine Sure.mk (by kernel_rfl) ?_) | (refine IfB.tt rfl ?_) | (refine IfB.ff rfl ?_) | (refine IfB.tt ?_ ?_; (focus (simp <;> fail))) | (refine IfB.ff ?_ ?_; (focus (simp <;> fail))) | (refine fits (wrap64 ?_ ?_) ?_; (focus omega); (focus omega)) | (refine fits (wrapU64 ?_ ?_) ?_; (focus omega); (focus omega)) | (refine Need.mk ?_ ?_; (focus omega)) | (refine InB.mk ?_ ?_ ?_; (focus omega); (focus omega)))); (try (conv => whnf)); refine LoopN.mk ⟨[1,5,7,8], fun vs L => ∃ (i : Nat) (r : Rd), vs = [lB ls, .ptr 0 0 0, .ptr 1 0 0, i64 i] ∧ L = [.var (eC c), .var (eRd r)] ∧ i ≤ ls.length ∧ RdOk c r ∧ r.asked ≤ i ∧ RdX c r, fun vs L => match vs with | [_, _, _, .int _ i] => ls.length - i.toNat | _ => 0, [], [1,3], rfl, ⟨0, r0, rfl, rfl, by omega, r0_ok hc, by simp [r0], by intro x hx; simp [r0] at hx⟩, ?_⟩)
        rintro vs L ⟨i, r, rfl, rfl, hi, hr, hq, hX⟩
        have hlr := hr.toRdB.len hc
        have hmr : (r.live.map eS).length = r.live.length := by simp
        have htot := total_takes hr.a
        have htM := hr.t
        ((repeat ((conv => whnf); first | (refine Sure.mk (by kernel_rfl) ?_) | (refine IfB.tt rfl ?_) | (refine IfB.ff rfl ?_) | (refine IfB.tt ?_ ?_; (focus (simp <;> fail))) | (refine IfB.ff ?_ ?_; (focus (simp <;> fail))) | (refine fits (wrap64 ?_ ?_) ?_; (focus omega); (focus omega)) | (refine fits (wrapU64 ?_ ?_) ?_; (focus omega); (focus omega)) | (refine Need.mk ?_ ?_; (focus omega)) | (refine InB.mk ?_ ?_ ?_; (focus omega); (focus omega)))); (try (conv => whnf)); first | refine IfB.dec (fun h4 => ?_) (fun h4 => ?_) | refine IfB.eq (fun h4 => ?_) (fun h4 => ?_) | refine IfB.ne (fun h4 => ?_) (fun h4 => ?_) | refine IfB.mk (fun h4 => ?_) (fun h4 => ?_))
        · have hlt : i < ls.length := by omega
          have hbi := hb2 _ (List.getElem_mem hlt)
          have ca := asks_told (r := r) hc hr.s
          have hs := hc.sz_le hr.s
          have hsp := sz_pos hc r.step
          by_cases hw : r.why = 0
          · rw [show asksF c r = (sz c r.step, true) by unfold asksF; rw [if_pos hw]] at ca
            have ht2 := hr.t2 hw
            obtain ⟨m, hme⟩ : ∃ m, sz c r.step = m := ⟨_, rfl⟩
            have cz := refSz_told hc hr.s
            have cm := maySpans_told r.live (by omega)
            rw [may0_iff.2 hr.a] at cm
            have cw := where_told hr.a hlr (n := sz c r.step) (k := ls[i]) (by omega) hbi
            have hwb := whereF_bd (l := r.live) (n := sz c r.step) (k := ls[i]) (by omega) hbi
            obtain ⟨y, hy⟩ : ∃ y, whereF r.live (sz c r.step) ls[i] = y := ⟨_, rfl⟩
            rw [hy] at cw hwb
            have h := toldF_ok hc hr y
            have ct := told_told hc hr y (by omega) (by omega)
            rw [hme] at ca cz cw hs hsp ht2
            ((repeat ((conv => whnf); first | (refine Sure.mk (by kernel_rfl) ?_) | (refine IfB.tt rfl ?_) | (refine IfB.ff rfl ?_) | (refine IfB.tt ?_ ?_; (focus (simp <;> fail))) | (refine IfB.ff ?_ ?_; (focus (simp <;> fail))) | (refine fits (wrap64 ?_ ?_) ?_; (focus omega); (focus omega)) | (refine fits (wrapU64 ?_ ?_) ?_; (focus omega); (focus omega)) | (refine Need.mk ?_ ?_; (focus omega)) | (refine InB.mk ?_ ?_ ?_; (focus omega); (focus omega)))); (try (conv => whnf)); refine Choice.mk ⟨false, Choice.mk ⟨true, _, _, ca, ?_⟩⟩)
            ((repeat ((conv => whnf); first | (refine Sure.mk (by kernel_rfl) ?_) | (refine IfB.tt rfl ?_) | (refine IfB.ff rfl ?_) | (refine IfB.tt ?_ ?_; (focus (simp <;> fail))) | (refine IfB.ff ?_ ?_; (focus (simp <;> fail))) | (refine fits (wrap64 ?_ ?_) ?_; (focus omega); (focus omega)) | (refine fits (wrapU64 ?_ ?_) ?_; (focus omega); (focus omega)) | (refine Need.mk ?_ ?_; (focus omega)) | (refine InB.mk ?_ ?_ ?_; (focus omega); (focus omega)))); (try (conv => whnf)); refine LoopN.mk ⟨[1,5,7,8,9,11,12], fun vs L => ∃ j : Nat, vs = [lB ls, .ptr 0 0 0, .ptr 1 0 0, i64 i, i64 m, i64 ((m : Int) + total (r.live.take j)), i64 j] ∧ L = [.var (eC c), .var (eRd r)] ∧ j ≤ r.live.length, fun vs L => match vs with | [_, _, _, _, _, _, .int _ i] => r.live.length - i.toNat | _ => 0, [], [0,1], rfl, ⟨0, by rw [show (m : Int) + total (r.live.take 0) = m by simp [total]]; rfl, rfl, by omega⟩, ?_⟩)
            rintro vs L ⟨j, rfl, rfl, hj⟩
            ((repeat ((conv => whnf); first | (refine Sure.mk (by kernel_rfl) ?_) | (refine IfB.tt rfl ?_) | (refine IfB.ff rfl ?_) | (refine IfB.tt ?_ ?_; (focus (simp <;> fail))) | (refine IfB.ff ?_ ?_; (focus (simp <;> fail))) | (refine fits (wrap64 ?_ ?_) ?_; (focus omega); (focus omega)) | (refine fits (wrapU64 ?_ ?_) ?_; (focus omega); (focus omega)) | (refine Need.mk ?_ ?_; (focus omega)) | (refine InB.mk ?_ ?_ ?_; (focus omega); (focus omega)))); (try (conv => whnf)); first | refine IfB.dec (fun g1 => ?_) (fun g1 => ?_) | refine IfB.eq (fun g1 => ?_) (fun g1 => ?_) | refine IfB.ne (fun g1 => ?_) (fun g1 => ?_) | refine IfB.mk (fun g1 => ?_) (fun g1 => ?_))
            · have hjl : j < r.live.length := by omega
              have hts := total_succ hjl
              have hb1 := htot j hj
              have hb2' := htot (j + 1) hjl
              ((repeat ((conv => whnf); first | (refine Sure.mk (by kernel_rfl) ?_) | (refine IfB.tt rfl ?_) | (refine IfB.ff rfl ?_) | (refine IfB.tt ?_ ?_; (focus (simp <;> fail))) | (refine IfB.ff ?_ ?_; (focus (simp <;> fail))) | (refine fits (wrap64 ?_ ?_) ?_; (focus omega); (focus omega)) | (refine fits (wrapU64 ?_ ?_) ?_; (focus omega); (focus omega)) | (refine Need.mk ?_ ?_; (focus omega)) | (refine InB.mk ?_ ?_ ?_; (focus omega); (focus omega)))); (try (conv => whnf)); refine idx_map (hjl) ?_)
              ((repeat ((conv => whnf); first | (refine Sure.mk (by kernel_rfl) ?_) | (refine IfB.tt rfl ?_) | (refine IfB.ff rfl ?_) | (refine IfB.tt ?_ ?_; (focus (simp <;> fail))) | (refine IfB.ff ?_ ?_; (focus (simp <;> fail))) | (refine fits (wrap64 ?_ ?_) ?_; (focus omega); (focus omega)) | (refine fits (wrapU64 ?_ ?_) ?_; (focus omega); (focus omega)) | (refine Need.mk ?_ ?_; (focus omega)) | (refine InB.mk ?_ ?_ ?_; (focus omega); (focus omega)))); (try (conv => whnf)); refine ⟨[], [0,1], rfl, ⟨j + 1, by rw [hts, ← Int.add_assoc]; rfl, rfl, hjl⟩, (by omega : r.live.length - ((j : Int) + 1).toNat < r.live.length - (j : Int).toNat)⟩)
            · have e : j = r.live.length := by omega
              subst e
              rw [List.take_length]
              ((repeat ((conv => whnf); first | (refine Sure.mk (by kernel_rfl) ?_) | (refine IfB.tt rfl ?_) | (refine IfB.ff rfl ?_) | (refine IfB.tt ?_ ?_; (focus (simp <;> fail))) | (refine IfB.ff ?_ ?_; (focus (simp <;> fail))) | (refine fits (wrap64 ?_ ?_) ?_; (focus omega); (focus omega)) | (refine fits (wrapU64 ?_ ?_) ?_; (focus omega); (focus omega)) | (refine Need.mk ?_ ?_; (focus omega)) | (refine InB.mk ?_ ?_ ?_; (focus omega); (focus omega)))); (try (conv => whnf)); refine Choice.mk ⟨false, Choice.mk ⟨true, _, _, cz, ?_⟩⟩)
              ((repeat ((conv => whnf); first | (refine Sure.mk (by kernel_rfl) ?_) | (refine IfB.tt rfl ?_) | (refine IfB.ff rfl ?_) | (refine IfB.tt ?_ ?_; (focus (simp <;> fail))) | (refine IfB.ff ?_ ?_; (focus (simp <;> fail))) | (refine fits (wrap64 ?_ ?_) ?_; (focus omega); (focus omega)) | (refine fits (wrapU64 ?_ ?_) ?_; (focus omega); (focus omega)) | (refine Need.mk ?_ ?_; (focus omega)) | (refine InB.mk ?_ ?_ ?_; (focus omega); (focus omega)))); (try (conv => whnf)); first | refine IfB.dec (fun g2 => ?_) (fun g2 => ?_) | refine IfB.eq (fun g2 => ?_) (fun g2 => ?_) | refine IfB.ne (fun g2 => ?_) (fun g2 => ?_) | refine IfB.mk (fun g2 => ?_) (fun g2 => ?_))
              · omega
              · ((repeat ((conv => whnf); first | (refine Sure.mk (by kernel_rfl) ?_) | (refine IfB.tt rfl ?_) | (refine IfB.ff rfl ?_) | (refine IfB.tt ?_ ?_; (focus (simp <;> fail))) | (refine IfB.ff ?_ ?_; (focus (simp <;> fail))) | (refine fits (wrap64 ?_ ?_) ?_; (focus omega); (focus omega)) | (refine fits (wrapU64 ?_ ?_) ?_; (focus omega); (focus omega)) | (refine Need.mk ?_ ?_; (focus omega)) | (refine InB.mk ?_ ?_ ?_; (focus omega); (focus omega)))); (try (conv => whnf)); first | refine IfB.dec (fun g3 => ?_) (fun g3 => ?_) | refine IfB.eq (fun g3 => ?_) (fun g3 => ?_) | refine IfB.ne (fun g3 => ?_) (fun g3 => ?_) | refine IfB.mk (fun g3 => ?_) (fun g3 => ?_))
                · omega
                · ((repeat ((conv => whnf); first | (refine Sure.mk (by kernel_rfl) ?_) | (refine IfB.tt rfl ?_) | (refine IfB.ff rfl ?_) | (refine IfB.tt ?_ ?_; (focus (simp <;> fail))) | (refine IfB.ff ?_ ?_; (focus (simp <;> fail))) | (refine fits (wrap64 ?_ ?_) ?_; (focus omega); (focus omega)) | (refine fits (wrapU64 ?_ ?_) ?_; (focus omega); (focus omega)) | (refine Need.mk ?_ ?_; (focus omega)) | (refine InB.mk ?_ ?_ ?_; (focus omega); (focus omega)))); (try (conv => whnf)); refine Choice.mk ⟨false, Choice.mk ⟨true, _, _, cm, ?_⟩⟩)
                  ((repeat ((conv => whnf); first | (refine Sure.mk (by kernel_rfl) ?_) | (refine IfB.tt rfl ?_) | (refine IfB.ff rfl ?_) | (refine IfB.tt ?_ ?_; (focus (simp <;> fail))) | (refine IfB.ff ?_ ?_; (focus (simp <;> fail))) | (refine fits (wrap64 ?_ ?_) ?_; (focus omega); (focus omega)) | (refine fits (wrapU64 ?_ ?_) ?_; (focus omega); (focus omega)) | (refine Need.mk ?_ ?_; (focus omega)) | (refine InB.mk ?_ ?_ ?_; (focus omega); (focus omega)))); (try (conv => whnf)); refine Choice.mk ⟨false, Choice.mk ⟨true, _, _, cz, ?_⟩⟩)
                  ((repeat ((conv => whnf); first | (refine Sure.mk (by kernel_rfl) ?_) | (refine IfB.tt rfl ?_) | (refine IfB.ff rfl ?_) | (refine IfB.tt ?_ ?_; (focus (simp <;> fail))) | (refine IfB.ff ?_ ?_; (focus (simp <;> fail))) | (refine fits (wrap64 ?_ ?_) ?_; (focus omega); (focus omega)) | (refine fits (wrapU64 ?_ ?_) ?_; (focus omega); (focus omega)) | (refine Need.mk ?_ ?_; (focus omega)) | (refine InB.mk ?_ ?_ ?_; (focus omega); (focus omega)))); (try (conv => whnf)); refine LoopN.mk ⟨[1,5,7,8,9,13,14], fun vs L => ∃ j : Nat, vs = [lB ls, .ptr 0 0 0, .ptr 1 0 0, i64 i, i64 m, i64 m, i64 j] ∧ L = [.var (eC c), .var (eRd r)] ∧ j ≤ r.live.length, fun vs L => match vs with | [_, _, _, _, _, _, .int _ i] => r.live.length - i.toNat | _ => 0, [], [0,1], rfl, ⟨0, rfl, rfl, by omega⟩, ?_⟩)
                  rintro vs L ⟨j, rfl, rfl, hj⟩
                  ((repeat ((conv => whnf); first | (refine Sure.mk (by kernel_rfl) ?_) | (refine IfB.tt rfl ?_) | (refine IfB.ff rfl ?_) | (refine IfB.tt ?_ ?_; (focus (simp <;> fail))) | (refine IfB.ff ?_ ?_; (focus (simp <;> fail))) | (refine fits (wrap64 ?_ ?_) ?_; (focus omega); (focus omega)) | (refine fits (wrapU64 ?_ ?_) ?_; (focus omega); (focus omega)) | (refine Need.mk ?_ ?_; (focus omega)) | (refine InB.mk ?_ ?_ ?_; (focus omega); (focus omega)))); (try (conv => whnf)); first | refine IfB.dec (fun g4 => ?_) (fun g4 => ?_) | refine IfB.eq (fun g4 => ?_) (fun g4 => ?_) | refine IfB.ne (fun g4 => ?_) (fun g4 => ?_) | refine IfB.mk (fun g4 => ?_) (fun g4 => ?_))
                  · have hjl : j < r.live.length := by omega
                    have hxj := hX _ (List.getElem_mem hjl)
                    rw [hme] at hxj
                    have hoj := (oneB_iff _).1 (hr.a.1 _ (List.getElem_mem hjl))
                    have hro := hr.o
                    have e1 := tmod2 (x := ((r.off : Nat) : Int) - r.live[j].a) (m := (m : Int)) (by omega)
                    have e2 := of_decide_eq_true hxj.2
                    have e3 := Int.tmod_lt_of_pos (((r.off : Nat) : Int) - r.live[j].a) (show (0 : Int) < (m : Int) by omega)
                    have e4 := Int.lt_tmod_of_pos (((r.off : Nat) : Int) - r.live[j].a) (show (0 : Int) < (m : Int) by omega)
                    ((repeat ((conv => whnf); first | (refine Sure.mk (by kernel_rfl) ?_) | (refine IfB.tt rfl ?_) | (refine IfB.ff rfl ?_) | (refine IfB.tt ?_ ?_; (focus (simp <;> fail))) | (refine IfB.ff ?_ ?_; (focus (simp <;> fail))) | (refine fits (wrap64 ?_ ?_) ?_; (focus omega); (focus omega)) | (refine fits (wrapU64 ?_ ?_) ?_; (focus omega); (focus omega)) | (refine Need.mk ?_ ?_; (focus omega)) | (refine InB.mk ?_ ?_ ?_; (focus omega); (focus omega)))); (try (conv => whnf)); refine idx_map (hjl) ?_)
                    ((repeat ((conv => whnf); first | (refine Sure.mk (by kernel_rfl) ?_) | (refine IfB.tt rfl ?_) | (refine IfB.ff rfl ?_) | (refine IfB.tt ?_ ?_; (focus (simp <;> fail))) | (refine IfB.ff ?_ ?_; (focus (simp <;> fail))) | (refine fits (wrap64 ?_ ?_) ?_; (focus omega); (focus omega)) | (refine fits (wrapU64 ?_ ?_) ?_; (focus omega); (focus omega)) | (refine Need.mk ?_ ?_; (focus omega)) | (refine InB.mk ?_ ?_ ?_; (focus omega); (focus omega)))); (try (conv => whnf)))
                    rw [e1]
                    ((repeat ((conv => whnf); first | (refine Sure.mk (by kernel_rfl) ?_) | (refine IfB.tt rfl ?_) | (refine IfB.ff rfl ?_) | (refine IfB.tt ?_ ?_; (focus (simp <;> fail))) | (refine IfB.ff ?_ ?_; (focus (simp <;> fail))) | (refine fits (wrap64 ?_ ?_) ?_; (focus omega); (focus omega)) | (refine fits (wrapU64 ?_ ?_) ?_; (focus omega); (focus omega)) | (refine Need.mk ?_ ?_; (focus omega)) | (refine InB.mk ?_ ?_ ?_; (focus omega); (focus omega)))); (try (conv => whnf)); refine idx_map (hjl) ?_)
                    ((repeat ((conv => whnf); first | (refine Sure.mk (by kernel_rfl) ?_) | (refine IfB.tt rfl ?_) | (refine IfB.ff rfl ?_) | (refine IfB.tt ?_ ?_; (focus (simp <;> fail))) | (refine IfB.ff ?_ ?_; (focus (simp <;> fail))) | (refine fits (wrap64 ?_ ?_) ?_; (focus omega); (focus omega)) | (refine fits (wrapU64 ?_ ?_) ?_; (focus omega); (focus omega)) | (refine Need.mk ?_ ?_; (focus omega)) | (refine InB.mk ?_ ?_ ?_; (focus omega); (focus omega)))); (try (conv => whnf)); first | refine IfB.dec (fun g5 => ?_) (fun g5 => ?_) | refine IfB.eq (fun g5 => ?_) (fun g5 => ?_) | refine IfB.ne (fun g5 => ?_) (fun g5 => ?_) | refine IfB.mk (fun g5 => ?_) (fun g5 => ?_))
                    · omega
                    · ((repeat ((conv => whnf); first | (refine Sure.mk (by kernel_rfl) ?_) | (refine IfB.tt rfl ?_) | (refine IfB.ff rfl ?_) | (refine IfB.tt ?_ ?_; (focus (simp <;> fail))) | (refine IfB.ff ?_ ?_; (focus (simp <;> fail))) | (refine fits (wrap64 ?_ ?_) ?_; (focus omega); (focus omega)) | (refine fits (wrapU64 ?_ ?_) ?_; (focus omega); (focus omega)) | (refine Need.mk ?_ ?_; (focus omega)) | (refine InB.mk ?_ ?_ ?_; (focus omega); (focus omega)))); (try (conv => whnf)); refine ⟨[], [0,1], rfl, ⟨j + 1, rfl, rfl, hjl⟩, (by omega : r.live.length - ((j : Int) + 1).toNat < r.live.length - (j : Int).toNat)⟩)
                  · ((repeat ((conv => whnf); first | (refine Sure.mk (by kernel_rfl) ?_) | (refine IfB.tt rfl ?_) | (refine IfB.ff rfl ?_) | (refine IfB.tt ?_ ?_; (focus (simp <;> fail))) | (refine IfB.ff ?_ ?_; (focus (simp <;> fail))) | (refine fits (wrap64 ?_ ?_) ?_; (focus omega); (focus omega)) | (refine fits (wrapU64 ?_ ?_) ?_; (focus omega); (focus omega)) | (refine Need.mk ?_ ?_; (focus omega)) | (refine InB.mk ?_ ?_ ?_; (focus omega); (focus omega)))); (try (conv => whnf)); refine idx_map (hlt) ?_)
                    ((repeat ((conv => whnf); first | (refine Sure.mk (by kernel_rfl) ?_) | (refine IfB.tt rfl ?_) | (refine IfB.ff rfl ?_) | (refine IfB.tt ?_ ?_; (focus (simp <;> fail))) | (refine IfB.ff ?_ ?_; (focus (simp <;> fail))) | (refine fits (wrap64 ?_ ?_) ?_; (focus omega); (focus omega)) | (refine fits (wrapU64 ?_ ?_) ?_; (focus omega); (focus omega)) | (refine Need.mk ?_ ?_; (focus omega)) | (refine InB.mk ?_ ?_ ?_; (focus omega); (focus omega)))); (try (conv => whnf)); refine Choice.mk ⟨false, Choice.mk ⟨true, _, _, cw, ?_⟩⟩)
                    ((repeat ((conv => whnf); first | (refine Sure.mk (by kernel_rfl) ?_) | (refine IfB.tt rfl ?_) | (refine IfB.ff rfl ?_) | (refine IfB.tt ?_ ?_; (focus (simp <;> fail))) | (refine IfB.ff ?_ ?_; (focus (simp <;> fail))) | (refine fits (wrap64 ?_ ?_) ?_; (focus omega); (focus omega)) | (refine fits (wrapU64 ?_ ?_) ?_; (focus omega); (focus omega)) | (refine Need.mk ?_ ?_; (focus omega)) | (refine InB.mk ?_ ?_ ?_; (focus omega); (focus omega)))); (try (conv => whnf)); refine Choice.mk ⟨false, Choice.mk ⟨false, _, _, ct, ?_⟩⟩)
                    ((repeat ((conv => whnf); first | (refine Sure.mk (by kernel_rfl) ?_) | (refine IfB.tt rfl ?_) | (refine IfB.ff rfl ?_) | (refine IfB.tt ?_ ?_; (focus (simp <;> fail))) | (refine IfB.ff ?_ ?_; (focus (simp <;> fail))) | (refine fits (wrap64 ?_ ?_) ?_; (focus omega); (focus omega)) | (refine fits (wrapU64 ?_ ?_) ?_; (focus omega); (focus omega)) | (refine Need.mk ?_ ?_; (focus omega)) | (refine InB.mk ?_ ?_ ?_; (focus omega); (focus omega)))); (try (conv => whnf)); refine ⟨[], [0,1], rfl, ⟨i + 1, _, rfl, rfl, hlt, h.1, by rw [h.2]; split <;> omega, toldF_x hc hr hX y⟩, (by omega : ls.length - ((i : Int) + 1).toNat < ls.length - (i : Int).toNat)⟩)
          · rw [show asksF c r = (0, false) by unfold asksF; rw [if_neg hw]] at ca
            have hle := len_le (c := c) (G := c.G) (l := r.live) fun x hx => (hX x hx).1
            have hdiv : r.live.length ≤ c.M / c.G := by
              rw [Nat.le_div_iff_mul_le hg]
              have : ((r.live.length * c.G : Nat) : Int) ≤ (c.M : Int) := Int.le_trans hle hr.t
              exact Int.ofNat_le.1 this
            have htd : ((c.M : Nat) : Int).tdiv ((c.G : Nat) : Int) = ((c.M / c.G : Nat) : Int) := by rw [Int.tdiv_eq_ediv_of_nonneg (by omega)]; omega
            have hwn : ((r.why : Nat) : Int) ≠ 0 := by omega
            have hdl := Nat.div_le_self c.M c.G
            have hdn : (0 : Int) ≤ ((c.M / c.G : Nat) : Int) := Int.natCast_nonneg _
            ((repeat ((conv => whnf); first | (refine Sure.mk (by kernel_rfl) ?_) | (refine IfB.tt rfl ?_) | (refine IfB.ff rfl ?_) | (refine IfB.tt ?_ ?_; (focus (simp <;> fail))) | (refine IfB.ff ?_ ?_; (focus (simp <;> fail))) | (refine fits (wrap64 ?_ ?_) ?_; (focus omega); (focus omega)) | (refine fits (wrapU64 ?_ ?_) ?_; (focus omega); (focus omega)) | (refine Need.mk ?_ ?_; (focus omega)) | (refine InB.mk ?_ ?_ ?_; (focus omega); (focus omega)))); (try (conv => whnf)); refine Choice.mk ⟨false, Choice.mk ⟨true, _, _, ca, ?_⟩⟩)
            ((repeat ((conv => whnf); first | (refine Sure.mk (by kernel_rfl) ?_) | (refine IfB.tt rfl ?_) | (refine IfB.ff rfl ?_) | (refine IfB.tt ?_ ?_; (focus (simp <;> fail))) | (refine IfB.ff ?_ ?_; (focus (simp <;> fail))) | (refine fits (wrap64 ?_ ?_) ?_; (focus omega); (focus omega)) | (refine fits (wrapU64 ?_ ?_) ?_; (focus omega); (focus omega)) | (refine Need.mk ?_ ?_; (focus omega)) | (refine InB.mk ?_ ?_ ?_; (focus omega); (focus omega)))); (try (conv => whnf)); refine IfB.tt (by simpa using hwn) ?_)
            ((repeat ((conv => whnf); first | (refine Sure.mk (by kernel_rfl) ?_) | (refine IfB.tt rfl ?_) | (refine IfB.ff rfl ?_) | (refine IfB.tt ?_ ?_; (focus (simp <;> fail))) | (refine IfB.ff ?_ ?_; (focus (simp <;> fail))) | (refine fits (wrap64 ?_ ?_) ?_; (focus omega); (focus omega)) | (refine fits (wrapU64 ?_ ?_) ?_; (focus omega); (focus omega)) | (refine Need.mk ?_ ?_; (focus omega)) | (refine InB.mk ?_ ?_ ?_; (focus omega); (focus omega)))); (try (conv => whnf)); refine RetN.mk ⟨[], rfl, ?_, rfl⟩)
            show AV.bool (bif true then decide ((((r.live.map eS).length : Nat) : Int) ≤ ((c.M : Nat) : Int).tdiv ((c.G : Nat) : Int)) else false) = AV.bool true
            rw [htd, hmr, decide_eq_true (by omega)]; rfl
        · ((repeat ((conv => whnf); first | (refine Sure.mk (by kernel_rfl) ?_) | (refine IfB.tt rfl ?_) | (refine IfB.ff rfl ?_) | (refine IfB.tt ?_ ?_; (focus (simp <;> fail))) | (refine IfB.ff ?_ ?_; (focus (simp <;> fail))) | (refine fits (wrap64 ?_ ?_) ?_; (focus omega); (focus omega)) | (refine fits (wrapU64 ?_ ?_) ?_; (focus omega); (focus omega)) | (refine Need.mk ?_ ?_; (focus omega)) | (refine InB.mk ?_ ?_ ?_; (focus omega); (focus omega)))); (try (conv => whnf)); refine RetN.mk ⟨[], rfl, ?_, rfl⟩)
          have := hr.w
          show AV.bool (decide (((r.asked : Nat) : Int) ≤ (((ls.map u8).length : Nat) : Int))) = AV.bool true
          rw [decide_eq_true (by omega)]
theorem gameFair {x0 x1 : AV} (h0 : Shp T 8 ts_uint8 x0) (h1 : Shp T 8 ts_uint8 x1) : Told P T law22_GameFair [] [x0, x1] (.bool true) [] := by
  obtain ⟨bs, rfl, hb, hl⟩ := shp_bytes h0
  obtain ⟨ls, rfl, hb2, hl2⟩ := shp_bytes h1
  exact gameFair_told bs ls hb hl hb2 hl2
end Go.Ev.W
namespace Go.Ev.W
open Go.Ev Go.Ev.N

def shS (u : Int) (x : Sp) : Sp := ⟨x.a + u, x.n⟩
def shR (u : Int) (r : Rd) : Rd := { r with live := r.live.map (shS u), most := if r.most > 0 then r.most + u else r.most }
theorem covF_sh {u : Int} {off m : Nat} (hm : (m : Int) ∣ u) (x : Sp) : covF off m (shS u x) = covF off m x := by
  unfold covF shS
  simp only
  have : ((off : Int) - (x.a + u)) % (m : Int) = ((off : Int) - x.a) % (m : Int) := by
    obtain ⟨q, rfl⟩ := hm
    rw [show (off : Int) - (x.a + (m : Int) * q) = ((off : Int) - x.a) - (m : Int) * q by omega, Int.sub_mul_emod_self_left]
  rw [this]
theorem less_sh {u : Int} {off m : Nat} (hm : (m : Int) ∣ u) : ∀ l : List Sp, less off m (l.map (shS u)) = less off m l
  | [] => rfl
  | x :: l => by
    simp only [List.map_cons, less, covF_sh hm, less_sh hm l]; rfl
theorem filter_sh {u : Int} {off m : Nat} (hm : (m : Int) ∣ u) : ∀ l : List Sp, (l.map (shS u)).filter (covF off m) = (l.filter (covF off m)).map (shS u)
  | [] => rfl
  | x :: l => by
    simp only [List.map_cons, List.filter_cons, covF_sh hm, filter_sh hm l]
    split <;> simp
theorem total_sh (u : Int) : ∀ l : List Sp, total (l.map (shS u)) = total l
  | [] => rfl
  | x :: l => by rw [List.map_cons, total_cons, total_cons, total_sh u l]; rfl
theorem nextF_sh {c : Cf} {r : Rd} {u : Int} (hm : ((2 * sz c r.step : Nat) : Int) ∣ u) : nextF c (shR u r) = shR u (nextF c r) := by
  unfold nextF
  have e1 : (shR u r).live = r.live.map (shS u) := rfl
  have e2 : (shR u r).step = r.step := rfl
  have e3 : (shR u r).off = r.off := rfl
  rw [e1, e2, e3, less_sh hm, less_sh hm, filter_sh hm, filter_sh hm]
  split <;> rfl
theorem sz_dvd {c : Cf} {j k : Nat} (h : j ≤ k) : sz c j ∣ sz c k := by
  unfold sz
  exact Nat.mul_dvd_mul_left _ (Nat.pow_dvd_pow 2 h)
theorem endF_sh {c : Cf} {u : Int} (hu : ((sz c c.L : Nat) : Int) ∣ u) : ∀ (k : Nat) (r : Rd), endF c k (shR u r) = shR u (endF c k r)
  | 0, _ => rfl
  | k + 1, r => by
    unfold endF
    have e1 : total (shR u r).live = total r.live := total_sh u r.live
    have e2 : (shR u r).step = r.step := rfl
    rw [e1, e2]
    split
    · split
      · rfl
      · rename_i hs
        have hd : ((2 * sz c r.step : Nat) : Int) ∣ u := by
          rw [← sz_succ]
          exact Int.dvd_trans (Int.natCast_dvd_natCast.2 (sz_dvd (by omega))) hu
        rw [nextF_sh hd, endF_sh hu k]
    · rfl
theorem lowS_sh (u y : Int) : ∀ l : List Sp, lowS (y + u) (l.map (shS u)) = lowS y l
  | [] => rfl
  | x :: l => by
    simp only [List.map_cons, lowS]
    rw [lowS_sh u y l]
    have : (shS u x).a < y + u ↔ x.a < y := by show x.a + u < y + u ↔ _; omega
    by_cases h : x.a < y
    · rw [if_pos h, if_pos (this.2 h)]
    · rw [if_neg h, if_neg (fun h' => h (this.1 h'))]
theorem clashR_sh (u : Int) (l : List Sp) (s : Sp) : clashR (l.map (shS u)) (shS u s) = clashR l s := by
  unfold clashR
  have e : lowS (shS u s).a (l.map (shS u)) = lowS s.a l := lowS_sh u s.a l
  rw [e]
  congr 1
  · cases lowS s.a l with
    | zero => rfl
    | succ k =>
      simp only [List.getElem?_map]
      cases l[k]? with
      | none => rfl
      | some x =>
        simp only [Option.map_some, shS]
        exact decide_eq_decide.2 (by omega)
  · simp only [List.getElem?_map]
    cases l[lowS s.a l]? with
    | none => rfl
    | some x =>
      simp only [Option.map_some, shS]
      exact decide_eq_decide.2 (by omega)
theorem putR_sh {u : Int} {l : List Sp} {s : Sp} (h : oneB (shS u s) = oneB s) : putR (l.map (shS u)) (shS u s) = ((putR l s).1.map (shS u), (putR l s).2) := by
  unfold putR
  rw [clashR_sh, h]
  have e : lowS (shS u s).a (l.map (shS u)) = lowS s.a l := lowS_sh u s.a l
  split
  · rw [e]; simp
  · rfl
/-- All that is held is low. -/
structure RdLow (r : Rd) : Prop where
  m : 0 ≤ r.most ∧ r.most ≤ 700000
theorem toldF_sh {c : Cf} (hc : c.Ok) {r : Rd} (hr : RdOk c r) (hL : 0 ≤ r.most ∧ r.most ≤ 700000) {u y : Int} (hu : ((sz c c.L : Nat) : Int) ∣ u) (hu0 : 0 ≤ u ∧ u ≤ 100000) (hy : 0 ≤ y ∧ y ≤ 600000) :
    toldF c (shR u r) (y + u) = shR u (toldF c r y) := by
  have hs := sz_pos hc r.step
  have hs2 := hc.sz_le hr.s
  have hs3 := hc.nM
  have hs4 := hc.mH
  have e2 : (shR u r).step = r.step := rfl
  have e4 : (shR u r).why = r.why := rfl
  have eL : (shR u r).live = r.live.map (shS u) := rfl
  have h1 : oneB ⟨y, sz c r.step⟩ = true := (oneB_iff _).2 ⟨by show (1 : Int) ≤ ((sz c r.step : Nat) : Int); omega, by show ((sz c r.step : Nat) : Int) ≤ _; omega, hy.1, by show y ≤ 1099511627776 - ((sz c r.step : Nat) : Int); omega⟩
  have h2 : oneB (shS u ⟨y, sz c r.step⟩) = true := (oneB_iff _).2 ⟨by show (1 : Int) ≤ ((sz c r.step : Nat) : Int); omega, by show ((sz c r.step : Nat) : Int) ≤ _; omega, by show 0 ≤ y + u; omega, by show y + u ≤ 1099511627776 - ((sz c r.step : Nat) : Int); omega⟩
  have hp : putR (r.live.map (shS u)) ⟨y + u, sz c r.step⟩ = ((putR r.live ⟨y, sz c r.step⟩).1.map (shS u), (putR r.live ⟨y, sz c r.step⟩).2) := putR_sh (s := ⟨y, sz c r.step⟩) (by rw [h1, h2])
  unfold toldF
  rw [e2, e4, eL, hp]
  split
  · rfl
  · split
    · rfl
    · have e : ∀ (a : List Sp), ({ (shR u r) with asked := (shR u r).asked + 1, live := a.map (shS u), most := max (shR u r).most (y + u + ((sz c r.step : Nat) : Int)) } : Rd) = shR u { r with asked := r.asked + 1, live := a, most := max r.most (y + ((sz c r.step : Nat) : Int)) } := by
        intro a
        unfold shR
        simp only
        congr 1
        rw [if_pos (show max r.most (y + ((sz c r.step : Nat) : Int)) > 0 by omega)]
        split <;> omega
      exact Eq.trans (congrArg (endF c _) (e _)) (endF_sh hu _ _)
theorem endF_most {c : Cf} : ∀ (k : Nat) (r : Rd), (endF c k r).most = r.most
  | 0, _ => rfl
  | k + 1, r => by
    unfold endF
    split
    · split
      · rfl
      · rw [endF_most k]; unfold nextF; split <;> rfl
    · rfl
theorem toldF_most {c : Cf} {r : Rd} (hr : RdOk c r) {y : Int} (hN : sz c r.step ≤ 128) (hy : 0 ≤ y ∧ y ≤ 600000) (hL : 0 ≤ r.most ∧ r.most ≤ 700000) : 0 ≤ (toldF c r y).most ∧ (toldF c r y).most ≤ 700000 := by
  unfold toldF
  split
  · exact hL
  · split
    · exact hL
    · rw [endF_most]
      show 0 ≤ max _ _ ∧ max _ _ ≤ _
      omega

set_option maxHeartbeats 4000000 in
set_option maxRecDepth 20000 in
theorem gameMoved_told (bs ls : List Nat) (hb : IsB bs) (hl : bs.length ≤ maxLen) (hb2 : IsB ls) (hl2 : ls.length ≤ maxLen) (b : Nat) (hbb : b < 256) : Told P T law22_GameMoved [] [lB bs, lB ls, u8 b] (.bool true) [] := by
  have hmb : (bs.map u8).length = bs.length := by simp
  have hml : (ls.map u8).length = ls.length := by simp
  have em : ((b : Nat) : Int).tmod 20 = ((b % 20 : Nat) : Int) := by rw [Int.tmod_eq_emod_of_nonneg (by omega)]; omega
  refine told_of_ev (fn := law22_GameMoved_fn) tabOk mixed (by kernel_rfl) (by kernel_rfl) (by kernel_rfl) (by kernel_rfl) ?_
  ((repeat ((conv => whnf); first | (refine Sure.mk (by kernel_rfl) ?_) | (refine IfB.tt rfl ?_) | (refine IfB.ff rfl ?_) | (refine IfB.tt ?_ ?_; (focus (simp <;> fail))) | (refine IfB.ff ?_ ?_; (focus (simp <;> fail))) | (refine fits (wrap64 ?_ ?_) ?_; (focus omega); (focus omega)) | (refine fits (wrapU64 ?_ ?_) ?_; (focus omega); (focus omega)) | (refine Need.mk ?_ ?_; (focus omega)) | (refine InB.mk ?_ ?_ ?_; (focus omega); (focus omega)))); (try (conv => whnf)); refine Choice.mk ⟨false, Choice.mk ⟨true, _, _, begun22_told, ?_⟩⟩)
  ((repeat ((conv => whnf); first | (refine Sure.mk (by kernel_rfl) ?_) | (refine IfB.tt rfl ?_) | (refine IfB.ff rfl ?_) | (refine IfB.tt ?_ ?_; (focus (simp <;> fail))) | (refine IfB.ff ?_ ?_; (focus (simp <;> fail))) | (refine fits (wrap64 ?_ ?_) ?_; (focus omega); (focus omega)) | (refine fits (wrapU64 ?_ ?_) ?_; (focus omega); (focus omega)) | (refine Need.mk ?_ ?_; (focus omega)) | (refine InB.mk ?_ ?_ ?_; (focus omega); (focus omega)))); (try (conv => whnf)); first | refine IfB.dec (fun h1 => ?_) (fun h1 => ?_) | refine IfB.eq (fun h1 => ?_) (fun h1 => ?_) | refine IfB.ne (fun h1 => ?_) (fun h1 => ?_) | refine IfB.mk (fun h1 => ?_) (fun h1 => ?_))
  · ((repeat ((conv => whnf); first | (refine Sure.mk (by kernel_rfl) ?_) | (refine IfB.tt rfl ?_) | (refine IfB.ff rfl ?_) | (refine IfB.tt ?_ ?_; (focus (simp <;> fail))) | (refine IfB.ff ?_ ?_; (focus (simp <;> fail))) | (refine fits (wrap64 ?_ ?_) ?_; (focus omega); (focus omega)) | (refine fits (wrapU64 ?_ ?_) ?_; (focus omega); (focus omega)) | (refine Need.mk ?_ ?_; (focus omega)) | (refine InB.mk ?_ ?_ ?_; (focus omega); (focus omega)))); (try (conv => whnf)); exact RetN.mk ⟨[], rfl, rfl, rfl⟩)
  · ((repeat ((conv => whnf); first | (refine Sure.mk (by kernel_rfl) ?_) | (refine IfB.tt rfl ?_) | (refine IfB.ff rfl ?_) | (refine IfB.tt ?_ ?_; (focus (simp <;> fail))) | (refine IfB.ff ?_ ?_; (focus (simp <;> fail))) | (refine fits (wrap64 ?_ ?_) ?_; (focus omega); (focus omega)) | (refine fits (wrapU64 ?_ ?_) ?_; (focus omega); (focus omega)) | (refine Need.mk ?_ ?_; (focus omega)) | (refine InB.mk ?_ ?_ ?_; (focus omega); (focus omega)))); (try (conv => whnf)); first | refine IfB.dec (fun h2 => ?_) (fun h2 => ?_) | refine IfB.eq (fun h2 => ?_) (fun h2 => ?_) | refine IfB.ne (fun h2 => ?_) (fun h2 => ?_) | refine IfB.mk (fun h2 => ?_) (fun h2 => ?_))
    · ((repeat ((conv => whnf); first | (refine Sure.mk (by kernel_rfl) ?_) | (refine IfB.tt rfl ?_) | (refine IfB.ff rfl ?_) | (refine IfB.tt ?_ ?_; (focus (simp <;> fail))) | (refine IfB.ff ?_ ?_; (focus (simp <;> fail))) | (refine fits (wrap64 ?_ ?_) ?_; (focus omega); (focus omega)) | (refine fits (wrapU64 ?_ ?_) ?_; (focus omega); (focus omega)) | (refine Need.mk ?_ ?_; (focus omega)) | (refine InB.mk ?_ ?_ ?_; (focus omega); (focus omega)))); (try (conv => whnf)); exact RetN.mk ⟨[], rfl, rfl, rfl⟩)
    · ((repeat ((conv => whnf); first | (refine Sure.mk (by kernel_rfl) ?_) | (refine IfB.tt rfl ?_) | (refine IfB.ff rfl ?_) | (refine IfB.tt ?_ ?_; (focus (simp <;> fail))) | (refine IfB.ff ?_ ?_; (focus (simp <;> fail))) | (refine fits (wrap64 ?_ ?_) ?_; (focus omega); (focus omega)) | (refine fits (wrapU64 ?_ ?_) ?_; (focus omega); (focus omega)) | (refine Need.mk ?_ ?_; (focus omega)) | (refine InB.mk ?_ ?_ ?_; (focus omega); (focus omega)))); (try (conv => whnf)); refine Choice.mk ⟨false, Choice.mk ⟨false, _, _, made_told bs, ?_⟩⟩)
      ((repeat ((conv => whnf); first | (refine Sure.mk (by kernel_rfl) ?_) | (refine IfB.tt rfl ?_) | (refine IfB.ff rfl ?_) | (refine IfB.tt ?_ ?_; (focus (simp <;> fail))) | (refine IfB.ff ?_ ?_; (focus (simp <;> fail))) | (refine fits (wrap64 ?_ ?_) ?_; (focus omega); (focus omega)) | (refine fits (wrapU64 ?_ ?_) ?_; (focus omega); (focus omega)) | (refine Need.mk ?_ ?_; (focus omega)) | (refine InB.mk ?_ ?_ ?_; (focus omega); (focus omega)))); (try (conv => whnf)); refine Choice.mk ⟨true, Choice.mk ⟨false, _, _, conf_told ⟨bs, 0⟩ ⟨hb, Nat.zero_le _, hl⟩ true, ?_⟩⟩)
      obtain ⟨hc, hN⟩ := conf_ok ⟨bs, 0⟩ true
      obtain ⟨c, hce⟩ : ∃ c, (ofF (rawF ⟨bs, 0⟩ true).1).1 = c := ⟨_, rfl⟩
      rw [hce] at hc hN ⊢
      have hg := hc.gpos
      have hnM := hc.nM
      have hmH := hc.mH
      ((repeat ((conv => whnf); first | (refine Sure.mk (by kernel_rfl) ?_) | (refine IfB.tt rfl ?_) | (refine IfB.ff rfl ?_) | (refine IfB.tt ?_ ?_; (focus (simp <;> fail))) | (refine IfB.ff ?_ ?_; (focus (simp <;> fail))) | (refine fits (wrap64 ?_ ?_) ?_; (focus omega); (focus omega)) | (refine fits (wrapU64 ?_ ?_) ?_; (focus omega); (focus omega)) | (refine Need.mk ?_ ?_; (focus omega)) | (refine InB.mk ?_ ?_ ?_; (focus omega); (focus omega)))); (try (conv => whnf)); first | refine IfB.dec (fun h3 => ?_) (fun h3 => ?_) | refine IfB.eq (fun h3 => ?_) (fun h3 => ?_) | refine IfB.ne (fun h3 => ?_) (fun h3 => ?_) | refine IfB.mk (fun h3 => ?_) (fun h3 => ?_))
      · omega
      · obtain ⟨u, hu⟩ : ∃ u, b % 20 * c.N = u := ⟨_, rfl⟩
        have hub : u ≤ 19 * 128 := by rw [← hu]; exact Nat.mul_le_mul (by omega) hN
        have hun : ((b % 20 : Nat) : Int) * ((c.N : Nat) : Int) = ((u : Nat) : Int) := by rw [← Int.natCast_mul, hu]
        have hud : ((sz c c.L : Nat) : Int) ∣ ((u : Nat) : Int) := by
          have : sz c c.L = c.N := by rw [hc.n]; rfl
          rw [this]
          exact Int.natCast_dvd_natCast.2 ⟨b % 20, by rw [← hu, Nat.mul_comm]⟩
        ((repeat ((conv => whnf); first | (refine Sure.mk (by kernel_rfl) ?_) | (refine IfB.tt rfl ?_) | (refine IfB.ff rfl ?_) | (refine IfB.tt ?_ ?_; (focus (simp <;> fail))) | (refine IfB.ff ?_ ?_; (focus (simp <;> fail))) | (refine fits (wrap64 ?_ ?_) ?_; (focus omega); (focus omega)) | (refine fits (wrapU64 ?_ ?_) ?_; (focus omega); (focus omega)) | (refine Need.mk ?_ ?_; (focus omega)) | (refine InB.mk ?_ ?_ ?_; (focus omega); (focus omega)))); (try (conv => whnf)))
        rw [em]
        ((repeat ((conv => whnf); first | (refine Sure.mk (by kernel_rfl) ?_) | (refine IfB.tt rfl ?_) | (refine IfB.ff rfl ?_) | (refine IfB.tt ?_ ?_; (focus (simp <;> fail))) | (refine IfB.ff ?_ ?_; (focus (simp <;> fail))) | (refine fits (wrap64 ?_ ?_) ?_; (focus omega); (focus omega)) | (refine fits (wrapU64 ?_ ?_) ?_; (focus omega); (focus omega)) | (refine Need.mk ?_ ?_; (focus omega)) | (refine InB.mk ?_ ?_ ?_; (focus omega); (focus omega)))); (try (conv => whnf)))
        rw [hun]
        ((repeat ((conv => whnf); first | (refine Sure.mk (by kernel_rfl) ?_) | (refine IfB.tt rfl ?_) | (refine IfB.ff rfl ?_) | (refine IfB.tt ?_ ?_; (focus (simp <;> fail))) | (refine IfB.ff ?_ ?_; (focus (simp <;> fail))) | (refine fits (wrap64 ?_ ?_) ?_; (focus omega); (focus omega)) | (refine fits (wrapU64 ?_ ?_) ?_; (focus omega); (focus omega)) | (refine Need.mk ?_ ?_; (focus omega)) | (refine InB.mk ?_ ?_ ?_; (focus omega); (focus omega)))); (try (conv => whnf)); refine Choice.mk ⟨false, Choice.mk ⟨false, _, _, begin_told c, ?_⟩⟩)
        ((repeat ((conv => whnf); first | (refine Sure.mk (by kernel_rfl) ?_) | (refine IfB.tt rfl ?_) | (refine IfB.ff rfl ?_) | (refine IfB.tt ?_ ?_; (focus (simp <;> fail))) | (refine IfB.ff ?_ ?_; (focus (simp <;> fail))) | (refine fits (wrap64 ?_ ?_) ?_; (focus omega); (focus omega)) | (refine fits (wrapU64 ?_ ?_) ?_; (focus omega); (focus omega)) | (refine Need.mk ?_ ?_; (focus omega)) | (refine InB.mk ?_ ?_ ?_; (focus omega); (focus omega)))); (try (conv => whnf)); refine Choice.mk ⟨false, Choice.mk ⟨false, _, _, begin_told c, ?_⟩⟩)
        ((repeat ((conv => whnf); first | (refine Sure.mk (by kernel_rfl) ?_) | (refine IfB.tt rfl ?_) | (refine IfB.ff rfl ?_) | (refine IfB.tt ?_ ?_; (focus (simp <;> fail))) | (refine IfB.ff ?_ ?_; (focus (simp <;> fail))) | (refine fits (wrap64 ?_ ?_) ?_; (focus omega); (focus omega)) | (refine fits (wrapU64 ?_ ?_) ?_; (focus omega); (focus omega)) | (refine Need.mk ?_ ?_; (focus omega)) | (refine InB.mk ?_ ?_ ?_; (focus omega); (focus omega)))); (try (conv => whnf)); refine LoopN.mk ⟨[1,7,9,10,11,12], fun vs L => ∃ (i : Nat) (r : Rd), vs = [lB ls, .ptr 0 0 0, i64 u, .ptr 1 0 0, .ptr 2 0 0, i64 i] ∧ L = [.var (eC c), .var (eRd r), .var (eRd (shR u r))] ∧ i ≤ ls.length ∧ RdOk c r ∧ r.asked ≤ i ∧ (0 ≤ r.most ∧ r.most ≤ 700000) ∧ RdOk c (shR u r), fun vs L => match vs with | [_, _, _, _, _, .int _ i] => ls.length - i.toNat | _ => 0, [], [1,3,5], rfl, ⟨0, r0, rfl, rfl, by omega, r0_ok hc, by simp [r0], by simp [r0], r0_ok hc⟩, ?_⟩)
        rintro vs L ⟨i, r, rfl, rfl, hi, hr, hq, hL, hr2⟩
        have hlr := hr.toRdB.len hc
        ((repeat ((conv => whnf); first | (refine Sure.mk (by kernel_rfl) ?_) | (refine IfB.tt rfl ?_) | (refine IfB.ff rfl ?_) | (refine IfB.tt ?_ ?_; (focus (simp <;> fail))) | (refine IfB.ff ?_ ?_; (focus (simp <;> fail))) | (refine fits (wrap64 ?_ ?_) ?_; (focus omega); (focus omega)) | (refine fits (wrapU64 ?_ ?_) ?_; (focus omega); (focus omega)) | (refine Need.mk ?_ ?_; (focus omega)) | (refine InB.mk ?_ ?_ ?_; (focus omega); (focus omega)))); (try (conv => whnf)); first | refine IfB.dec (fun h4 => ?_) (fun h4 => ?_) | refine IfB.eq (fun h4 => ?_) (fun h4 => ?_) | refine IfB.ne (fun h4 => ?_) (fun h4 => ?_) | refine IfB.mk (fun h4 => ?_) (fun h4 => ?_))
        · have hlt : i < ls.length := by omega
          have hbi := hb2 _ (List.getElem_mem hlt)
          have ca := asks_told (r := r) hc hr.s
          have cb := asks_told (r := shR u r) hc hr2.s
          rw [show asksF c (shR u r) = asksF c r from rfl] at cb
          by_cases hw : r.why = 0
          · rw [show asksF c r = (sz c r.step, true) by unfold asksF; rw [if_pos hw]] at ca cb
            have hs := hc.sz_le hr.s
            have cw := where_told hr.a hlr (n := sz c r.step) (k := ls[i]) (by omega) hbi
            have hwb := whereF_bd (l := r.live) (n := sz c r.step) (k := ls[i]) (by omega) hbi
            obtain ⟨y0, hy0⟩ : ∃ y, whereF r.live (sz c r.step) ls[i] = y := ⟨_, rfl⟩
            rw [hy0] at cw hwb
            obtain ⟨y, hy⟩ : ∃ y, (if (0 : Int) > y0 then 0 else y0) = y := ⟨_, rfl⟩
            have hyb : 0 ≤ y ∧ y ≤ 600000 := by rw [← hy]; split <;> omega
            have h := toldF_ok hc hr y
            have h' := toldF_ok hc hr2 (y + u)
            have hsh := toldF_sh hc hr hL (u := u) (y := y) hud (by omega) hyb
            have hmo := toldF_most hr (y := y) (by omega) hyb hL
            have ct := told_told hc hr y (by omega) (by omega)
            have cs := told_told hc hr2 (y + u) (by omega) (show r.asked ≤ 1000000 by omega)
            rw [hsh] at cs h'
            obtain ⟨r', hr'⟩ : ∃ r', toldF c r y = r' := ⟨_, rfl⟩
            rw [hr'] at ct cs h h' hmo
            ((repeat ((conv => whnf); first | (refine Sure.mk (by kernel_rfl) ?_) | (refine IfB.tt rfl ?_) | (refine IfB.ff rfl ?_) | (refine IfB.tt ?_ ?_; (focus (simp <;> fail))) | (refine IfB.ff ?_ ?_; (focus (simp <;> fail))) | (refine fits (wrap64 ?_ ?_) ?_; (focus omega); (focus omega)) | (refine fits (wrapU64 ?_ ?_) ?_; (focus omega); (focus omega)) | (refine Need.mk ?_ ?_; (focus omega)) | (refine InB.mk ?_ ?_ ?_; (focus omega); (focus omega)))); (try (conv => whnf)); refine Choice.mk ⟨false, Choice.mk ⟨true, _, _, ca, ?_⟩⟩)
            ((repeat ((conv => whnf); first | (refine Sure.mk (by kernel_rfl) ?_) | (refine IfB.tt rfl ?_) | (refine IfB.ff rfl ?_) | (refine IfB.tt ?_ ?_; (focus (simp <;> fail))) | (refine IfB.ff ?_ ?_; (focus (simp <;> fail))) | (refine fits (wrap64 ?_ ?_) ?_; (focus omega); (focus omega)) | (refine fits (wrapU64 ?_ ?_) ?_; (focus omega); (focus omega)) | (refine Need.mk ?_ ?_; (focus omega)) | (refine InB.mk ?_ ?_ ?_; (focus omega); (focus omega)))); (try (conv => whnf)); refine Choice.mk ⟨false, Choice.mk ⟨true, _, _, cb, ?_⟩⟩)
            ((repeat ((conv => whnf); first | (refine Sure.mk (by kernel_rfl) ?_) | (refine IfB.tt rfl ?_) | (refine IfB.ff rfl ?_) | (refine IfB.tt ?_ ?_; (focus (simp <;> fail))) | (refine IfB.ff ?_ ?_; (focus (simp <;> fail))) | (refine fits (wrap64 ?_ ?_) ?_; (focus omega); (focus omega)) | (refine fits (wrapU64 ?_ ?_) ?_; (focus omega); (focus omega)) | (refine Need.mk ?_ ?_; (focus omega)) | (refine InB.mk ?_ ?_ ?_; (focus omega); (focus omega)))); (try (conv => whnf)); refine idx_map (hlt) ?_)
            ((repeat ((conv => whnf); first | (refine Sure.mk (by kernel_rfl) ?_) | (refine IfB.tt rfl ?_) | (refine IfB.ff rfl ?_) | (refine IfB.tt ?_ ?_; (focus (simp <;> fail))) | (refine IfB.ff ?_ ?_; (focus (simp <;> fail))) | (refine fits (wrap64 ?_ ?_) ?_; (focus omega); (focus omega)) | (refine fits (wrapU64 ?_ ?_) ?_; (focus omega); (focus omega)) | (refine Need.mk ?_ ?_; (focus omega)) | (refine InB.mk ?_ ?_ ?_; (focus omega); (focus omega)))); (try (conv => whnf)); refine Choice.mk ⟨false, Choice.mk ⟨true, _, _, cw, ?_⟩⟩)
            ((repeat ((conv => whnf); first | (refine Sure.mk (by kernel_rfl) ?_) | (refine IfB.tt rfl ?_) | (refine IfB.ff rfl ?_) | (refine IfB.tt ?_ ?_; (focus (simp <;> fail))) | (refine IfB.ff ?_ ?_; (focus (simp <;> fail))) | (refine fits (wrap64 ?_ ?_) ?_; (focus omega); (focus omega)) | (refine fits (wrapU64 ?_ ?_) ?_; (focus omega); (focus omega)) | (refine Need.mk ?_ ?_; (focus omega)) | (refine InB.mk ?_ ?_ ?_; (focus omega); (focus omega)))); (try (conv => whnf)))
            rw [hy]
            ((repeat ((conv => whnf); first | (refine Sure.mk (by kernel_rfl) ?_) | (refine IfB.tt rfl ?_) | (refine IfB.ff rfl ?_) | (refine IfB.tt ?_ ?_; (focus (simp <;> fail))) | (refine IfB.ff ?_ ?_; (focus (simp <;> fail))) | (refine fits (wrap64 ?_ ?_) ?_; (focus omega); (focus omega)) | (refine fits (wrapU64 ?_ ?_) ?_; (focus omega); (focus omega)) | (refine Need.mk ?_ ?_; (focus omega)) | (refine InB.mk ?_ ?_ ?_; (focus omega); (focus omega)))); (try (conv => whnf)); refine Choice.mk ⟨false, Choice.mk ⟨false, _, _, ct, ?_⟩⟩)
            ((repeat ((conv => whnf); first | (refine Sure.mk (by kernel_rfl) ?_) | (refine IfB.tt rfl ?_) | (refine IfB.ff rfl ?_) | (refine IfB.tt ?_ ?_; (focus (simp <;> fail))) | (refine IfB.ff ?_ ?_; (focus (simp <;> fail))) | (refine fits (wrap64 ?_ ?_) ?_; (focus omega); (focus omega)) | (refine fits (wrapU64 ?_ ?_) ?_; (focus omega); (focus omega)) | (refine Need.mk ?_ ?_; (focus omega)) | (refine InB.mk ?_ ?_ ?_; (focus omega); (focus omega)))); (try (conv => whnf)); refine Choice.mk ⟨false, Choice.mk ⟨false, _, _, cs, ?_⟩⟩)
            ((repeat ((conv => whnf); first | (refine Sure.mk (by kernel_rfl) ?_) | (refine IfB.tt rfl ?_) | (refine IfB.ff rfl ?_) | (refine IfB.tt ?_ ?_; (focus (simp <;> fail))) | (refine IfB.ff ?_ ?_; (focus (simp <;> fail))) | (refine fits (wrap64 ?_ ?_) ?_; (focus omega); (focus omega)) | (refine fits (wrapU64 ?_ ?_) ?_; (focus omega); (focus omega)) | (refine Need.mk ?_ ?_; (focus omega)) | (refine InB.mk ?_ ?_ ?_; (focus omega); (focus omega)))); (try (conv => whnf)); refine IfB.ff (by simp [shR]) ?_)
            ((repeat ((conv => whnf); first | (refine Sure.mk (by kernel_rfl) ?_) | (refine IfB.tt rfl ?_) | (refine IfB.ff rfl ?_) | (refine IfB.tt ?_ ?_; (focus (simp <;> fail))) | (refine IfB.ff ?_ ?_; (focus (simp <;> fail))) | (refine fits (wrap64 ?_ ?_) ?_; (focus omega); (focus omega)) | (refine fits (wrapU64 ?_ ?_) ?_; (focus omega); (focus omega)) | (refine Need.mk ?_ ?_; (focus omega)) | (refine InB.mk ?_ ?_ ?_; (focus omega); (focus omega)))); (try (conv => whnf)); refine IfB.ff (by simp [shR]) ?_)
            ((repeat ((conv => whnf); first | (refine Sure.mk (by kernel_rfl) ?_) | (refine IfB.tt rfl ?_) | (refine IfB.ff rfl ?_) | (refine IfB.tt ?_ ?_; (focus (simp <;> fail))) | (refine IfB.ff ?_ ?_; (focus (simp <;> fail))) | (refine fits (wrap64 ?_ ?_) ?_; (focus omega); (focus omega)) | (refine fits (wrapU64 ?_ ?_) ?_; (focus omega); (focus omega)) | (refine Need.mk ?_ ?_; (focus omega)) | (refine InB.mk ?_ ?_ ?_; (focus omega); (focus omega)))); (try (conv => whnf)); refine IfB.ff (by simp [shR]) ?_)
            ((repeat ((conv => whnf); first | (refine Sure.mk (by kernel_rfl) ?_) | (refine IfB.tt rfl ?_) | (refine IfB.ff rfl ?_) | (refine IfB.tt ?_ ?_; (focus (simp <;> fail))) | (refine IfB.ff ?_ ?_; (focus (simp <;> fail))) | (refine fits (wrap64 ?_ ?_) ?_; (focus omega); (focus omega)) | (refine fits (wrapU64 ?_ ?_) ?_; (focus omega); (focus omega)) | (refine Need.mk ?_ ?_; (focus omega)) | (refine InB.mk ?_ ?_ ?_; (focus omega); (focus omega)))); (try (conv => whnf)); refine IfB.ff (by simp [shR]) ?_)
            ((repeat ((conv => whnf); first | (refine Sure.mk (by kernel_rfl) ?_) | (refine IfB.tt rfl ?_) | (refine IfB.ff rfl ?_) | (refine IfB.tt ?_ ?_; (focus (simp <;> fail))) | (refine IfB.ff ?_ ?_; (focus (simp <;> fail))) | (refine fits (wrap64 ?_ ?_) ?_; (focus omega); (focus omega)) | (refine fits (wrapU64 ?_ ?_) ?_; (focus omega); (focus omega)) | (refine Need.mk ?_ ?_; (focus omega)) | (refine InB.mk ?_ ?_ ?_; (focus omega); (focus omega)))); (try (conv => whnf)); first | refine IfB.dec (fun h5 => ?_) (fun h5 => ?_) | refine IfB.eq (fun h5 => ?_) (fun h5 => ?_) | refine IfB.ne (fun h5 => ?_) (fun h5 => ?_) | refine IfB.mk (fun h5 => ?_) (fun h5 => ?_))
            · have e5 : (shR u r').most = r'.most + u := by unfold shR; simp only; rw [if_pos h5]
              ((repeat ((conv => whnf); first | (refine Sure.mk (by kernel_rfl) ?_) | (refine IfB.tt rfl ?_) | (refine IfB.ff rfl ?_) | (refine IfB.tt ?_ ?_; (focus (simp <;> fail))) | (refine IfB.ff ?_ ?_; (focus (simp <;> fail))) | (refine fits (wrap64 ?_ ?_) ?_; (focus omega); (focus omega)) | (refine fits (wrapU64 ?_ ?_) ?_; (focus omega); (focus omega)) | (refine Need.mk ?_ ?_; (focus omega)) | (refine InB.mk ?_ ?_ ?_; (focus omega); (focus omega)))); (try (conv => whnf)); refine IfB.ff (by rw [e5]; simp) ?_)
              ((repeat ((conv => whnf); first | (refine Sure.mk (by kernel_rfl) ?_) | (refine IfB.tt rfl ?_) | (refine IfB.ff rfl ?_) | (refine IfB.tt ?_ ?_; (focus (simp <;> fail))) | (refine IfB.ff ?_ ?_; (focus (simp <;> fail))) | (refine fits (wrap64 ?_ ?_) ?_; (focus omega); (focus omega)) | (refine fits (wrapU64 ?_ ?_) ?_; (focus omega); (focus omega)) | (refine Need.mk ?_ ?_; (focus omega)) | (refine InB.mk ?_ ?_ ?_; (focus omega); (focus omega)))); (try (conv => whnf)); refine ⟨[], [0,1,2], rfl, ⟨i + 1, r', rfl, rfl, hlt, h.1, by rw [h.2]; split <;> omega, hmo, h'.1⟩, (by omega : ls.length - ((i : Int) + 1).toNat < ls.length - (i : Int).toNat)⟩)
            · ((repeat ((conv => whnf); first | (refine Sure.mk (by kernel_rfl) ?_) | (refine IfB.tt rfl ?_) | (refine IfB.ff rfl ?_) | (refine IfB.tt ?_ ?_; (focus (simp <;> fail))) | (refine IfB.ff ?_ ?_; (focus (simp <;> fail))) | (refine fits (wrap64 ?_ ?_) ?_; (focus omega); (focus omega)) | (refine fits (wrapU64 ?_ ?_) ?_; (focus omega); (focus omega)) | (refine Need.mk ?_ ?_; (focus omega)) | (refine InB.mk ?_ ?_ ?_; (focus omega); (focus omega)))); (try (conv => whnf)); refine ⟨[], [0,1,2], rfl, ⟨i + 1, r', rfl, rfl, hlt, h.1, by rw [h.2]; split <;> omega, hmo, h'.1⟩, (by omega : ls.length - ((i : Int) + 1).toNat < ls.length - (i : Int).toNat)⟩)
          · rw [show asksF c r = (0, false) by unfold asksF; rw [if_neg hw]] at ca cb
            ((repeat ((conv => whnf); first | (refine Sure.mk (by kernel_rfl) ?_) | (refine IfB.tt rfl ?_) | (refine IfB.ff rfl ?_) | (refine IfB.tt ?_ ?_; (focus (simp <;> fail))) | (refine IfB.ff ?_ ?_; (focus (simp <;> fail))) | (refine fits (wrap64 ?_ ?_) ?_; (focus omega); (focus omega)) | (refine fits (wrapU64 ?_ ?_) ?_; (focus omega); (focus omega)) | (refine Need.mk ?_ ?_; (focus omega)) | (refine InB.mk ?_ ?_ ?_; (focus omega); (focus omega)))); (try (conv => whnf)); refine Choice.mk ⟨false, Choice.mk ⟨true, _, _, ca, ?_⟩⟩)
            ((repeat ((conv => whnf); first | (refine Sure.mk (by kernel_rfl) ?_) | (refine IfB.tt rfl ?_) | (refine IfB.ff rfl ?_) | (refine IfB.tt ?_ ?_; (focus (simp <;> fail))) | (refine IfB.ff ?_ ?_; (focus (simp <;> fail))) | (refine fits (wrap64 ?_ ?_) ?_; (focus omega); (focus omega)) | (refine fits (wrapU64 ?_ ?_) ?_; (focus omega); (focus omega)) | (refine Need.mk ?_ ?_; (focus omega)) | (refine InB.mk ?_ ?_ ?_; (focus omega); (focus omega)))); (try (conv => whnf)); refine Choice.mk ⟨false, Choice.mk ⟨true, _, _, cb, ?_⟩⟩)
            ((repeat ((conv => whnf); first | (refine Sure.mk (by kernel_rfl) ?_) | (refine IfB.tt rfl ?_) | (refine IfB.ff rfl ?_) | (refine IfB.tt ?_ ?_; (focus (simp <;> fail))) | (refine IfB.ff ?_ ?_; (focus (simp <;> fail))) | (refine fits (wrap64 ?_ ?_) ?_; (focus omega); (focus omega)) | (refine fits (wrapU64 ?_ ?_) ?_; (focus omega); (focus omega)) | (refine Need.mk ?_ ?_; (focus omega)) | (refine InB.mk ?_ ?_ ?_; (focus omega); (focus omega)))); (try (conv => whnf)); refine RetN.mk ⟨[], rfl, ?_, rfl⟩)
            ((try (conv => lhs; whnf)); (try simp [shR]); (try omega))
        · ((repeat ((conv => whnf); first | (refine Sure.mk (by kernel_rfl) ?_) | (refine IfB.tt rfl ?_) | (refine IfB.ff rfl ?_) | (refine IfB.tt ?_ ?_; (focus (simp <;> fail))) | (refine IfB.ff ?_ ?_; (focus (simp <;> fail))) | (refine fits (wrap64 ?_ ?_) ?_; (focus omega); (focus omega)) | (refine fits (wrapU64 ?_ ?_) ?_; (focus omega); (focus omega)) | (refine Need.mk ?_ ?_; (focus omega)) | (refine InB.mk ?_ ?_ ?_; (focus omega); (focus omega)))); (try (conv => whnf)); refine RetN.mk ⟨[], rfl, ?_, rfl⟩)
          ((try (conv => lhs; whnf)); (try simp [shR]); (try omega))
theorem gameMoved {x0 x1 x2 : AV} (h0 : Shp T 8 ts_uint8 x0) (h1 : Shp T 8 ts_uint8 x1) (h2 : Shp T 8 t_uint8 x2) : Told P T law22_GameMoved [] [x0, x1, x2] (.bool true) [] := by
  obtain ⟨bs, rfl, hb, hl⟩ := shp_bytes h0
  obtain ⟨ls, rfl, hb2, hl2⟩ := shp_bytes h1
  obtain ⟨b, rfl, hbb⟩ := shp_u8 (by kernel_rfl) h2
  exact gameMoved_told bs ls hb hl hb2 hl2 b hbb
end Go.Ev.W
