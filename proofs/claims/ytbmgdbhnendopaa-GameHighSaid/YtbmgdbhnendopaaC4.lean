/- Words and lemmas, part 4, for laws of this seat (a part of their proofs). -/
import Derived.Test.YtbmgdbhnendopaaC3
set_option linter.unusedVariables false
set_option linter.unusedSimpArgs false
namespace Go.Ev.W
open Go.Ev Go.Ev.N

/-- What is held is no smaller than a granule, and covers the offset. -/
def RdX (c : Cf) (r : Rd) : Prop := ∀ x ∈ r.live, (c.G : Int) ≤ x.n ∧ covF r.off (sz c r.step) x = true
theorem nextF_x {c : Cf} {r : Rd} (h : RdX c r) : RdX c (nextF c r) := by
  have e := sz_succ c r.step
  unfold nextF
  split
  · intro x hx
    obtain ⟨h1, h2⟩ := List.mem_filter.1 (show x ∈ r.live.filter _ from hx)
    exact ⟨(h x h1).1, by show covF (r.off + sz c r.step) (sz c (r.step + 1)) x = true; rw [e]; exact h2⟩
  · intro x hx
    obtain ⟨h1, h2⟩ := List.mem_filter.1 (show x ∈ r.live.filter _ from hx)
    exact ⟨(h x h1).1, by show covF r.off (sz c (r.step + 1)) x = true; rw [e]; exact h2⟩
theorem endF_x {c : Cf} : ∀ (k : Nat) {r : Rd}, RdX c r → RdX c (endF c k r)
  | 0, _, h => h
  | k + 1, r, h => by
    unfold endF
    split
    · split
      · exact h
      · exact endF_x k (nextF_x h)
    · exact h
theorem toldF_x {c : Cf} {r : Rd} (hc : c.Ok) (hr : RdOk c r) (h : RdX c r) (y : Int) : RdX c (toldF c r y) := by
  unfold toldF
  split
  · exact h
  · split
    · exact h
    · refine endF_x _ ?_
      intro x hx
      have hs := sz_pos hc r.step
      rcases (put_cases hr.a ⟨y, sz c r.step⟩).2 with ⟨_, _, l1, l2, e, e2, _, _⟩ | ⟨_, e2⟩
      · have hx : x ∈ (putR r.live ⟨y, sz c r.step⟩).1 := hx
        rw [e2] at hx
        have : x = ⟨y, sz c r.step⟩ ∨ x ∈ r.live := by
          rw [e]
          simp only [List.mem_append, List.mem_cons] at hx ⊢
          rcases hx with h | h | h
          · exact .inr (.inl h)
          · exact .inl h
          · exact .inr (.inr h)
        rcases this with rfl | hm
        · refine ⟨?_, ?_⟩
          · show (c.G : Int) ≤ ((sz c r.step : Nat) : Int)
            have : sz c 0 ≤ sz c r.step := sz_mono (by omega)
            have e0 : sz c 0 = c.G := by simp [sz]
            omega
          · show covF r.off (sz c r.step) ⟨y, sz c r.step⟩ = true
            unfold covF
            exact decide_eq_true (Int.emod_lt_of_pos _ (by omega))
        · exact h x hm
      · have hx : x ∈ (putR r.live ⟨y, sz c r.step⟩).1 := hx
        rw [e2] at hx; exact h x hx
theorem len_le {c : Cf} {G : Nat} : ∀ {l : List Sp}, (∀ x ∈ l, (G : Int) ≤ x.n) → ((l.length * G : Nat) : Int) ≤ total l
  | [], _ => by simp [total]
  | x :: l, h => by
    have ih := len_le (c := c) (l := l) fun y hy => h y (by simp [hy])
    have hx := h x (by simp)
    rw [total_cons, List.length_cons, Nat.succ_mul]
    omega
theorem tmod2 {x m : Int} (hm : 0 < m) : (x.tmod m + m).tmod m = x % m := by
  rcases Int.lt_or_le x 0 with h | h
  · obtain ⟨y, rfl⟩ : ∃ y, x = -y := ⟨-x, by omega⟩
    have h1 := Int.emod_nonneg y (b := m) (by omega)
    have h2 := Int.emod_lt_of_pos y hm
    rw [Int.neg_tmod, Int.tmod_eq_emod_of_nonneg (show 0 ≤ y by omega), Int.tmod_eq_emod_of_nonneg (by omega), Int.add_emod_right]
    have : -y = 0 - y := by omega
    rw [this, Int.sub_emod 0 y m, Int.zero_emod]
    congr 1; omega
  · have h1 := Int.emod_nonneg x (b := m) (by omega)
    rw [Int.tmod_eq_emod_of_nonneg h, Int.tmod_eq_emod_of_nonneg (by omega), Int.add_emod_right, Int.emod_emod]

set_option maxHeartbeats 4000000 in
theorem gameFair_told (bs ls : List Nat) (hb : IsB bs) (hl : bs.length ≤ maxLen) (hb2 : IsB ls) (hl2 : ls.length ≤ maxLen) : Told P T law22_GameFair [] [lB bs, lB ls] (.bool true) [] := by
  have hmb : (bs.map u8).length = bs.length := by simp
  have hml : (ls.map u8).length = ls.length := by simp
  refine told_of_ev (fn := law22_GameFair_fn) tabOk mixed (by kernel_rfl) (by kernel_rfl) (by kernel_rfl) (by kernel_rfl) ?_
  ((repeat ((conv => whnf); first | (refine Sure.mk (by kernel_rfl) ?_) | (refine IfB.tt rfl ?_) | (refine IfB.ff rfl ?_) | (refine IfB.tt ?_ ?_; (focus (simp <;> fail))) | (refine IfB.ff ?_ ?_; (focus (simp <;> fail))) | (refine fits (wrap64 ?_ ?_) ?_; (focus omega); (focus omega)) | (refine fits (wrapU64 ?_ ?_) ?_; (focus omega); (focus omega)) | (refine Need.mk ?_ ?_; (focus omega)) | (refine InB.mk ?_ ?_ ?_; (focus omega); (focus omega)))); (try (conv => whnf)); refine Choice.mk ⟨false, Choice.mk ⟨true, _, _, begun22_told, ?_⟩⟩)
  ((repeat ((conv => whnf); first | (refine Sure.mk (by kernel_rfl) ?_) | (refine IfB.tt rfl ?_) | (refine IfB.ff rfl ?_) | (refine IfB.tt ?_ ?_; (focus (simp <;> fail))) | (refine IfB.ff ?_ ?_; (focus (simp <;> fail))) | (refine fits (wrap64 ?_ ?_) ?_; (focus omega); (focus omega)) | (refine fits (wrapU64 ?_ ?_) ?_; (focus omega); (focus omega)) | (refine Need.mk ?_ ?_; (focus omega)) | (refine InB.mk ?_ ?_ ?_; (focus omega); (focus omega)))); (try (conv => whnf)); first | refine IfB.dec (fun h1 => ?_) (fun h1 => ?_) | refine IfB.eq (fun h1 => ?_) (fun h1 => ?_) | refine IfB.ne (fun h1 => ?_) (fun h1 => ?_) | refine IfB.mk (fun h1 => ?_) (fun h1 => ?_))
  · ((repeat ((conv => whnf); first | (refine Sure.mk (by kernel_rfl) ?_) | (refine IfB.tt rfl ?_) | (refine IfB.ff rfl ?_) | (refine IfB.tt ?_ ?_; (focus (simp <;> fail))) | (refine IfB.ff ?_ ?_; (focus (simp <;> fail))) | (refine fits (wrap64 ?_ ?_) ?_; (focus omega); (focus omega)) | (refine fits (wrapU64 ?_ ?_) ?_; (focus omega); (focus omega)) | (refine Need.mk ?_ ?_; (focus omega)) | (refine InB.mk ?_ ?_ ?_; (focus omega); (focus omega)))); (try (conv => whnf)); exact RetN.mk ⟨[], rfl, rfl, rfl⟩)
  · ((repeat ((conv => whnf); first | (refine Sure.mk (by kernel_rfl) ?_) | (refine IfB.tt rfl ?_) | (refine IfB.ff rfl ?_) | (refine IfB.tt ?_ ?_; (focus (simp <;> fail))) | (refine IfB.ff ?_ ?_; (focus (simp <;> fail))) | (refine fits (wrap64 ?_ ?_) ?_; (focus omega); (focus omega)) | (refine fits (wrapU64 ?_ ?_) ?_; (focus omega); (focus omega)) | (refine Need.mk ?_ ?_; (focus omega)) | (refine InB.mk ?_ ?_ ?_; (focus omega); (focus omega)))); (try (conv => whnf)); first | refine IfB.dec (fun h2 => ?_) (fun h2 => ?_) | refine IfB.eq (fun h2 => ?_) (fun h2 => ?_) | refine IfB.ne (fun h2 => ?_) (fun h2 => ?_) | refine IfB.mk (fun h2 => ?_) (fun h2 => ?_))
    · ((repeat ((conv => whnf); first | (refine Sure.mk (by kernel_rfl) ?_) | (refine IfB.tt rfl ?_) | (refine IfB.ff rfl ?_) | (refine IfB.tt ?_ ?_; (focus (simp <;> fail))) | (refine IfB.ff ?_ ?_; (focus (simp <;> fail))) | (refine fits (wrap64 ?_ ?_) ?_; (focus omega); (focus omega)) | (refine fits (wrapU64 ?_ ?_) ?_; (focus omega); (focus omega)) | (refine Need.mk ?_ ?_; (focus omega)) | (refine InB.mk ?_ ?_ ?_; (focus omega); (focus omega)))); (try (conv => whnf)); exact RetN.mk ⟨[], rfl, rfl, rfl⟩)
    · ((repeat ((conv => whnf); first | (refine Sure.mk (by kernel_rfl) ?_) | (refine IfB.tt rfl ?_) | (refine IfB.ff rfl ?_) | (refine IfB.tt ?_ ?_; (focus (simp <;> fail))) | (refine IfB.ff ?_ ?_; (focus (simp <;> fail))) | (refine fits (wrap64 ?_ ?_) ?_; (focus omega); (focus omega)) | (refine fits (wrapU64 ?_ ?_) ?_; (focus omega); (focus omega)) | (refine Need.mk ?_ ?_; (focus omega)) | (refine InB.mk ?_ ?_ ?_; (focus omega); (focus omega)))); (try (conv => whnf)); refine Choice.mk ⟨false, Choice.mk ⟨false, _, _, made_told bs, ?_⟩⟩)
      ((repeat ((conv => whnf); first | (refine Sure.mk (by kernel_rfl) ?_) | (refine IfB.tt rfl ?_) | (refine IfB.ff rfl ?_) | (refine IfB.tt ?_ ?_; (focus (simp <;> fail))) | (refine IfB.ff ?_ ?_; (focus (simp <;> fail))) | (refine fits (wrap64 ?_ ?_) ?_; (focus omega); (focus omega)) | (refine fits (wrapU64 ?_ ?_) ?_; (focus omega); (focus omega)) | (refine Need.mk ?_ ?_; (focus omega)) | (refine InB.mk ?_ ?_ ?_; (focus omega); (focus omega)))); (try (conv => whnf)); refine Choice.mk ⟨true, Choice.mk ⟨false, _, _, conf_told ⟨bs, 0⟩ ⟨hb, Nat.zero_le _, hl⟩ true, ?_⟩⟩)
      obtain ⟨hc, hN⟩ := conf_ok ⟨bs, 0⟩ true
      obtain ⟨c, hce⟩ : ∃ c, (ofF (rawF ⟨bs, 0⟩ true).1).1 = c := ⟨_, rfl⟩
      rw [hce] at hc hN ⊢
      have hg := hc.gpos
      have hnM := hc.nM
      have hmH := hc.mH
      ((repeat ((conv => whnf); first | (refine Sure.mk (by kernel_rfl) ?_) | (refine IfB.tt rfl ?_) | (refine IfB.ff rfl ?_) | (refine IfB.tt ?_ ?_; (focus (simp <;> fail))) | (refine IfB.ff ?_ ?_; (focus (simp <;> fail))) | (refine fits (wrap64 ?_ ?_) ?_; (focus omega); (focus omega)) | (refine fits (wrapU64 ?_ ?_) ?_; (focus omega); (focus omega)) | (refine Need.mk ?_ ?_; (focus omega)) | (refine InB.mk ?_ ?_ ?_; (focus omega); (focus omega)))); (try (conv => whnf)); first | refine IfB.dec (fun h3 => ?_) (fun h3 => ?_) | refine IfB.eq (fun h3 => ?_) (fun h3 => ?_) | refine IfB.ne (fun h3 => ?_) (fun h3 => ?_) | refine IfB.mk (fun h3 => ?_) (fun h3 => ?_))
      · omega
      · ((repeat ((conv => whnf); first | (refine Sure.mk (by kernel_rfl) ?_) | (refine IfB.tt rfl ?_) | (refine IfB.ff rfl ?_) | (refine IfB.tt ?_ ?_; (focus (simp <;> fail))) | (refine IfB.ff ?_ ?_; (focus (simp <;> fail))) | (refine fits (wrap64 ?_ ?_) ?_; (focus omega); (focus omega)) | (refine fits (wrapU64 ?_ ?_) ?_; (focus omega); (focus omega)) | (refine Need.mk ?_ ?_; (focus omega)) | (refine InB.mk ?_ ?_ ?_; (focus omega); (focus omega)))); (try (conv => whnf)); refine Choice.mk ⟨false, Choice.mk ⟨false, _, _, begin_told c, ?_⟩⟩)
        ((repeat ((conv => whnf); first | (refine Sure.mk (by kernel_rfl) ?_) | (refine IfB.tt rfl ?_) | (refine IfB.ff rfl ?_) | (refine IfB.tt ?_ ?_; (focus (simp <;> fail))) | (refine IfB.ff ?_ ?_; (focus (simp <;> fail))) | (refine fits (wrap64 ?_ ?_) ?_; (focus omega); (focus omega)) | (refine fits (wrapU64 ?_ ?_) ?_; (focus omega); (focus omega)) | (refine Need.mk ?_ ?_; (focus omega)) | (refine InB.mk ?_ ?_ ?_; (focus omega); (focus omega)))); (try (conv => whnf)); refine LoopN.mk ⟨[1,5,7,8], fun vs L => ∃ (i : Nat) (r : Rd), vs = [lB ls, .ptr 0 0 0, .ptr 1 0 0, i64 i] ∧ L = [.var (eC c), .var (eRd r)] ∧ i ≤ ls.length ∧ RdOk c r ∧ r.asked ≤ i ∧ RdX c r, fun vs L => match vs with | [_, _, _, .int _ i] => ls.length - i.toNat | _ => 0, [], [1,3], rfl, ⟨0, r0, rfl, rfl, by omega, r0_ok hc, by simp [r0], by intro x hx; simp [r0] at hx⟩, ?_⟩)
        rintro vs L ⟨i, r, rfl, rfl, hi, hr, hq, hX⟩
        have hlr := hr.toRdB.len hc
        have hmr : (r.live.map eS).length = r.live.length := by simp
        have htot := total_takes hr.a
        have htM := hr.t
        ((repeat ((conv => whnf); first | (refine Sure.mk (by kernel_rfl) ?_) | (refine IfB.tt rfl ?_) | (refine IfB.ff rfl ?_) | (refine IfB.tt ?_ ?_; (focus (simp <;> fail))) | (refine IfB.ff ?_ ?_; (focus (simp <;> fail))) | (refine fits (wrap64 ?_ ?_) ?_; (focus omega); (focus omega)) | (refine fits (wrapU64 ?_ ?_) ?_; (focus omega); (focus omega)) | (refine Need.mk ?_ ?_; (focus omega)) | (refine InB.mk ?_ ?_ ?_; (focus omega); (focus omega)))); (try (conv => whnf)); first | refine IfB.dec (fun h4 => ?_) (fun h4 => ?_) | refine IfB.eq (fun h4 => ?_) (fun h4 => ?_) | refine IfB.ne (fun h4 => ?_) (fun h4 => ?_) | refine IfB.mk (fun h4 => ?_) (fun h4 => ?_))
        · have hlt : i < ls.length := by omega
          have hbi := hb2 _ (List.getElem_mem hlt)
          have ca := asks_told (r := r) hc hr.s
          have hs := hc.sz_le hr.s
          have hsp := sz_pos hc r.step
          by_cases hw : r.why = 0
          · rw [show asksF c r = (sz c r.step, true) by unfold asksF; rw [if_pos hw]] at ca
            have ht2 := hr.t2 hw
            obtain ⟨m, hme⟩ : ∃ m, sz c r.step = m := ⟨_, rfl⟩
            have cz := refSz_told hc hr.s
            have cm := maySpans_told r.live (by omega)
            rw [may0_iff.2 hr.a] at cm
            have cw := where_told hr.a hlr (n := sz c r.step) (k := ls[i]) (by omega) hbi
            have hwb := whereF_bd (l := r.live) (n := sz c r.step) (k := ls[i]) (by omega) hbi
            obtain ⟨y, hy⟩ : ∃ y, whereF r.live (sz c r.step) ls[i] = y := ⟨_, rfl⟩
            rw [hy] at cw hwb
            have h := toldF_ok hc hr y
            have ct := told_told hc hr y (by omega) (by omega)
            rw [hme] at ca cz cw hs hsp ht2
            ((repeat ((conv => whnf); first | (refine Sure.mk (by kernel_rfl) ?_) | (refine IfB.tt rfl ?_) | (refine IfB.ff rfl ?_) | (refine IfB.tt ?_ ?_; (focus (simp <;> fail))) | (refine IfB.ff ?_ ?_; (focus (simp <;> fail))) | (refine fits (wrap64 ?_ ?_) ?_; (focus omega); (focus omega)) | (refine fits (wrapU64 ?_ ?_) ?_; (focus omega); (focus omega)) | (refine Need.mk ?_ ?_; (focus omega)) | (refine InB.mk ?_ ?_ ?_; (focus omega); (focus omega)))); (try (conv => whnf)); refine Choice.mk ⟨false, Choice.mk ⟨true, _, _, ca, ?_⟩⟩)
            ((repeat ((conv => whnf); first | (refine Sure.mk (by kernel_rfl) ?_) | (refine IfB.tt rfl ?_) | (refine IfB.ff rfl ?_) | (refine IfB.tt ?_ ?_; (focus (simp <;> fail))) | (refine IfB.ff ?_ ?_; (focus (simp <;> fail))) | (refine fits (wrap64 ?_ ?_) ?_; (focus omega); (focus omega)) | (refine fits (wrapU64 ?_ ?_) ?_; (focus omega); (focus omega)) | (refine Need.mk ?_ ?_; (focus omega)) | (refine InB.mk ?_ ?_ ?_; (focus omega); (focus omega)))); (try (conv => whnf)); refine LoopN.mk ⟨[1,5,7,8,9,11,12], fun vs L => ∃ j : Nat, vs = [lB ls, .ptr 0 0 0, .ptr 1 0 0, i64 i, i64 m, i64 ((m : Int) + total (r.live.take j)), i64 j] ∧ L = [.var (eC c), .var (eRd r)] ∧ j ≤ r.live.length, fun vs L => match vs with | [_, _, _, _, _, _, .int _ i] => r.live.length - i.toNat | _ => 0, [], [0,1], rfl, ⟨0, by rw [show (m : Int) + total (r.live.take 0) = m by simp [total]]; rfl, rfl, by omega⟩, ?_⟩)
            rintro vs L ⟨j, rfl, rfl, hj⟩
            ((repeat ((conv => whnf); first | (refine Sure.mk (by kernel_rfl) ?_) | (refine IfB.tt rfl ?_) | (refine IfB.ff rfl ?_) | (refine IfB.tt ?_ ?_; (focus (simp <;> fail))) | (refine IfB.ff ?_ ?_; (focus (simp <;> fail))) | (refine fits (wrap64 ?_ ?_) ?_; (focus omega); (focus omega)) | (refine fits (wrapU64 ?_ ?_) ?_; (focus omega); (focus omega)) | (refine Need.mk ?_ ?_; (focus omega)) | (refine InB.mk ?_ ?_ ?_; (focus omega); (focus omega)))); (try (conv => whnf)); first | refine IfB.dec (fun g1 => ?_) (fun g1 => ?_) | refine IfB.eq (fun g1 => ?_) (fun g1 => ?_) | refine IfB.ne (fun g1 => ?_) (fun g1 => ?_) | refine IfB.mk (fun g1 => ?_) (fun g1 => ?_))
            · have hjl : j < r.live.length := by omega
              have hts := total_succ hjl
              have hb1 := htot j hj
              have hb2' := htot (j + 1) hjl
              ((repeat ((conv => whnf); first | (refine Sure.mk (by kernel_rfl) ?_) | (refine IfB.tt rfl ?_) | (refine IfB.ff rfl ?_) | (refine IfB.tt ?_ ?_; (focus (simp <;> fail))) | (refine IfB.ff ?_ ?_; (focus (simp <;> fail))) | (refine fits (wrap64 ?_ ?_) ?_; (focus omega); (focus omega)) | (refine fits (wrapU64 ?_ ?_) ?_; (focus omega); (focus omega)) | (refine Need.mk ?_ ?_; (focus omega)) | (refine InB.mk ?_ ?_ ?_; (focus omega); (focus omega)))); (try (conv => whnf)); refine idx_map (hjl) ?_)
              ((repeat ((conv => whnf); first | (refine Sure.mk (by kernel_rfl) ?_) | (refine IfB.tt rfl ?_) | (refine IfB.ff rfl ?_) | (refine IfB.tt ?_ ?_; (focus (simp <;> fail))) | (refine IfB.ff ?_ ?_; (focus (simp <;> fail))) | (refine fits (wrap64 ?_ ?_) ?_; (focus omega); (focus omega)) | (refine fits (wrapU64 ?_ ?_) ?_; (focus omega); (focus omega)) | (refine Need.mk ?_ ?_; (focus omega)) | (refine InB.mk ?_ ?_ ?_; (focus omega); (focus omega)))); (try (conv => whnf)); refine ⟨[], [0,1], rfl, ⟨j + 1, by rw [hts, ← Int.add_assoc]; rfl, rfl, hjl⟩, (by omega : r.live.length - ((j : Int) + 1).toNat < r.live.length - (j : Int).toNat)⟩)
            · have e : j = r.live.length := by omega
              subst e
              rw [List.take_length]
              ((repeat ((conv => whnf); first | (refine Sure.mk (by kernel_rfl) ?_) | (refine IfB.tt rfl ?_) | (refine IfB.ff rfl ?_) | (refine IfB.tt ?_ ?_; (focus (simp <;> fail))) | (refine IfB.ff ?_ ?_; (focus (simp <;> fail))) | (refine fits (wrap64 ?_ ?_) ?_; (focus omega); (focus omega)) | (refine fits (wrapU64 ?_ ?_) ?_; (focus omega); (focus omega)) | (refine Need.mk ?_ ?_; (focus omega)) | (refine InB.mk ?_ ?_ ?_; (focus omega); (focus omega)))); (try (conv => whnf)); refine Choice.mk ⟨false, Choice.mk ⟨true, _, _, cz, ?_⟩⟩)
              ((repeat ((conv => whnf); first | (refine Sure.mk (by kernel_rfl) ?_) | (refine IfB.tt rfl ?_) | (refine IfB.ff rfl ?_) | (refine IfB.tt ?_ ?_; (focus (simp <;> fail))) | (refine IfB.ff ?_ ?_; (focus (simp <;> fail))) | (refine fits (wrap64 ?_ ?_) ?_; (focus omega); (focus omega)) | (refine fits (wrapU64 ?_ ?_) ?_; (focus omega); (focus omega)) | (refine Need.mk ?_ ?_; (focus omega)) | (refine InB.mk ?_ ?_ ?_; (focus omega); (focus omega)))); (try (conv => whnf)); first | refine IfB.dec (fun g2 => ?_) (fun g2 => ?_) | refine IfB.eq (fun g2 => ?_) (fun g2 => ?_) | refine IfB.ne (fun g2 => ?_) (fun g2 => ?_) | refine IfB.mk (fun g2 => ?_) (fun g2 => ?_))
              · omega
              · ((repeat ((conv => whnf); first | (refine Sure.mk (by kernel_rfl) ?_) | (refine IfB.tt rfl ?_) | (refine IfB.ff rfl ?_) | (refine IfB.tt ?_ ?_; (focus (simp <;> fail))) | (refine IfB.ff ?_ ?_; (focus (simp <;> fail))) | (refine fits (wrap64 ?_ ?_) ?_; (focus omega); (focus omega)) | (refine fits (wrapU64 ?_ ?_) ?_; (focus omega); (focus omega)) | (refine Need.mk ?_ ?_; (focus omega)) | (refine InB.mk ?_ ?_ ?_; (focus omega); (focus omega)))); (try (conv => whnf)); first | refine IfB.dec (fun g3 => ?_) (fun g3 => ?_) | refine IfB.eq (fun g3 => ?_) (fun g3 => ?_) | refine IfB.ne (fun g3 => ?_) (fun g3 => ?_) | refine IfB.mk (fun g3 => ?_) (fun g3 => ?_))
                · omega
                · ((repeat ((conv => whnf); first | (refine Sure.mk (by kernel_rfl) ?_) | (refine IfB.tt rfl ?_) | (refine IfB.ff rfl ?_) | (refine IfB.tt ?_ ?_; (focus (simp <;> fail))) | (refine IfB.ff ?_ ?_; (focus (simp <;> fail))) | (refine fits (wrap64 ?_ ?_) ?_; (focus omega); (focus omega)) | (refine fits (wrapU64 ?_ ?_) ?_; (focus omega); (focus omega)) | (refine Need.mk ?_ ?_; (focus omega)) | (refine InB.mk ?_ ?_ ?_; (focus omega); (focus omega)))); (try (conv => whnf)); refine Choice.mk ⟨false, Choice.mk ⟨true, _, _, cm, ?_⟩⟩)
                  ((repeat ((conv => whnf); first | (refine Sure.mk (by kernel_rfl) ?_) | (refine IfB.tt rfl ?_) | (refine IfB.ff rfl ?_) | (refine IfB.tt ?_ ?_; (focus (simp <;> fail))) | (refine IfB.ff ?_ ?_; (focus (simp <;> fail))) | (refine fits (wrap64 ?_ ?_) ?_; (focus omega); (focus omega)) | (refine fits (wrapU64 ?_ ?_) ?_; (focus omega); (focus omega)) | (refine Need.mk ?_ ?_; (focus omega)) | (refine InB.mk ?_ ?_ ?_; (focus omega); (focus omega)))); (try (conv => whnf)); refine Choice.mk ⟨false, Choice.mk ⟨true, _, _, cz, ?_⟩⟩)
                  ((repeat ((conv => whnf); first | (refine Sure.mk (by kernel_rfl) ?_) | (refine IfB.tt rfl ?_) | (refine IfB.ff rfl ?_) | (refine IfB.tt ?_ ?_; (focus (simp <;> fail))) | (refine IfB.ff ?_ ?_; (focus (simp <;> fail))) | (refine fits (wrap64 ?_ ?_) ?_; (focus omega); (focus omega)) | (refine fits (wrapU64 ?_ ?_) ?_; (focus omega); (focus omega)) | (refine Need.mk ?_ ?_; (focus omega)) | (refine InB.mk ?_ ?_ ?_; (focus omega); (focus omega)))); (try (conv => whnf)); refine LoopN.mk ⟨[1,5,7,8,9,13,14], fun vs L => ∃ j : Nat, vs = [lB ls, .ptr 0 0 0, .ptr 1 0 0, i64 i, i64 m, i64 m, i64 j] ∧ L = [.var (eC c), .var (eRd r)] ∧ j ≤ r.live.length, fun vs L => match vs with | [_, _, _, _, _, _, .int _ i] => r.live.length - i.toNat | _ => 0, [], [0,1], rfl, ⟨0, rfl, rfl, by omega⟩, ?_⟩)
                  rintro vs L ⟨j, rfl, rfl, hj⟩
                  ((repeat ((conv => whnf); first | (refine Sure.mk (by kernel_rfl) ?_) | (refine IfB.tt rfl ?_) | (refine IfB.ff rfl ?_) | (refine IfB.tt ?_ ?_; (focus (simp <;> fail))) | (refine IfB.ff ?_ ?_; (focus (simp <;> fail))) | (refine fits (wrap64 ?_ ?_) ?_; (focus omega); (focus omega)) | (refine fits (wrapU64 ?_ ?_) ?_; (focus omega); (focus omega)) | (refine Need.mk ?_ ?_; (focus omega)) | (refine InB.mk ?_ ?_ ?_; (focus omega); (focus omega)))); (try (conv => whnf)); first | refine IfB.dec (fun g4 => ?_) (fun g4 => ?_) | refine IfB.eq (fun g4 => ?_) (fun g4 => ?_) | refine IfB.ne (fun g4 => ?_) (fun g4 => ?_) | refine IfB.mk (fun g4 => ?_) (fun g4 => ?_))
                  · have hjl : j < r.live.length := by omega
                    have hxj := hX _ (List.getElem_mem hjl)
                    rw [hme] at hxj
                    have hoj := (oneB_iff _).1 (hr.a.1 _ (List.getElem_mem hjl))
                    have hro := hr.o
                    have e1 := tmod2 (x := ((r.off : Nat) : Int) - r.live[j].a) (m := (m : Int)) (by omega)
                    have e2 := of_decide_eq_true hxj.2
                    have e3 := Int.tmod_lt_of_pos (((r.off : Nat) : Int) - r.live[j].a) (show (0 : Int) < (m : Int) by omega)
                    have e4 := Int.lt_tmod_of_pos (((r.off : Nat) : Int) - r.live[j].a) (show (0 : Int) < (m : Int) by omega)
                    ((repeat ((conv => whnf); first | (refine Sure.mk (by kernel_rfl) ?_) | (refine IfB.tt rfl ?_) | (refine IfB.ff rfl ?_) | (refine IfB.tt ?_ ?_; (focus (simp <;> fail))) | (refine IfB.ff ?_ ?_; (focus (simp <;> fail))) | (refine fits (wrap64 ?_ ?_) ?_; (focus omega); (focus omega)) | (refine fits (wrapU64 ?_ ?_) ?_; (focus omega); (focus omega)) | (refine Need.mk ?_ ?_; (focus omega)) | (refine InB.mk ?_ ?_ ?_; (focus omega); (focus omega)))); (try (conv => whnf)); refine idx_map (hjl) ?_)
                    ((repeat ((conv => whnf); first | (refine Sure.mk (by kernel_rfl) ?_) | (refine IfB.tt rfl ?_) | (refine IfB.ff rfl ?_) | (refine IfB.tt ?_ ?_; (focus (simp <;> fail))) | (refine IfB.ff ?_ ?_; (focus (simp <;> fail))) | (refine fits (wrap64 ?_ ?_) ?_; (focus omega); (focus omega)) | (refine fits (wrapU64 ?_ ?_) ?_; (focus omega); (focus omega)) | (refine Need.mk ?_ ?_; (focus omega)) | (refine InB.mk ?_ ?_ ?_; (focus omega); (focus omega)))); (try (conv => whnf)))
                    rw [e1]
                    ((repeat ((conv => whnf); first | (refine Sure.mk (by kernel_rfl) ?_) | (refine IfB.tt rfl ?_) | (refine IfB.ff rfl ?_) | (refine IfB.tt ?_ ?_; (focus (simp <;> fail))) | (refine IfB.ff ?_ ?_; (focus (simp <;> fail))) | (refine fits (wrap64 ?_ ?_) ?_; (focus omega); (focus omega)) | (refine fits (wrapU64 ?_ ?_) ?_; (focus omega); (focus omega)) | (refine Need.mk ?_ ?_; (focus omega)) | (refine InB.mk ?_ ?_ ?_; (focus omega); (focus omega)))); (try (conv => whnf)); refine idx_map (hjl) ?_)
                    ((repeat ((conv => whnf); first | (refine Sure.mk (by kernel_rfl) ?_) | (refine IfB.tt rfl ?_) | (refine IfB.ff rfl ?_) | (refine IfB.tt ?_ ?_; (focus (simp <;> fail))) | (refine IfB.ff ?_ ?_; (focus (simp <;> fail))) | (refine fits (wrap64 ?_ ?_) ?_; (focus omega); (focus omega)) | (refine fits (wrapU64 ?_ ?_) ?_; (focus omega); (focus omega)) | (refine Need.mk ?_ ?_; (focus omega)) | (refine InB.mk ?_ ?_ ?_; (focus omega); (focus omega)))); (try (conv => whnf)); first | refine IfB.dec (fun g5 => ?_) (fun g5 => ?_) | refine IfB.eq (fun g5 => ?_) (fun g5 => ?_) | refine IfB.ne (fun g5 => ?_) (fun g5 => ?_) | refine IfB.mk (fun g5 => ?_) (fun g5 => ?_))
                    · omega
                    · ((repeat ((conv => whnf); first | (refine Sure.mk (by kernel_rfl) ?_) | (refine IfB.tt rfl ?_) | (refine IfB.ff rfl ?_) | (refine IfB.tt ?_ ?_; (focus (simp <;> fail))) | (refine IfB.ff ?_ ?_; (focus (simp <;> fail))) | (refine fits (wrap64 ?_ ?_) ?_; (focus omega); (focus omega)) | (refine fits (wrapU64 ?_ ?_) ?_; (focus omega); (focus omega)) | (refine Need.mk ?_ ?_; (focus omega)) | (refine InB.mk ?_ ?_ ?_; (focus omega); (focus omega)))); (try (conv => whnf)); refine ⟨[], [0,1], rfl, ⟨j + 1, rfl, rfl, hjl⟩, (by omega : r.live.length - ((j : Int) + 1).toNat < r.live.length - (j : Int).toNat)⟩)
                  · ((repeat ((conv => whnf); first | (refine Sure.mk (by kernel_rfl) ?_) | (refine IfB.tt rfl ?_) | (refine IfB.ff rfl ?_) | (refine IfB.tt ?_ ?_; (focus (simp <;> fail))) | (refine IfB.ff ?_ ?_; (focus (simp <;> fail))) | (refine fits (wrap64 ?_ ?_) ?_; (focus omega); (focus omega)) | (refine fits (wrapU64 ?_ ?_) ?_; (focus omega); (focus omega)) | (refine Need.mk ?_ ?_; (focus omega)) | (refine InB.mk ?_ ?_ ?_; (focus omega); (focus omega)))); (try (conv => whnf)); refine idx_map (hlt) ?_)
                    ((repeat ((conv => whnf); first | (refine Sure.mk (by kernel_rfl) ?_) | (refine IfB.tt rfl ?_) | (refine IfB.ff rfl ?_) | (refine IfB.tt ?_ ?_; (focus (simp <;> fail))) | (refine IfB.ff ?_ ?_; (focus (simp <;> fail))) | (refine fits (wrap64 ?_ ?_) ?_; (focus omega); (focus omega)) | (refine fits (wrapU64 ?_ ?_) ?_; (focus omega); (focus omega)) | (refine Need.mk ?_ ?_; (focus omega)) | (refine InB.mk ?_ ?_ ?_; (focus omega); (focus omega)))); (try (conv => whnf)); refine Choice.mk ⟨false, Choice.mk ⟨true, _, _, cw, ?_⟩⟩)
                    ((repeat ((conv => whnf); first | (refine Sure.mk (by kernel_rfl) ?_) | (refine IfB.tt rfl ?_) | (refine IfB.ff rfl ?_) | (refine IfB.tt ?_ ?_; (focus (simp <;> fail))) | (refine IfB.ff ?_ ?_; (focus (simp <;> fail))) | (refine fits (wrap64 ?_ ?_) ?_; (focus omega); (focus omega)) | (refine fits (wrapU64 ?_ ?_) ?_; (focus omega); (focus omega)) | (refine Need.mk ?_ ?_; (focus omega)) | (refine InB.mk ?_ ?_ ?_; (focus omega); (focus omega)))); (try (conv => whnf)); refine Choice.mk ⟨false, Choice.mk ⟨false, _, _, ct, ?_⟩⟩)
                    ((repeat ((conv => whnf); first | (refine Sure.mk (by kernel_rfl) ?_) | (refine IfB.tt rfl ?_) | (refine IfB.ff rfl ?_) | (refine IfB.tt ?_ ?_; (focus (simp <;> fail))) | (refine IfB.ff ?_ ?_; (focus (simp <;> fail))) | (refine fits (wrap64 ?_ ?_) ?_; (focus omega); (focus omega)) | (refine fits (wrapU64 ?_ ?_) ?_; (focus omega); (focus omega)) | (refine Need.mk ?_ ?_; (focus omega)) | (refine InB.mk ?_ ?_ ?_; (focus omega); (focus omega)))); (try (conv => whnf)); refine ⟨[], [0,1], rfl, ⟨i + 1, _, rfl, rfl, hlt, h.1, by rw [h.2]; split <;> omega, toldF_x hc hr hX y⟩, (by omega : ls.length - ((i : Int) + 1).toNat < ls.length - (i : Int).toNat)⟩)
          · rw [show asksF c r = (0, false) by unfold asksF; rw [if_neg hw]] at ca
            have hle := len_le (c := c) (G := c.G) (l := r.live) fun x hx => (hX x hx).1
            have hdiv : r.live.length ≤ c.M / c.G := by
              rw [Nat.le_div_iff_mul_le hg]
              have : ((r.live.length * c.G : Nat) : Int) ≤ (c.M : Int) := Int.le_trans hle hr.t
              exact Int.ofNat_le.1 this
            have htd : ((c.M : Nat) : Int).tdiv ((c.G : Nat) : Int) = ((c.M / c.G : Nat) : Int) := by rw [Int.tdiv_eq_ediv_of_nonneg (by omega)]; omega
            have hwn : ((r.why : Nat) : Int) ≠ 0 := by omega
            have hdl := Nat.div_le_self c.M c.G
            have hdn : (0 : Int) ≤ ((c.M / c.G : Nat) : Int) := Int.natCast_nonneg _
            ((repeat ((conv => whnf); first | (refine Sure.mk (by kernel_rfl) ?_) | (refine IfB.tt rfl ?_) | (refine IfB.ff rfl ?_) | (refine IfB.tt ?_ ?_; (focus (simp <;> fail))) | (refine IfB.ff ?_ ?_; (focus (simp <;> fail))) | (refine fits (wrap64 ?_ ?_) ?_; (focus omega); (focus omega)) | (refine fits (wrapU64 ?_ ?_) ?_; (focus omega); (focus omega)) | (refine Need.mk ?_ ?_; (focus omega)) | (refine InB.mk ?_ ?_ ?_; (focus omega); (focus omega)))); (try (conv => whnf)); refine Choice.mk ⟨false, Choice.mk ⟨true, _, _, ca, ?_⟩⟩)
            ((repeat ((conv => whnf); first | (refine Sure.mk (by kernel_rfl) ?_) | (refine IfB.tt rfl ?_) | (refine IfB.ff rfl ?_) | (refine IfB.tt ?_ ?_; (focus (simp <;> fail))) | (refine IfB.ff ?_ ?_; (focus (simp <;> fail))) | (refine fits (wrap64 ?_ ?_) ?_; (focus omega); (focus omega)) | (refine fits (wrapU64 ?_ ?_) ?_; (focus omega); (focus omega)) | (refine Need.mk ?_ ?_; (focus omega)) | (refine InB.mk ?_ ?_ ?_; (focus omega); (focus omega)))); (try (conv => whnf)); refine IfB.tt (by simpa using hwn) ?_)
            ((repeat ((conv => whnf); first | (refine Sure.mk (by kernel_rfl) ?_) | (refine IfB.tt rfl ?_) | (refine IfB.ff rfl ?_) | (refine IfB.tt ?_ ?_; (focus (simp <;> fail))) | (refine IfB.ff ?_ ?_; (focus (simp <;> fail))) | (refine fits (wrap64 ?_ ?_) ?_; (focus omega); (focus omega)) | (refine fits (wrapU64 ?_ ?_) ?_; (focus omega); (focus omega)) | (refine Need.mk ?_ ?_; (focus omega)) | (refine InB.mk ?_ ?_ ?_; (focus omega); (focus omega)))); (try (conv => whnf)); refine RetN.mk ⟨[], rfl, ?_, rfl⟩)
            show AV.bool (bif true then decide ((((r.live.map eS).length : Nat) : Int) ≤ ((c.M : Nat) : Int).tdiv ((c.G : Nat) : Int)) else false) = AV.bool true
            rw [htd, hmr, decide_eq_true (by omega)]; rfl
        · ((repeat ((conv => whnf); first | (refine Sure.mk (by kernel_rfl) ?_) | (refine IfB.tt rfl ?_) | (refine IfB.ff rfl ?_) | (refine IfB.tt ?_ ?_; (focus (simp <;> fail))) | (refine IfB.ff ?_ ?_; (focus (simp <;> fail))) | (refine fits (wrap64 ?_ ?_) ?_; (focus omega); (focus omega)) | (refine fits (wrapU64 ?_ ?_) ?_; (focus omega); (focus omega)) | (refine Need.mk ?_ ?_; (focus omega)) | (refine InB.mk ?_ ?_ ?_; (focus omega); (focus omega)))); (try (conv => whnf)); refine RetN.mk ⟨[], rfl, ?_, rfl⟩)
          have := hr.w
          show AV.bool (decide (((r.asked : Nat) : Int) ≤ (((ls.map u8).length : Nat) : Int))) = AV.bool true
          rw [decide_eq_true (by omega)]
theorem gameFair {x0 x1 : AV} (h0 : Shp T 8 ts_uint8 x0) (h1 : Shp T 8 ts_uint8 x1) : Told P T law22_GameFair [] [x0, x1] (.bool true) [] := by
  obtain ⟨bs, rfl, hb, hl⟩ := shp_bytes h0
  obtain ⟨ls, rfl, hb2, hl2⟩ := shp_bytes h1
  exact gameFair_told bs ls hb hl hb2 hl2
end Go.Ev.W
namespace Go.Ev.W
open Go.Ev Go.Ev.N

def shS (u : Int) (x : Sp) : Sp := ⟨x.a + u, x.n⟩
def shR (u : Int) (r : Rd) : Rd := { r with live := r.live.map (shS u), most := if r.most > 0 then r.most + u else r.most }
theorem covF_sh {u : Int} {off m : Nat} (hm : (m : Int) ∣ u) (x : Sp) : covF off m (shS u x) = covF off m x := by
  unfold covF shS
  simp only
  have : ((off : Int) - (x.a + u)) % (m : Int) = ((off : Int) - x.a) % (m : Int) := by
    obtain ⟨q, rfl⟩ := hm
    rw [show (off : Int) - (x.a + (m : Int) * q) = ((off : Int) - x.a) - (m : Int) * q by omega, Int.sub_mul_emod_self_left]
  rw [this]
theorem less_sh {u : Int} {off m : Nat} (hm : (m : Int) ∣ u) : ∀ l : List Sp, less off m (l.map (shS u)) = less off m l
  | [] => rfl
  | x :: l => by
    simp only [List.map_cons, less, covF_sh hm, less_sh hm l]; rfl
theorem filter_sh {u : Int} {off m : Nat} (hm : (m : Int) ∣ u) : ∀ l : List Sp, (l.map (shS u)).filter (covF off m) = (l.filter (covF off m)).map (shS u)
  | [] => rfl
  | x :: l => by
    simp only [List.map_cons, List.filter_cons, covF_sh hm, filter_sh hm l]
    split <;> simp
theorem total_sh (u : Int) : ∀ l : List Sp, total (l.map (shS u)) = total l
  | [] => rfl
  | x :: l => by rw [List.map_cons, total_cons, total_cons, total_sh u l]; rfl
theorem nextF_sh {c : Cf} {r : Rd} {u : Int} (hm : ((2 * sz c r.step : Nat) : Int) ∣ u) : nextF c (shR u r) = shR u (nextF c r) := by
  unfold nextF
  have e1 : (shR u r).live = r.live.map (shS u) := rfl
  have e2 : (shR u r).step = r.step := rfl
  have e3 : (shR u r).off = r.off := rfl
  rw [e1, e2, e3, less_sh hm, less_sh hm, filter_sh hm, filter_sh hm]
  split <;> rfl
theorem sz_dvd {c : Cf} {j k : Nat} (h : j ≤ k) : sz c j ∣ sz c k := by
  unfold sz
  exact Nat.mul_dvd_mul_left _ (Nat.pow_dvd_pow 2 h)
theorem endF_sh {c : Cf} {u : Int} (hu : ((sz c c.L : Nat) : Int) ∣ u) : ∀ (k : Nat) (r : Rd), endF c k (shR u r) = shR u (endF c k r)
  | 0, _ => rfl
  | k + 1, r => by
    unfold endF
    have e1 : total (shR u r).live = total r.live := total_sh u r.live
    have e2 : (shR u r).step = r.step := rfl
    rw [e1, e2]
    split
    · split
      · rfl
      · rename_i hs
        have hd : ((2 * sz c r.step : Nat) : Int) ∣ u := by
          rw [← sz_succ]
          exact Int.dvd_trans (Int.natCast_dvd_natCast.2 (sz_dvd (by omega))) hu
        rw [nextF_sh hd, endF_sh hu k]
    · rfl
theorem lowS_sh (u y : Int) : ∀ l : List Sp, lowS (y + u) (l.map (shS u)) = lowS y l
  | [] => rfl
  | x :: l => by
    simp only [List.map_cons, lowS]
    rw [lowS_sh u y l]
    have : (shS u x).a < y + u ↔ x.a < y := by show x.a + u < y + u ↔ _; omega
    by_cases h : x.a < y
    · rw [if_pos h, if_pos (this.2 h)]
    · rw [if_neg h, if_neg (fun h' => h (this.1 h'))]
theorem clashR_sh (u : Int) (l : List Sp) (s : Sp) : clashR (l.map (shS u)) (shS u s) = clashR l s := by
  unfold clashR
  have e : lowS (shS u s).a (l.map (shS u)) = lowS s.a l := lowS_sh u s.a l
  rw [e]
  congr 1
  · cases lowS s.a l with
    | zero => rfl
    | succ k =>
      simp only [List.getElem?_map]
      cases l[k]? with
      | none => rfl
      | some x =>
        simp only [Option.map_some, shS]
        exact decide_eq_decide.2 (by omega)
  · simp only [List.getElem?_map]
    cases l[lowS s.a l]? with
    | none => rfl
    | some x =>
      simp only [Option.map_some, shS]
      exact decide_eq_decide.2 (by omega)
theorem putR_sh {u : Int} {l : List Sp} {s : Sp} (h : oneB (shS u s) = oneB s) : putR (l.map (shS u)) (shS u s) = ((putR l s).1.map (shS u), (putR l s).2) := by
  unfold putR
  rw [clashR_sh, h]
  have e : lowS (shS u s).a (l.map (shS u)) = lowS s.a l := lowS_sh u s.a l
  split
  · rw [e]; simp
  · rfl
/-- All that is held is low. -/
structure RdLow (r : Rd) : Prop where
  m : 0 ≤ r.most ∧ r.most ≤ 700000
theorem toldF_sh {c : Cf} (hc : c.Ok) {r : Rd} (hr : RdOk c r) (hL : 0 ≤ r.most ∧ r.most ≤ 700000) {u y : Int} (hu : ((sz c c.L : Nat) : Int) ∣ u) (hu0 : 0 ≤ u ∧ u ≤ 100000) (hy : 0 ≤ y ∧ y ≤ 600000) :
    toldF c (shR u r) (y + u) = shR u (toldF c r y) := by
  have hs := sz_pos hc r.step
  have hs2 := hc.sz_le hr.s
  have hs3 := hc.nM
  have hs4 := hc.mH
  have e2 : (shR u r).step = r.step := rfl
  have e4 : (shR u r).why = r.why := rfl
  have eL : (shR u r).live = r.live.map (shS u) := rfl
  have h1 : oneB ⟨y, sz c r.step⟩ = true := (oneB_iff _).2 ⟨by show (1 : Int) ≤ ((sz c r.step : Nat) : Int); omega, by show ((sz c r.step : Nat) : Int) ≤ _; omega, hy.1, by show y ≤ 1099511627776 - ((sz c r.step : Nat) : Int); omega⟩
  have h2 : oneB (shS u ⟨y, sz c r.step⟩) = true := (oneB_iff _).2 ⟨by show (1 : Int) ≤ ((sz c r.step : Nat) : Int); omega, by show ((sz c r.step : Nat) : Int) ≤ _; omega, by show 0 ≤ y + u; omega, by show y + u ≤ 1099511627776 - ((sz c r.step : Nat) : Int); omega⟩
  have hp : putR (r.live.map (shS u)) ⟨y + u, sz c r.step⟩ = ((putR r.live ⟨y, sz c r.step⟩).1.map (shS u), (putR r.live ⟨y, sz c r.step⟩).2) := putR_sh (s := ⟨y, sz c r.step⟩) (by rw [h1, h2])
  unfold toldF
  rw [e2, e4, eL, hp]
  split
  · rfl
  · split
    · rfl
    · have e : ∀ (a : List Sp), ({ (shR u r) with asked := (shR u r).asked + 1, live := a.map (shS u), most := max (shR u r).most (y + u + ((sz c r.step : Nat) : Int)) } : Rd) = shR u { r with asked := r.asked + 1, live := a, most := max r.most (y + ((sz c r.step : Nat) : Int)) } := by
        intro a
        unfold shR
        simp only
        congr 1
        rw [if_pos (show max r.most (y + ((sz c r.step : Nat) : Int)) > 0 by omega)]
        split <;> omega
      exact Eq.trans (congrArg (endF c _) (e _)) (endF_sh hu _ _)
theorem endF_most {c : Cf} : ∀ (k : Nat) (r : Rd), (endF c k r).most = r.most
  | 0, _ => rfl
  | k + 1, r => by
    unfold endF
    split
    · split
      · rfl
      · rw [endF_most k]; unfold nextF; split <;> rfl
    · rfl
theorem toldF_most {c : Cf} {r : Rd} (hr : RdOk c r) {y : Int} (hN : sz c r.step ≤ 128) (hy : 0 ≤ y ∧ y ≤ 600000) (hL : 0 ≤ r.most ∧ r.most ≤ 700000) : 0 ≤ (toldF c r y).most ∧ (toldF c r y).most ≤ 700000 := by
  unfold toldF
  split
  · exact hL
  · split
    · exact hL
    · rw [endF_most]
      show 0 ≤ max _ _ ∧ max _ _ ≤ _
      omega

set_option maxHeartbeats 4000000 in
set_option maxRecDepth 20000 in
theorem gameMoved_told (bs ls : List Nat) (hb : IsB bs) (hl : bs.length ≤ maxLen) (hb2 : IsB ls) (hl2 : ls.length ≤ maxLen) (b : Nat) (hbb : b < 256) : Told P T law22_GameMoved [] [lB bs, lB ls, u8 b] (.bool true) [] := by
  have hmb : (bs.map u8).length = bs.length := by simp
  have hml : (ls.map u8).length = ls.length := by simp
  have em : ((b : Nat) : Int).tmod 20 = ((b % 20 : Nat) : Int) := by rw [Int.tmod_eq_emod_of_nonneg (by omega)]; omega
  refine told_of_ev (fn := law22_GameMoved_fn) tabOk mixed (by kernel_rfl) (by kernel_rfl) (by kernel_rfl) (by kernel_rfl) ?_
  ((repeat ((conv => whnf); first | (refine Sure.mk (by kernel_rfl) ?_) | (refine IfB.tt rfl ?_) | (refine IfB.ff rfl ?_) | (refine IfB.tt ?_ ?_; (focus (simp <;> fail))) | (refine IfB.ff ?_ ?_; (focus (simp <;> fail))) | (refine fits (wrap64 ?_ ?_) ?_; (focus omega); (focus omega)) | (refine fits (wrapU64 ?_ ?_) ?_; (focus omega); (focus omega)) | (refine Need.mk ?_ ?_; (focus omega)) | (refine InB.mk ?_ ?_ ?_; (focus omega); (focus omega)))); (try (conv => whnf)); refine Choice.mk ⟨false, Choice.mk ⟨true, _, _, begun22_told, ?_⟩⟩)
  ((repeat ((conv => whnf); first | (refine Sure.mk (by kernel_rfl) ?_) | (refine IfB.tt rfl ?_) | (refine IfB.ff rfl ?_) | (refine IfB.tt ?_ ?_; (focus (simp <;> fail))) | (refine IfB.ff ?_ ?_; (focus (simp <;> fail))) | (refine fits (wrap64 ?_ ?_) ?_; (focus omega); (focus omega)) | (refine fits (wrapU64 ?_ ?_) ?_; (focus omega); (focus omega)) | (refine Need.mk ?_ ?_; (focus omega)) | (refine InB.mk ?_ ?_ ?_; (focus omega); (focus omega)))); (try (conv => whnf)); first | refine IfB.dec (fun h1 => ?_) (fun h1 => ?_) | refine IfB.eq (fun h1 => ?_) (fun h1 => ?_) | refine IfB.ne (fun h1 => ?_) (fun h1 => ?_) | refine IfB.mk (fun h1 => ?_) (fun h1 => ?_))
  · ((repeat ((conv => whnf); first | (refine Sure.mk (by kernel_rfl) ?_) | (refine IfB.tt rfl ?_) | (refine IfB.ff rfl ?_) | (refine IfB.tt ?_ ?_; (focus (simp <;> fail))) | (refine IfB.ff ?_ ?_; (focus (simp <;> fail))) | (refine fits (wrap64 ?_ ?_) ?_; (focus omega); (focus omega)) | (refine fits (wrapU64 ?_ ?_) ?_; (focus omega); (focus omega)) | (refine Need.mk ?_ ?_; (focus omega)) | (refine InB.mk ?_ ?_ ?_; (focus omega); (focus omega)))); (try (conv => whnf)); exact RetN.mk ⟨[], rfl, rfl, rfl⟩)
  · ((repeat ((conv => whnf); first | (refine Sure.mk (by kernel_rfl) ?_) | (refine IfB.tt rfl ?_) | (refine IfB.ff rfl ?_) | (refine IfB.tt ?_ ?_; (focus (simp <;> fail))) | (refine IfB.ff ?_ ?_; (focus (simp <;> fail))) | (refine fits (wrap64 ?_ ?_) ?_; (focus omega); (focus omega)) | (refine fits (wrapU64 ?_ ?_) ?_; (focus omega); (focus omega)) | (refine Need.mk ?_ ?_; (focus omega)) | (refine InB.mk ?_ ?_ ?_; (focus omega); (focus omega)))); (try (conv => whnf)); first | refine IfB.dec (fun h2 => ?_) (fun h2 => ?_) | refine IfB.eq (fun h2 => ?_) (fun h2 => ?_) | refine IfB.ne (fun h2 => ?_) (fun h2 => ?_) | refine IfB.mk (fun h2 => ?_) (fun h2 => ?_))
    · ((repeat ((conv => whnf); first | (refine Sure.mk (by kernel_rfl) ?_) | (refine IfB.tt rfl ?_) | (refine IfB.ff rfl ?_) | (refine IfB.tt ?_ ?_; (focus (simp <;> fail))) | (refine IfB.ff ?_ ?_; (focus (simp <;> fail))) | (refine fits (wrap64 ?_ ?_) ?_; (focus omega); (focus omega)) | (refine fits (wrapU64 ?_ ?_) ?_; (focus omega); (focus omega)) | (refine Need.mk ?_ ?_; (focus omega)) | (refine InB.mk ?_ ?_ ?_; (focus omega); (focus omega)))); (try (conv => whnf)); exact RetN.mk ⟨[], rfl, rfl, rfl⟩)
    · ((repeat ((conv => whnf); first | (refine Sure.mk (by kernel_rfl) ?_) | (refine IfB.tt rfl ?_) | (refine IfB.ff rfl ?_) | (refine IfB.tt ?_ ?_; (focus (simp <;> fail))) | (refine IfB.ff ?_ ?_; (focus (simp <;> fail))) | (refine fits (wrap64 ?_ ?_) ?_; (focus omega); (focus omega)) | (refine fits (wrapU64 ?_ ?_) ?_; (focus omega); (focus omega)) | (refine Need.mk ?_ ?_; (focus omega)) | (refine InB.mk ?_ ?_ ?_; (focus omega); (focus omega)))); (try (conv => whnf)); refine Choice.mk ⟨false, Choice.mk ⟨false, _, _, made_told bs, ?_⟩⟩)
      ((repeat ((conv => whnf); first | (refine Sure.mk (by kernel_rfl) ?_) | (refine IfB.tt rfl ?_) | (refine IfB.ff rfl ?_) | (refine IfB.tt ?_ ?_; (focus (simp <;> fail))) | (refine IfB.ff ?_ ?_; (focus (simp <;> fail))) | (refine fits (wrap64 ?_ ?_) ?_; (focus omega); (focus omega)) | (refine fits (wrapU64 ?_ ?_) ?_; (focus omega); (focus omega)) | (refine Need.mk ?_ ?_; (focus omega)) | (refine InB.mk ?_ ?_ ?_; (focus omega); (focus omega)))); (try (conv => whnf)); refine Choice.mk ⟨true, Choice.mk ⟨false, _, _, conf_told ⟨bs, 0⟩ ⟨hb, Nat.zero_le _, hl⟩ true, ?_⟩⟩)
      obtain ⟨hc, hN⟩ := conf_ok ⟨bs, 0⟩ true
      obtain ⟨c, hce⟩ : ∃ c, (ofF (rawF ⟨bs, 0⟩ true).1).1 = c := ⟨_, rfl⟩
      rw [hce] at hc hN ⊢
      have hg := hc.gpos
      have hnM := hc.nM
      have hmH := hc.mH
      ((repeat ((conv => whnf); first | (refine Sure.mk (by kernel_rfl) ?_) | (refine IfB.tt rfl ?_) | (refine IfB.ff rfl ?_) | (refine IfB.tt ?_ ?_; (focus (simp <;> fail))) | (refine IfB.ff ?_ ?_; (focus (simp <;> fail))) | (refine fits (wrap64 ?_ ?_) ?_; (focus omega); (focus omega)) | (refine fits (wrapU64 ?_ ?_) ?_; (focus omega); (focus omega)) | (refine Need.mk ?_ ?_; (focus omega)) | (refine InB.mk ?_ ?_ ?_; (focus omega); (focus omega)))); (try (conv => whnf)); first | refine IfB.dec (fun h3 => ?_) (fun h3 => ?_) | refine IfB.eq (fun h3 => ?_) (fun h3 => ?_) | refine IfB.ne (fun h3 => ?_) (fun h3 => ?_) | refine IfB.mk (fun h3 => ?_) (fun h3 => ?_))
      · omega
      · obtain ⟨u, hu⟩ : ∃ u, b % 20 * c.N = u := ⟨_, rfl⟩
        have hub : u ≤ 19 * 128 := by rw [← hu]; exact Nat.mul_le_mul (by omega) hN
        have hun : ((b % 20 : Nat) : Int) * ((c.N : Nat) : Int) = ((u : Nat) : Int) := by rw [← Int.natCast_mul, hu]
        have hud : ((sz c c.L : Nat) : Int) ∣ ((u : Nat) : Int) := by
          have : sz c c.L = c.N := by rw [hc.n]; rfl
          rw [this]
          exact Int.natCast_dvd_natCast.2 ⟨b % 20, by rw [← hu, Nat.mul_comm]⟩
        ((repeat ((conv => whnf); first | (refine Sure.mk (by kernel_rfl) ?_) | (refine IfB.tt rfl ?_) | (refine IfB.ff rfl ?_) | (refine IfB.tt ?_ ?_; (focus (simp <;> fail))) | (refine IfB.ff ?_ ?_; (focus (simp <;> fail))) | (refine fits (wrap64 ?_ ?_) ?_; (focus omega); (focus omega)) | (refine fits (wrapU64 ?_ ?_) ?_; (focus omega); (focus omega)) | (refine Need.mk ?_ ?_; (focus omega)) | (refine InB.mk ?_ ?_ ?_; (focus omega); (focus omega)))); (try (conv => whnf)))
        rw [em]
        ((repeat ((conv => whnf); first | (refine Sure.mk (by kernel_rfl) ?_) | (refine IfB.tt rfl ?_) | (refine IfB.ff rfl ?_) | (refine IfB.tt ?_ ?_; (focus (simp <;> fail))) | (refine IfB.ff ?_ ?_; (focus (simp <;> fail))) | (refine fits (wrap64 ?_ ?_) ?_; (focus omega); (focus omega)) | (refine fits (wrapU64 ?_ ?_) ?_; (focus omega); (focus omega)) | (refine Need.mk ?_ ?_; (focus omega)) | (refine InB.mk ?_ ?_ ?_; (focus omega); (focus omega)))); (try (conv => whnf)))
        rw [hun]
        ((repeat ((conv => whnf); first | (refine Sure.mk (by kernel_rfl) ?_) | (refine IfB.tt rfl ?_) | (refine IfB.ff rfl ?_) | (refine IfB.tt ?_ ?_; (focus (simp <;> fail))) | (refine IfB.ff ?_ ?_; (focus (simp <;> fail))) | (refine fits (wrap64 ?_ ?_) ?_; (focus omega); (focus omega)) | (refine fits (wrapU64 ?_ ?_) ?_; (focus omega); (focus omega)) | (refine Need.mk ?_ ?_; (focus omega)) | (refine InB.mk ?_ ?_ ?_; (focus omega); (focus omega)))); (try (conv => whnf)); refine Choice.mk ⟨false, Choice.mk ⟨false, _, _, begin_told c, ?_⟩⟩)
        ((repeat ((conv => whnf); first | (refine Sure.mk (by kernel_rfl) ?_) | (refine IfB.tt rfl ?_) | (refine IfB.ff rfl ?_) | (refine IfB.tt ?_ ?_; (focus (simp <;> fail))) | (refine IfB.ff ?_ ?_; (focus (simp <;> fail))) | (refine fits (wrap64 ?_ ?_) ?_; (focus omega); (focus omega)) | (refine fits (wrapU64 ?_ ?_) ?_; (focus omega); (focus omega)) | (refine Need.mk ?_ ?_; (focus omega)) | (refine InB.mk ?_ ?_ ?_; (focus omega); (focus omega)))); (try (conv => whnf)); refine Choice.mk ⟨false, Choice.mk ⟨false, _, _, begin_told c, ?_⟩⟩)
        ((repeat ((conv => whnf); first | (refine Sure.mk (by kernel_rfl) ?_) | (refine IfB.tt rfl ?_) | (refine IfB.ff rfl ?_) | (refine IfB.tt ?_ ?_; (focus (simp <;> fail))) | (refine IfB.ff ?_ ?_; (focus (simp <;> fail))) | (refine fits (wrap64 ?_ ?_) ?_; (focus omega); (focus omega)) | (refine fits (wrapU64 ?_ ?_) ?_; (focus omega); (focus omega)) | (refine Need.mk ?_ ?_; (focus omega)) | (refine InB.mk ?_ ?_ ?_; (focus omega); (focus omega)))); (try (conv => whnf)); refine LoopN.mk ⟨[1,7,9,10,11,12], fun vs L => ∃ (i : Nat) (r : Rd), vs = [lB ls, .ptr 0 0 0, i64 u, .ptr 1 0 0, .ptr 2 0 0, i64 i] ∧ L = [.var (eC c), .var (eRd r), .var (eRd (shR u r))] ∧ i ≤ ls.length ∧ RdOk c r ∧ r.asked ≤ i ∧ (0 ≤ r.most ∧ r.most ≤ 700000) ∧ RdOk c (shR u r), fun vs L => match vs with | [_, _, _, _, _, .int _ i] => ls.length - i.toNat | _ => 0, [], [1,3,5], rfl, ⟨0, r0, rfl, rfl, by omega, r0_ok hc, by simp [r0], by simp [r0], r0_ok hc⟩, ?_⟩)
        rintro vs L ⟨i, r, rfl, rfl, hi, hr, hq, hL, hr2⟩
        have hlr := hr.toRdB.len hc
        ((repeat ((conv => whnf); first | (refine Sure.mk (by kernel_rfl) ?_) | (refine IfB.tt rfl ?_) | (refine IfB.ff rfl ?_) | (refine IfB.tt ?_ ?_; (focus (simp <;> fail))) | (refine IfB.ff ?_ ?_; (focus (simp <;> fail))) | (refine fits (wrap64 ?_ ?_) ?_; (focus omega); (focus omega)) | (refine fits (wrapU64 ?_ ?_) ?_; (focus omega); (focus omega)) | (refine Need.mk ?_ ?_; (focus omega)) | (refine InB.mk ?_ ?_ ?_; (focus omega); (focus omega)))); (try (conv => whnf)); first | refine IfB.dec (fun h4 => ?_) (fun h4 => ?_) | refine IfB.eq (fun h4 => ?_) (fun h4 => ?_) | refine IfB.ne (fun h4 => ?_) (fun h4 => ?_) | refine IfB.mk (fun h4 => ?_) (fun h4 => ?_))
        · have hlt : i < ls.length := by omega
          have hbi := hb2 _ (List.getElem_mem hlt)
          have ca := asks_told (r := r) hc hr.s
          have cb := asks_told (r := shR u r) hc hr2.s
          rw [show asksF c (shR u r) = asksF c r from rfl] at cb
          by_cases hw : r.why = 0
          · rw [show asksF c r = (sz c r.step, true) by unfold asksF; rw [if_pos hw]] at ca cb
            have hs := hc.sz_le hr.s
            have cw := where_told hr.a hlr (n := sz c r.step) (k := ls[i]) (by omega) hbi
            have hwb := whereF_bd (l := r.live) (n := sz c r.step) (k := ls[i]) (by omega) hbi
            obtain ⟨y0, hy0⟩ : ∃ y, whereF r.live (sz c r.step) ls[i] = y := ⟨_, rfl⟩
            rw [hy0] at cw hwb
            obtain ⟨y, hy⟩ : ∃ y, (if (0 : Int) > y0 then 0 else y0) = y := ⟨_, rfl⟩
            have hyb : 0 ≤ y ∧ y ≤ 600000 := by rw [← hy]; split <;> omega
            have h := toldF_ok hc hr y
            have h' := toldF_ok hc hr2 (y + u)
            have hsh := toldF_sh hc hr hL (u := u) (y := y) hud (by omega) hyb
            have hmo := toldF_most hr (y := y) (by omega) hyb hL
            have ct := told_told hc hr y (by omega) (by omega)
            have cs := told_told hc hr2 (y + u) (by omega) (show r.asked ≤ 1000000 by omega)
            rw [hsh] at cs h'
            obtain ⟨r', hr'⟩ : ∃ r', toldF c r y = r' := ⟨_, rfl⟩
            rw [hr'] at ct cs h h' hmo
            ((repeat ((conv => whnf); first | (refine Sure.mk (by kernel_rfl) ?_) | (refine IfB.tt rfl ?_) | (refine IfB.ff rfl ?_) | (refine IfB.tt ?_ ?_; (focus (simp <;> fail))) | (refine IfB.ff ?_ ?_; (focus (simp <;> fail))) | (refine fits (wrap64 ?_ ?_) ?_; (focus omega); (focus omega)) | (refine fits (wrapU64 ?_ ?_) ?_; (focus omega); (focus omega)) | (refine Need.mk ?_ ?_; (focus omega)) | (refine InB.mk ?_ ?_ ?_; (focus omega); (focus omega)))); (try (conv => whnf)); refine Choice.mk ⟨false, Choice.mk ⟨true, _, _, ca, ?_⟩⟩)
            ((repeat ((conv => whnf); first | (refine Sure.mk (by kernel_rfl) ?_) | (refine IfB.tt rfl ?_) | (refine IfB.ff rfl ?_) | (refine IfB.tt ?_ ?_; (focus (simp <;> fail))) | (refine IfB.ff ?_ ?_; (focus (simp <;> fail))) | (refine fits (wrap64 ?_ ?_) ?_; (focus omega); (focus omega)) | (refine fits (wrapU64 ?_ ?_) ?_; (focus omega); (focus omega)) | (refine Need.mk ?_ ?_; (focus omega)) | (refine InB.mk ?_ ?_ ?_; (focus omega); (focus omega)))); (try (conv => whnf)); refine Choice.mk ⟨false, Choice.mk ⟨true, _, _, cb, ?_⟩⟩)
            ((repeat ((conv => whnf); first | (refine Sure.mk (by kernel_rfl) ?_) | (refine IfB.tt rfl ?_) | (refine IfB.ff rfl ?_) | (refine IfB.tt ?_ ?_; (focus (simp <;> fail))) | (refine IfB.ff ?_ ?_; (focus (simp <;> fail))) | (refine fits (wrap64 ?_ ?_) ?_; (focus omega); (focus omega)) | (refine fits (wrapU64 ?_ ?_) ?_; (focus omega); (focus omega)) | (refine Need.mk ?_ ?_; (focus omega)) | (refine InB.mk ?_ ?_ ?_; (focus omega); (focus omega)))); (try (conv => whnf)); refine idx_map (hlt) ?_)
            ((repeat ((conv => whnf); first | (refine Sure.mk (by kernel_rfl) ?_) | (refine IfB.tt rfl ?_) | (refine IfB.ff rfl ?_) | (refine IfB.tt ?_ ?_; (focus (simp <;> fail))) | (refine IfB.ff ?_ ?_; (focus (simp <;> fail))) | (refine fits (wrap64 ?_ ?_) ?_; (focus omega); (focus omega)) | (refine fits (wrapU64 ?_ ?_) ?_; (focus omega); (focus omega)) | (refine Need.mk ?_ ?_; (focus omega)) | (refine InB.mk ?_ ?_ ?_; (focus omega); (focus omega)))); (try (conv => whnf)); refine Choice.mk ⟨false, Choice.mk ⟨true, _, _, cw, ?_⟩⟩)
            ((repeat ((conv => whnf); first | (refine Sure.mk (by kernel_rfl) ?_) | (refine IfB.tt rfl ?_) | (refine IfB.ff rfl ?_) | (refine IfB.tt ?_ ?_; (focus (simp <;> fail))) | (refine IfB.ff ?_ ?_; (focus (simp <;> fail))) | (refine fits (wrap64 ?_ ?_) ?_; (focus omega); (focus omega)) | (refine fits (wrapU64 ?_ ?_) ?_; (focus omega); (focus omega)) | (refine Need.mk ?_ ?_; (focus omega)) | (refine InB.mk ?_ ?_ ?_; (focus omega); (focus omega)))); (try (conv => whnf)))
            rw [hy]
            ((repeat ((conv => whnf); first | (refine Sure.mk (by kernel_rfl) ?_) | (refine IfB.tt rfl ?_) | (refine IfB.ff rfl ?_) | (refine IfB.tt ?_ ?_; (focus (simp <;> fail))) | (refine IfB.ff ?_ ?_; (focus (simp <;> fail))) | (refine fits (wrap64 ?_ ?_) ?_; (focus omega); (focus omega)) | (refine fits (wrapU64 ?_ ?_) ?_; (focus omega); (focus omega)) | (refine Need.mk ?_ ?_; (focus omega)) | (refine InB.mk ?_ ?_ ?_; (focus omega); (focus omega)))); (try (conv => whnf)); refine Choice.mk ⟨false, Choice.mk ⟨false, _, _, ct, ?_⟩⟩)
            ((repeat ((conv => whnf); first | (refine Sure.mk (by kernel_rfl) ?_) | (refine IfB.tt rfl ?_) | (refine IfB.ff rfl ?_) | (refine IfB.tt ?_ ?_; (focus (simp <;> fail))) | (refine IfB.ff ?_ ?_; (focus (simp <;> fail))) | (refine fits (wrap64 ?_ ?_) ?_; (focus omega); (focus omega)) | (refine fits (wrapU64 ?_ ?_) ?_; (focus omega); (focus omega)) | (refine Need.mk ?_ ?_; (focus omega)) | (refine InB.mk ?_ ?_ ?_; (focus omega); (focus omega)))); (try (conv => whnf)); refine Choice.mk ⟨false, Choice.mk ⟨false, _, _, cs, ?_⟩⟩)
            ((repeat ((conv => whnf); first | (refine Sure.mk (by kernel_rfl) ?_) | (refine IfB.tt rfl ?_) | (refine IfB.ff rfl ?_) | (refine IfB.tt ?_ ?_; (focus (simp <;> fail))) | (refine IfB.ff ?_ ?_; (focus (simp <;> fail))) | (refine fits (wrap64 ?_ ?_) ?_; (focus omega); (focus omega)) | (refine fits (wrapU64 ?_ ?_) ?_; (focus omega); (focus omega)) | (refine Need.mk ?_ ?_; (focus omega)) | (refine InB.mk ?_ ?_ ?_; (focus omega); (focus omega)))); (try (conv => whnf)); refine IfB.ff (by simp [shR]) ?_)
            ((repeat ((conv => whnf); first | (refine Sure.mk (by kernel_rfl) ?_) | (refine IfB.tt rfl ?_) | (refine IfB.ff rfl ?_) | (refine IfB.tt ?_ ?_; (focus (simp <;> fail))) | (refine IfB.ff ?_ ?_; (focus (simp <;> fail))) | (refine fits (wrap64 ?_ ?_) ?_; (focus omega); (focus omega)) | (refine fits (wrapU64 ?_ ?_) ?_; (focus omega); (focus omega)) | (refine Need.mk ?_ ?_; (focus omega)) | (refine InB.mk ?_ ?_ ?_; (focus omega); (focus omega)))); (try (conv => whnf)); refine IfB.ff (by simp [shR]) ?_)
            ((repeat ((conv => whnf); first | (refine Sure.mk (by kernel_rfl) ?_) | (refine IfB.tt rfl ?_) | (refine IfB.ff rfl ?_) | (refine IfB.tt ?_ ?_; (focus (simp <;> fail))) | (refine IfB.ff ?_ ?_; (focus (simp <;> fail))) | (refine fits (wrap64 ?_ ?_) ?_; (focus omega); (focus omega)) | (refine fits (wrapU64 ?_ ?_) ?_; (focus omega); (focus omega)) | (refine Need.mk ?_ ?_; (focus omega)) | (refine InB.mk ?_ ?_ ?_; (focus omega); (focus omega)))); (try (conv => whnf)); refine IfB.ff (by simp [shR]) ?_)
            ((repeat ((conv => whnf); first | (refine Sure.mk (by kernel_rfl) ?_) | (refine IfB.tt rfl ?_) | (refine IfB.ff rfl ?_) | (refine IfB.tt ?_ ?_; (focus (simp <;> fail))) | (refine IfB.ff ?_ ?_; (focus (simp <;> fail))) | (refine fits (wrap64 ?_ ?_) ?_; (focus omega); (focus omega)) | (refine fits (wrapU64 ?_ ?_) ?_; (focus omega); (focus omega)) | (refine Need.mk ?_ ?_; (focus omega)) | (refine InB.mk ?_ ?_ ?_; (focus omega); (focus omega)))); (try (conv => whnf)); refine IfB.ff (by simp [shR]) ?_)
            ((repeat ((conv => whnf); first | (refine Sure.mk (by kernel_rfl) ?_) | (refine IfB.tt rfl ?_) | (refine IfB.ff rfl ?_) | (refine IfB.tt ?_ ?_; (focus (simp <;> fail))) | (refine IfB.ff ?_ ?_; (focus (simp <;> fail))) | (refine fits (wrap64 ?_ ?_) ?_; (focus omega); (focus omega)) | (refine fits (wrapU64 ?_ ?_) ?_; (focus omega); (focus omega)) | (refine Need.mk ?_ ?_; (focus omega)) | (refine InB.mk ?_ ?_ ?_; (focus omega); (focus omega)))); (try (conv => whnf)); first | refine IfB.dec (fun h5 => ?_) (fun h5 => ?_) | refine IfB.eq (fun h5 => ?_) (fun h5 => ?_) | refine IfB.ne (fun h5 => ?_) (fun h5 => ?_) | refine IfB.mk (fun h5 => ?_) (fun h5 => ?_))
            · have e5 : (shR u r').most = r'.most + u := by unfold shR; simp only; rw [if_pos h5]
              ((repeat ((conv => whnf); first | (refine Sure.mk (by kernel_rfl) ?_) | (refine IfB.tt rfl ?_) | (refine IfB.ff rfl ?_) | (refine IfB.tt ?_ ?_; (focus (simp <;> fail))) | (refine IfB.ff ?_ ?_; (focus (simp <;> fail))) | (refine fits (wrap64 ?_ ?_) ?_; (focus omega); (focus omega)) | (refine fits (wrapU64 ?_ ?_) ?_; (focus omega); (focus omega)) | (refine Need.mk ?_ ?_; (focus omega)) | (refine InB.mk ?_ ?_ ?_; (focus omega); (focus omega)))); (try (conv => whnf)); refine IfB.ff (by rw [e5]; simp) ?_)
              ((repeat ((conv => whnf); first | (refine Sure.mk (by kernel_rfl) ?_) | (refine IfB.tt rfl ?_) | (refine IfB.ff rfl ?_) | (refine IfB.tt ?_ ?_; (focus (simp <;> fail))) | (refine IfB.ff ?_ ?_; (focus (simp <;> fail))) | (refine fits (wrap64 ?_ ?_) ?_; (focus omega); (focus omega)) | (refine fits (wrapU64 ?_ ?_) ?_; (focus omega); (focus omega)) | (refine Need.mk ?_ ?_; (focus omega)) | (refine InB.mk ?_ ?_ ?_; (focus omega); (focus omega)))); (try (conv => whnf)); refine ⟨[], [0,1,2], rfl, ⟨i + 1, r', rfl, rfl, hlt, h.1, by rw [h.2]; split <;> omega, hmo, h'.1⟩, (by omega : ls.length - ((i : Int) + 1).toNat < ls.length - (i : Int).toNat)⟩)
            · ((repeat ((conv => whnf); first | (refine Sure.mk (by kernel_rfl) ?_) | (refine IfB.tt rfl ?_) | (refine IfB.ff rfl ?_) | (refine IfB.tt ?_ ?_; (focus (simp <;> fail))) | (refine IfB.ff ?_ ?_; (focus (simp <;> fail))) | (refine fits (wrap64 ?_ ?_) ?_; (focus omega); (focus omega)) | (refine fits (wrapU64 ?_ ?_) ?_; (focus omega); (focus omega)) | (refine Need.mk ?_ ?_; (focus omega)) | (refine InB.mk ?_ ?_ ?_; (focus omega); (focus omega)))); (try (conv => whnf)); refine ⟨[], [0,1,2], rfl, ⟨i + 1, r', rfl, rfl, hlt, h.1, by rw [h.2]; split <;> omega, hmo, h'.1⟩, (by omega : ls.length - ((i : Int) + 1).toNat < ls.length - (i : Int).toNat)⟩)
          · rw [show asksF c r = (0, false) by unfold asksF; rw [if_neg hw]] at ca cb
            ((repeat ((conv => whnf); first | (refine Sure.mk (by kernel_rfl) ?_) | (refine IfB.tt rfl ?_) | (refine IfB.ff rfl ?_) | (refine IfB.tt ?_ ?_; (focus (simp <;> fail))) | (refine IfB.ff ?_ ?_; (focus (simp <;> fail))) | (refine fits (wrap64 ?_ ?_) ?_; (focus omega); (focus omega)) | (refine fits (wrapU64 ?_ ?_) ?_; (focus omega); (focus omega)) | (refine Need.mk ?_ ?_; (focus omega)) | (refine InB.mk ?_ ?_ ?_; (focus omega); (focus omega)))); (try (conv => whnf)); refine Choice.mk ⟨false, Choice.mk ⟨true, _, _, ca, ?_⟩⟩)
            ((repeat ((conv => whnf); first | (refine Sure.mk (by kernel_rfl) ?_) | (refine IfB.tt rfl ?_) | (refine IfB.ff rfl ?_) | (refine IfB.tt ?_ ?_; (focus (simp <;> fail))) | (refine IfB.ff ?_ ?_; (focus (simp <;> fail))) | (refine fits (wrap64 ?_ ?_) ?_; (focus omega); (focus omega)) | (refine fits (wrapU64 ?_ ?_) ?_; (focus omega); (focus omega)) | (refine Need.mk ?_ ?_; (focus omega)) | (refine InB.mk ?_ ?_ ?_; (focus omega); (focus omega)))); (try (conv => whnf)); refine Choice.mk ⟨false, Choice.mk ⟨true, _, _, cb, ?_⟩⟩)
            ((repeat ((conv => whnf); first | (refine Sure.mk (by kernel_rfl) ?_) | (refine IfB.tt rfl ?_) | (refine IfB.ff rfl ?_) | (refine IfB.tt ?_ ?_; (focus (simp <;> fail))) | (refine IfB.ff ?_ ?_; (focus (simp <;> fail))) | (refine fits (wrap64 ?_ ?_) ?_; (focus omega); (focus omega)) | (refine fits (wrapU64 ?_ ?_) ?_; (focus omega); (focus omega)) | (refine Need.mk ?_ ?_; (focus omega)) | (refine InB.mk ?_ ?_ ?_; (focus omega); (focus omega)))); (try (conv => whnf)); refine RetN.mk ⟨[], rfl, ?_, rfl⟩)
            ((try (conv => lhs; whnf)); (try simp [shR]); (try omega))
        · ((repeat ((conv => whnf); first | (refine Sure.mk (by kernel_rfl) ?_) | (refine IfB.tt rfl ?_) | (refine IfB.ff rfl ?_) | (refine IfB.tt ?_ ?_; (focus (simp <;> fail))) | (refine IfB.ff ?_ ?_; (focus (simp <;> fail))) | (refine fits (wrap64 ?_ ?_) ?_; (focus omega); (focus omega)) | (refine fits (wrapU64 ?_ ?_) ?_; (focus omega); (focus omega)) | (refine Need.mk ?_ ?_; (focus omega)) | (refine InB.mk ?_ ?_ ?_; (focus omega); (focus omega)))); (try (conv => whnf)); refine RetN.mk ⟨[], rfl, ?_, rfl⟩)
          ((try (conv => lhs; whnf)); (try simp [shR]); (try omega))
theorem gameMoved {x0 x1 x2 : AV} (h0 : Shp T 8 ts_uint8 x0) (h1 : Shp T 8 ts_uint8 x1) (h2 : Shp T 8 t_uint8 x2) : Told P T law22_GameMoved [] [x0, x1, x2] (.bool true) [] := by
  obtain ⟨bs, rfl, hb, hl⟩ := shp_bytes h0
  obtain ⟨ls, rfl, hb2, hl2⟩ := shp_bytes h1
  obtain ⟨b, rfl, hbb⟩ := shp_u8 (by kernel_rfl) h2
  exact gameMoved_told bs ls hb hl hb2 hl2 b hbb
end Go.Ev.W
namespace Go.Ev.W
open Go.Ev Go.Ev.N

/-- How much pieces are less than so much, together. -/
def waste (m : Nat) : List Sp → Int
  | [] => 0
  | x :: l => (m : Int) - x.n + waste m l
/-- How much those are together that are just so great. -/
def just (m : Nat) : List Sp → Int
  | [] => 0
  | x :: l => (if x.n = (m : Int) then (m : Int) else 0) + just m l
theorem waste_app (m : Nat) : ∀ l1 l2, waste m (l1 ++ l2) = waste m l1 + waste m l2
  | [], l2 => by simp [waste]
  | x :: l1, l2 => by simp only [List.cons_append, waste, waste_app m l1 l2]; omega
theorem just_app (m : Nat) : ∀ l1 l2, just m (l1 ++ l2) = just m l1 + just m l2
  | [], l2 => by simp [just]
  | x :: l1, l2 => by simp only [List.cons_append, just, just_app m l1 l2]; omega
theorem waste_eq (m : Nat) : ∀ l : List Sp, waste m l = (m : Int) * l.length - total l
  | [] => by simp [waste, total]
  | x :: l => by
    rw [waste, waste_eq m l, total_cons, List.length_cons, Int.natCast_add, Int.mul_add]; omega
theorem just_le (m : Nat) : ∀ {l : List Sp}, (∀ x ∈ l, oneB x = true) → 0 ≤ just m l ∧ just m l ≤ total l
  | [], _ => by simp [just, total]
  | x :: l, h => by
    have ih := just_le m (l := l) fun y hy => h y (by simp [hy])
    have hx := (oneB_iff _).1 (h x (by simp))
    rw [just, total_cons]
    split <;> omega
theorem just_zero {m : Nat} : ∀ {l : List Sp}, (∀ x ∈ l, x.n < (m : Int)) → just m l = 0
  | [], _ => rfl
  | x :: l, h => by
    rw [just, if_neg (by have := h x (by simp); omega), just_zero fun y hy => h y (by simp [hy])]; rfl
/-- Either one covers, or the other. -/
theorem cov_split {off m : Nat} (hm : off < m) {x : Sp} (hn : 1 ≤ x.n ∧ x.n ≤ m) (hc : covF off m x = true) : covF off (2 * m) x = !covF (off + m) (2 * m) x := by
  have h0 := of_decide_eq_true hc
  have hm0 : (0 : Int) < (m : Int) := by omega
  obtain ⟨d, hd⟩ : ∃ d, ((off : Int) - x.a) % (m : Int) = d := ⟨_, rfl⟩
  have hd0 := Int.emod_nonneg ((off : Int) - x.a) (b := (m : Int)) (by omega)
  rw [hd] at h0 hd0
  obtain ⟨q, hq⟩ : ∃ q, (off : Int) - x.a = (m : Int) * q + d := ⟨((off : Int) - x.a) / m, by rw [← hd]; exact (Int.mul_ediv_add_emod _ _).symm⟩
  have e2 : ((2 * m : Nat) : Int) = 2 * (m : Int) := by omega
  have key : (((off : Int) - x.a) % (2 * (m : Int)) = d ∧ (((off + m : Nat) : Int) - x.a) % (2 * (m : Int)) = d + m) ∨ (((off : Int) - x.a) % (2 * (m : Int)) = d + m ∧ (((off + m : Nat) : Int) - x.a) % (2 * (m : Int)) = d) := by
    have e3 : ((off + m : Nat) : Int) - x.a = (m : Int) * (q + 1) + d := by rw [Int.mul_add]; omega
    rw [e3, hq]
    rcases Int.emod_two_eq q with hq2 | hq2
    · obtain ⟨p, rfl⟩ : ∃ p, q = 2 * p := ⟨q / 2, by omega⟩
      left
      constructor
      · rw [show (m : Int) * (2 * p) + d = d + 2 * (m : Int) * p by rw [Int.mul_left_comm, Int.mul_assoc]; omega, Int.add_mul_emod_self_left, Int.emod_eq_of_lt (by omega) (by omega)]
      · rw [show (m : Int) * (2 * p + 1) + d = (d + m) + 2 * (m : Int) * p by rw [Int.mul_add, Int.mul_left_comm, Int.mul_assoc]; omega, Int.add_mul_emod_self_left, Int.emod_eq_of_lt (by omega) (by omega)]
    · obtain ⟨p, rfl⟩ : ∃ p, q = 2 * p + 1 := ⟨q / 2, by omega⟩
      right
      constructor
      · rw [show (m : Int) * (2 * p + 1) + d = (d + m) + 2 * (m : Int) * p by rw [Int.mul_add, Int.mul_left_comm, Int.mul_assoc]; omega, Int.add_mul_emod_self_left, Int.emod_eq_of_lt (by omega) (by omega)]
      · rw [show (m : Int) * (2 * p + 1 + 1) + d = d + 2 * (m : Int) * (p + 1) by rw [show 2 * p + 1 + 1 = 2 * (p + 1) by omega, Int.mul_left_comm, Int.mul_assoc]; omega, Int.add_mul_emod_self_left, Int.emod_eq_of_lt (by omega) (by omega)]
  unfold covF
  rw [e2]
  rcases key with ⟨k1, k2⟩ | ⟨k1, k2⟩
  · rw [k1, k2, decide_eq_true (by omega), decide_eq_false (by omega)]; rfl
  · rw [k1, k2, decide_eq_true (p := d < x.n) (by omega), decide_eq_false (by omega)]; rfl
theorem less_split {off m : Nat} (hm : off < m) : ∀ {l : List Sp}, (∀ x ∈ l, (1 ≤ x.n ∧ x.n ≤ m) ∧ covF off m x = true) → less off (2 * m) l + less (off + m) (2 * m) l = waste (2 * m) l
  | [], _ => rfl
  | x :: l, h => by
    have ih := less_split hm (l := l) fun y hy => h y (by simp [hy])
    have hx := h x (by simp)
    have hc := cov_split hm hx.1 hx.2
    simp only [less, waste]
    rw [← ih, hc]
    cases covF (off + m) (2 * m) x <;> simp <;> omega
theorem less_filter {off m : Nat} : ∀ l : List Sp, waste m (l.filter (covF off m)) = less off m l
  | [] => rfl
  | x :: l => by
    rw [List.filter_cons, less, ← less_filter l]
    split <;> simp_all [waste]
/-- What a game has come to, at least. -/
structure RdH (c : Cf) (r : Rd) : Prop where
  n : ∀ x ∈ r.live, x.n ≤ ((sz c r.step : Nat) : Int)
  w : (r.step : Int) * (c.M : Int) - ((sz c r.step : Nat) : Int) + (c.G : Int) ≤ 2 * waste (sz c r.step) r.live
  q : ((r.asked * sz c r.step : Nat) : Int) ≤ (c.M : Int) * ((2 ^ (r.step + 1) : Nat) : Int) - 2 * (c.M : Int) + just (sz c r.step) r.live
  e : ∀ x ∈ r.live, x.a + x.n ≤ r.most
theorem nextF_h {c : Cf} (hc : c.Ok) {r : Rd} (hr : RdB c r) (hX : RdX c r) (h : RdH c r) (ht : (c.M : Int) < total r.live + sz c r.step) : RdH c (nextF c r) := by
  have e := sz_succ c r.step
  have hs := sz_pos hc r.step
  have hsp := less_split (off := r.off) (m := sz c r.step) hr.o (l := r.live) fun x hx => ⟨⟨((oneB_iff _).1 (hr.a.1 x hx)).1, h.n x hx⟩, (hX x hx).2⟩
  have hw := waste_eq (2 * sz c r.step) r.live
  have hw1 := waste_eq (sz c r.step) r.live
  have hlen : ((2 * sz c r.step : Nat) : Int) * (r.live.length : Int) = 2 * (((sz c r.step : Nat) : Int) * (r.live.length : Int)) := by rw [Int.natCast_mul, Int.mul_assoc]; rfl
  have hwst := h.w
  have hq := h.q
  have hj := just_le (sz c r.step) hr.a.1
  have hT := hr.t
  have hpow : (c.M : Int) * ((2 ^ (r.step + 1 + 1) : Nat) : Int) = 2 * ((c.M : Int) * ((2 ^ (r.step + 1) : Nat) : Int)) := by
    rw [Nat.pow_succ, Int.natCast_mul, ← Int.mul_assoc]
    show _ * (2 : Int) = _
    omega
  have hask : ((r.asked * (2 * sz c r.step) : Nat) : Int) = 2 * ((r.asked * sz c r.step : Nat) : Int) := by rw [Nat.mul_left_comm]; omega
  have hstep : (((r.step + 1 : Nat)) : Int) * (c.M : Int) = (r.step : Int) * (c.M : Int) + c.M := by rw [Int.natCast_add, Int.add_mul]; omega
  have main : ∀ off2 : Nat, 2 * less off2 (2 * sz c r.step) r.live ≥ waste (2 * sz c r.step) r.live → RdH c { r with step := r.step + 1, off := off2, live := r.live.filter (covF off2 (2 * sz c r.step)) } := by
    intro off2 hl
    have hf : ∀ x ∈ r.live.filter (covF off2 (2 * sz c r.step)), x ∈ r.live := fun x hx => (List.mem_filter.1 hx).1
    refine ⟨fun x hx => ?_, ?_, ?_, fun x hx => h.e x (hf x hx)⟩
    · have := h.n x (hf x hx)
      show x.n ≤ ((sz c (r.step + 1) : Nat) : Int)
      rw [e]; omega
    · show ((r.step + 1 : Nat) : Int) * (c.M : Int) - ((sz c (r.step + 1) : Nat) : Int) + (c.G : Int) ≤ 2 * waste (sz c (r.step + 1)) (r.live.filter _)
      rw [e, less_filter, hstep]
      omega
    · show ((r.asked * sz c (r.step + 1) : Nat) : Int) ≤ (c.M : Int) * ((2 ^ (r.step + 1 + 1) : Nat) : Int) - 2 * (c.M : Int) + just (sz c (r.step + 1)) (r.live.filter _)
      rw [e, hask, hpow, just_zero fun x hx => ?_]
      · omega
      · have := h.n x (hf x hx); omega
  unfold nextF
  split
  · exact main _ (by omega)
  · exact main _ (by omega)
theorem endF_h {c : Cf} (hc : c.Ok) : ∀ (k : Nat) {r : Rd}, RdB c r → RdX c r → RdH c r → c.L < k + r.step → RdH c (endF c k r) ∧ ((endF c k r).why = r.why ∨ ((endF c k r).why = 2 ∧ (endF c k r).step = c.L ∧ (c.M : Int) < total (endF c k r).live + sz c c.L))
  | 0, r, hB, _, _, hk => by have := hB.s; omega
  | k + 1, r, hB, hX, h, hk => by
    unfold endF
    split
    · split
      · rename_i h1 h2
        have e : r.step = c.L := by have := hB.s; omega
        exact ⟨⟨h.n, h.w, h.q, h.e⟩, .inr ⟨rfl, e, by rw [← e]; show (c.M : Int) < total r.live + _; omega⟩⟩
      · have n := nextF_ok hc hB (by omega)
        have := endF_h hc k n.1 (nextF_x hX) (nextF_h hc hB hX h (by omega)) (by rw [n.2.1]; omega)
        rw [n.2.2.1] at this; exact this
    · exact ⟨h, .inl rfl⟩
end Go.Ev.W
namespace Go.Ev.W
open Go.Ev Go.Ev.N

theorem cov_at {off m : Nat} (hm : 1 ≤ m) {x : Sp} (hc : covF off m x = true) : ∃ t : Int, x.a ≤ (off : Int) + m * t ∧ (off : Int) + m * t < x.a + x.n := by
  have h0 := of_decide_eq_true hc
  have hd0 := Int.emod_nonneg ((off : Int) - x.a) (b := (m : Int)) (by omega)
  have e := Int.mul_ediv_add_emod ((off : Int) - x.a) (m : Int)
  refine ⟨-(((off : Int) - x.a) / m), ?_⟩
  rw [Int.mul_neg]
  omega
theorem cov_far {off m : Nat} (hm : 1 ≤ m) {B : Int} : ∀ {l : List Sp} {t0 : Int}, Apart l → (∀ x ∈ l, covF off m x = true) → (∀ x ∈ l, x.a + x.n ≤ B) → (∀ x ∈ l, (off : Int) + m * (t0 - 1) < x.a) → 1 ≤ l.length → (off : Int) + m * (t0 + (l.length : Int) - 1) + 1 ≤ B
  | [], _, _, _, _, _, h => by simp at h
  | x :: l, t0, ha, hc, hB, ht, _ => by
    obtain ⟨ha2, _, _, h2⟩ := apart_mid (l1 := []) ha
    rw [List.nil_append] at ha2
    obtain ⟨t, h3, h4⟩ := cov_at hm (hc x (by simp))
    have h5 := ht x (by simp)
    have h6 := hB x (by simp)
    have hm0 : (0 : Int) < (m : Int) := by omega
    have ht0 : t0 ≤ t := by
      have : (m : Int) * (t0 - 1) < (m : Int) * t := by omega
      have := Int.lt_of_mul_lt_mul_left this (by omega)
      omega
    cases l with
    | nil =>
      have : (m : Int) * t0 ≤ (m : Int) * t := Int.mul_le_mul_of_nonneg_left ht0 (by omega)
      simp only [List.length_cons, List.length_nil]
      rw [show t0 + ((0 + 1 : Nat) : Int) - 1 = t0 by omega]
      omega
    | cons y l =>
      have ih := cov_far hm (B := B) (l := y :: l) (t0 := t + 1) ha2 (fun z hz => hc z (List.mem_cons_of_mem _ hz)) (fun z hz => hB z (List.mem_cons_of_mem _ hz)) (fun z hz => by
        have := h2 z hz
        rw [show t + 1 - 1 = t by omega]; omega) (by simp)
      have : (m : Int) * (t0 + ((x :: y :: l).length : Int) - 1) ≤ (m : Int) * (t + 1 + ((y :: l).length : Int) - 1) := Int.mul_le_mul_of_nonneg_left (by simp only [List.length_cons]; omega) (by omega)
      omega
/-- A game that is over has driven who answered that high. -/
theorem high {c : Cf} (hc : c.Ok) {r : Rd} (hr : RdB c r) (hX : RdX c r) (h : RdH c r) (hs : r.step = c.L) (ht : (c.M : Int) < total r.live + sz c c.L) : (c.H : Int) - 3 * c.N ≤ r.most := by
  have hN : sz c c.L = c.N := by rw [hc.n]; rfl
  have hw := h.w
  have he := waste_eq (sz c r.step) r.live
  rw [hs, hN] at hw he
  rw [hN] at ht
  have hnM := hc.nM
  have hH := hc.h
  have hN1 := sz_pos hc c.L
  rw [hN] at hN1
  have hlen : 1 ≤ r.live.length := by
    rcases Nat.eq_zero_or_pos r.live.length with h0 | h0
    · have := List.eq_nil_of_length_eq_zero h0
      rw [this] at ht
      simp [total] at ht
      omega
    · exact h0
  have hf := cov_far (off := r.off) (m := c.N) hN1 (B := r.most) (l := r.live) (t0 := 0) hr.a (fun x hx => by have := (hX x hx).2; rw [hs, hN] at this; exact this) h.e (fun x hx => by
    have := (oneB_iff _).1 (hr.a.1 x hx)
    have ho := hr.o
    rw [hs, hN] at ho
    rw [show (0 : Int) - 1 = -1 by rfl, Int.mul_neg, Int.mul_one]; omega) hlen
  have e2 : (c.N : Int) * (0 + (r.live.length : Int) - 1) = (c.N : Int) * (r.live.length : Int) - c.N := by
    rw [Int.zero_add, Int.mul_sub, Int.mul_one]
  rw [e2] at hf
  obtain ⟨q, hq⟩ : ∃ q, c.M = 2 * q := by
    obtain ⟨q, e⟩ := hc.m
    exact ⟨max c.N c.Pg * q, by rw [e, Nat.mul_assoc]⟩
  have hLM : (c.L : Int) * (c.M : Int) = 2 * ((c.L * (c.M / 2) : Nat) : Int) := by
    rw [hq, Nat.mul_div_cancel_left _ (by omega), Int.natCast_mul, Int.natCast_mul, Int.mul_left_comm]; rfl
  rw [hLM] at hw
  generalize c.L * (c.M / 2) = z at *
  generalize (c.N : Int) * (r.live.length : Int) = y at *
  omega
/-- It does not last. -/
theorem short {c : Cf} (hc : c.Ok) {r : Rd} (hr : RdB c r) (h : RdH c r) : r.asked * c.G < 2 * c.M := by
  have hq := h.q
  have hj := just_le (sz c r.step) hr.a.1
  have hT := hr.t
  have hm1 := hc.m1
  have e1 : r.asked * sz c r.step = (r.asked * c.G) * 2 ^ r.step := by unfold sz; rw [Nat.mul_assoc]
  have e2 : (c.M : Int) * ((2 ^ (r.step + 1) : Nat) : Int) = ((2 * c.M * 2 ^ r.step : Nat) : Int) := by
    rw [Nat.pow_succ, Int.natCast_mul, Int.natCast_mul, Int.natCast_mul]
    show (c.M : Int) * (_ * 2) = 2 * (c.M : Int) * _
    rw [Int.mul_comm 2 (c.M : Int), Int.mul_assoc, Int.mul_comm 2]
  rw [e1, e2] at hq
  have : (r.asked * c.G) * 2 ^ r.step < (2 * c.M) * 2 ^ r.step := by omega
  exact Nat.lt_of_mul_lt_mul_right this
/-- What an answer must be. -/
structure GoodAt (l : List Sp) (n : Nat) (y : Int) : Prop where
  z : 0 ≤ y
  o : ∀ x ∈ l, x.a + x.n ≤ y ∨ y + n ≤ x.a
theorem toldF_h {c : Cf} (hc : c.Ok) {r : Rd} (hr : RdOk c r) (hX : RdX c r) (h : RdH c r) (hw : r.why = 0) {y : Int} (hy : GoodAt r.live (sz c r.step) y) (hb : y ≤ 1000000) :
    RdH c (toldF c r y) ∧ (toldF c r y).most = max r.most (y + sz c r.step) ∧ ((toldF c r y).why = 0 ∨ ((toldF c r y).why = 2 ∧ (toldF c r y).step = c.L ∧ (c.M : Int) < total (toldF c r y).live + sz c c.L)) := by
  have hs := sz_pos hc r.step
  have hs2 := hc.sz_le hr.s
  have hs3 := hc.nM
  have hs4 := hc.mH
  have h1 : oneB ⟨y, sz c r.step⟩ = true := (oneB_iff _).2 ⟨by show (1 : Int) ≤ ((sz c r.step : Nat) : Int); omega, by show ((sz c r.step : Nat) : Int) ≤ _; omega, hy.z, by show y ≤ 1099511627776 - ((sz c r.step : Nat) : Int); omega⟩
  have hno : (r.live.any fun x => overB x ⟨y, sz c r.step⟩) = false := by
    rw [List.any_eq_false]
    intro x hx
    rw [over_iff]
    simp only
    have := hy.o x hx
    omega
  rcases (put_cases hr.a ⟨y, sz c r.step⟩).2 with ⟨_, _, l1, l2, e, e2, q3, q4⟩ | ⟨h5 | h5, _⟩
  · have ht2 := hr.t2 hw
    have hm := hr.m
    have hmem : ∀ x ∈ l1 ++ (⟨y, sz c r.step⟩ : Sp) :: l2, x = ⟨y, sz c r.step⟩ ∨ x ∈ r.live := fun x hx => by
      rw [e]
      simp only [List.mem_append, List.mem_cons] at hx ⊢
      rcases hx with h | h | h
      · exact .inr (.inl h)
      · exact .inl h
      · exact .inr (.inr h)
    have hsG : c.G ≤ sz c r.step := by
      have : sz c 0 ≤ sz c r.step := sz_mono (by omega)
      have e0 : sz c 0 = c.G := by simp [sz]
      omega
    obtain ⟨r1, hr1⟩ : ∃ r1 : Rd, (⟨r.step, r.off, l1 ++ ⟨y, sz c r.step⟩ :: l2, max r.most (y + sz c r.step), r.asked + 1, r.why⟩ : Rd) = r1 := ⟨_, rfl⟩
    have hB1 : RdB c r1 := by
      have hpa := put_apart hr.a ⟨y, sz c r.step⟩
      rw [e2] at hpa
      rw [← hr1]
      refine ⟨hr.s, hr.o, hpa.1, ?_, by show 0 ≤ max _ _ ∧ max _ _ ≤ _; omega, hr.w⟩
      show total (l1 ++ _ :: l2) ≤ _
      rw [total_put, ← e]; exact ht2
    have hX1 : RdX c r1 := by
      rw [← hr1]
      intro x hx
      rcases hmem x hx with rfl | hm'
      · refine ⟨by show (c.G : Int) ≤ ((sz c r.step : Nat) : Int); omega, ?_⟩
        show covF r.off (sz c r.step) _ = true
        unfold covF
        exact decide_eq_true (Int.emod_lt_of_pos _ (by omega))
      · exact hX x hm'
    have hH1 : RdH c r1 := by
      rw [← hr1]
      refine ⟨fun x hx => ?_, ?_, ?_, fun x hx => ?_⟩
      · rcases hmem x hx with rfl | hm'
        · exact Int.le_refl _
        · exact h.n x hm'
      · show (r.step : Int) * (c.M : Int) - ((sz c r.step : Nat) : Int) + (c.G : Int) ≤ 2 * waste (sz c r.step) (l1 ++ _ :: l2)
        have hw2 := h.w
        rw [e, waste_app] at hw2
        rw [waste_app, waste]
        show _ ≤ 2 * (waste (sz c r.step) l1 + (((sz c r.step : Nat) : Int) - ((sz c r.step : Nat) : Int) + waste (sz c r.step) l2))
        omega
      · show (((r.asked + 1) * sz c r.step : Nat) : Int) ≤ (c.M : Int) * ((2 ^ (r.step + 1) : Nat) : Int) - 2 * (c.M : Int) + just (sz c r.step) (l1 ++ _ :: l2)
        have hq := h.q
        rw [e, just_app] at hq
        rw [just_app, just, if_pos rfl, Nat.succ_mul]
        omega
      · show x.a + x.n ≤ max r.most (y + sz c r.step)
        rcases hmem x hx with rfl | hm'
        · show y + ((sz c r.step : Nat) : Int) ≤ _; omega
        · have := h.e x hm'; omega
    have hE : toldF c r y = endF c (c.L + 1 - r.step) r1 := by
      unfold toldF; rw [if_neg (by omega), e2, if_neg (by simp), hr1]
    have := endF_h hc (c.L + 1 - r.step) hB1 hX1 hH1 (by rw [← hr1]; show c.L < c.L + 1 - r.step + r.step; have := hr.s; omega)
    rw [hE]
    refine ⟨this.1, by rw [endF_most, ← hr1], ?_⟩
    rcases this.2 with h' | h'
    · left; rw [h', ← hr1]; exact hw
    · exact .inr h'
  · rw [h1] at h5; cases h5
  · rw [hno] at h5; cases h5
end Go.Ev.W
namespace Go.Ev.W
open Go.Ev Go.Ev.N

def bump (x : Sp) (n b : Int) : Nat → Int → Int
  | 0, y => y
  | f + 1, y => if y < x.a + x.n ∧ x.a < y + n then bump x n b f (y + b) else y
def bumpF (x : Sp) (n b y : Int) : Int := bump x n b ((x.a + x.n - y).toNat + 1) y
theorem bump_spec (x : Sp) {n b : Int} (hb : 1 ≤ b) : ∀ (f : Nat) (y : Int), (x.a + x.n - y).toNat < f → y ≤ bump x n b f y ∧ ¬ (bump x n b f y < x.a + x.n ∧ x.a < bump x n b f y + n) ∧ (bump x n b f y = y ∨ (y < x.a + x.n ∧ x.a < y + n ∧ bump x n b f y < x.a + x.n + b))
  | 0, y, h => by omega
  | f + 1, y, h => by
    unfold bump
    split
    · rename_i hc
      have ih := bump_spec x (n := n) hb f (y + b) (by omega)
      refine ⟨by omega, ih.2.1, .inr ⟨hc.1, hc.2, ?_⟩⟩
      rcases ih.2.2 with h1 | h1
      · omega
      · exact h1.2.2
    · rename_i hc
      exact ⟨Int.le_refl _, hc, .inl rfl⟩
def firstF (l : List Sp) (n b y : Int) : Int := l.foldl (fun y x => bumpF x n b y) y
theorem firstF_spec {n b : Int} (hn : 1 ≤ n) (hb : 1 ≤ b) {B : Int} : ∀ (l p : List Sp) (y : Int), Apart (p ++ l) → (∀ x ∈ p ++ l, x.a + x.n ≤ B) → 0 ≤ y → (∀ x ∈ p, x.a + x.n ≤ y ∨ y + n ≤ x.a) →
    0 ≤ firstF l n b y ∧ (∀ x ∈ p ++ l, x.a + x.n ≤ firstF l n b y ∨ firstF l n b y + n ≤ x.a) ∧ (firstF l n b y = y ∨ firstF l n b y < B + b)
  | [], p, y, _, _, h0, hp => ⟨h0, fun x hx => hp x (by simpa using hx), .inl rfl⟩
  | x :: l, p, y, ha, hB, h0, hp => by
    have hs := bump_spec x (n := n) hb ((x.a + x.n - y).toNat + 1) y (by omega)
    obtain ⟨z, hz⟩ : ∃ z, bumpF x n b y = z := ⟨_, rfl⟩
    rw [show bump x n b ((x.a + x.n - y).toNat + 1) y = z from hz] at hs
    have e : firstF (x :: l) n b y = firstF l n b z := by unfold firstF; rw [List.foldl_cons, hz]
    have hx := (oneB_iff _).1 (ha.1 x (by simp))
    obtain ⟨_, _, hpx, _⟩ := apart_mid ha
    have hp' : ∀ w ∈ p ++ [x], w.a + w.n ≤ z ∨ z + n ≤ w.a := by
      intro w hw
      rcases List.mem_append.1 hw with hw | hw
      · rcases hs.2.2 with h1 | h1
        · rw [h1]; exact hp w hw
        · have hwx := hpx w hw
          rcases hp w hw with h2 | h2
          · left; omega
          · have hw1 := (oneB_iff _).1 (ha.1 w (by simp [hw]))
            omega
      · rw [List.mem_singleton] at hw; subst hw
        have := hs.2.1
        omega
    have ih := firstF_spec hn hb l (p ++ [x]) z (by simpa using ha) (by simpa using hB) (by omega) hp'
    rw [e]
    refine ⟨ih.1, by simpa using ih.2.1, ?_⟩
    have hBx := hB x (by simp)
    rcases ih.2.2 with h1 | h1
    · rcases hs.2.2 with h2 | h2
      · left; omega
      · right; omega
    · exact .inr h1
theorem first_good {l : List Sp} (ha : Apart l) {B : Int} (hB : ∀ x ∈ l, x.a + x.n ≤ B) (hB0 : 0 ≤ B) {n : Nat} (hn : 1 ≤ n) {b y : Int} (hb : 1 ≤ b) (hy : 0 ≤ y) : GoodAt l n (firstF l n b y) ∧ firstF l n b y ≤ B + b + y := by
  have := firstF_spec (n := (n : Int)) (b := b) (by omega) hb (B := B) l [] y ha hB hy (by simp)
  refine ⟨⟨this.1, this.2.1⟩, ?_⟩
  rcases this.2.2 with h | h <;> omega
/-- The best gap: where the last one ends, where the best begins, how great it is. -/
def bestSt (n : Int) (st : Int × Int × Int) (x : Sp) : Int × Int × Int :=
  if x.a - st.1 ≥ n ∧ (st.2.1 < 0 ∨ x.a - st.1 < st.2.2) then (x.a + x.n, st.1, x.a - st.1) else (x.a + x.n, st.2.1, st.2.2)
def bestA (l : List Sp) (n : Int) (i : Nat) : Int × Int × Int := (l.take i).foldl (bestSt n) (0, -1, 0)
theorem bestA_succ {l : List Sp} {n : Int} {i : Nat} (h : i < l.length) : bestA l n (i + 1) = bestSt n (bestA l n i) l[i] := by
  unfold bestA; rw [List.take_succ_eq_append_getElem h, List.foldl_append]; rfl
def bestF (l : List Sp) (n : Int) : Int := if (bestA l n l.length).2.1 < 0 then (bestA l n l.length).1 else (bestA l n l.length).2.1
theorem bestA_spec {l : List Sp} (ha : Apart l) {B : Int} (hB : ∀ x ∈ l, x.a + x.n ≤ B) (hB0 : 0 ≤ B) {n : Int} (hn : 1 ≤ n) : ∀ i, i ≤ l.length →
    0 ≤ (bestA l n i).1 ∧ (bestA l n i).1 ≤ B ∧ (∀ j (h : j < l.length), j < i → l[j].a + l[j].n ≤ (bestA l n i).1) ∧ (∀ j (h : j < l.length), i ≤ j → (bestA l n i).1 ≤ l[j].a) ∧
    ((bestA l n i).2.1 = -1 ∨ (0 ≤ (bestA l n i).2.1 ∧ n ≤ (bestA l n i).2.2 ∧ (bestA l n i).2.1 + (bestA l n i).2.2 ≤ (bestA l n i).1 ∧ (∀ j (h : j < l.length), j < i → l[j].a + l[j].n ≤ (bestA l n i).2.1 ∨ (bestA l n i).2.1 + (bestA l n i).2.2 ≤ l[j].a))) ∧
    -1 ≤ (bestA l n i).2.2 ∧ (bestA l n i).2.2 ≤ B
  | 0, _ => by
    refine ⟨by simp [bestA], by simpa [bestA] using hB0, fun j _ h => by omega, fun j h _ => ?_, .inl rfl, by simp [bestA], by simpa [bestA] using hB0⟩
    have := (oneB_iff _).1 (ha.1 _ (List.getElem_mem h))
    show (0 : Int) ≤ _; omega
  | i + 1, hi => by
    have hlt : i < l.length := by omega
    obtain ⟨h1, h2, h3, h4, h5, h6, h7⟩ := bestA_spec ha hB hB0 hn i (by omega)
    rw [bestA_succ hlt]
    obtain ⟨st, hst⟩ : ∃ st, bestA l n i = st := ⟨_, rfl⟩
    rw [hst] at h1 h2 h3 h4 h5 h6 h7 ⊢
    have hx := (oneB_iff _).1 (ha.1 _ (List.getElem_mem hlt))
    have hxB := hB _ (List.getElem_mem hlt)
    have h4i := h4 i hlt (Nat.le_refl _)
    have later : ∀ j (h : j < l.length), i + 1 ≤ j → l[i].a + l[i].n ≤ l[j].a := fun j h hj => List.pairwise_iff_getElem.1 ha.2 i j hlt h (by omega)
    have before : ∀ j (h : j < l.length), j < i + 1 → l[j].a + l[j].n ≤ l[i].a + l[i].n := fun j h hj => by
      rcases Nat.lt_or_ge j i with h' | h'
      · have := List.pairwise_iff_getElem.1 ha.2 j i h hlt h'; omega
      · have : j = i := by omega
        subst this; omega
    have st1 : (bestSt n st l[i]).1 = l[i].a + l[i].n := by unfold bestSt; split <;> rfl
    refine ⟨by rw [st1]; omega, by rw [st1]; exact hxB, fun j h hj => by rw [st1]; exact before j h hj, fun j h hj => by rw [st1]; exact later j h hj, ?_, ?_⟩
    · unfold bestSt
      split
      · rename_i hc
        right
        refine ⟨h1, hc.1, by show st.1 + (l[i].a - st.1) ≤ l[i].a + l[i].n; omega, fun j h hj => ?_⟩
        rcases Nat.lt_or_ge j i with h' | h'
        · left; exact h3 j h h'
        · have : j = i := by omega
          subst this; right; show st.1 + (l[j].a - st.1) ≤ l[j].a; omega
      · rcases h5 with h5 | ⟨g1, g2, g3, g4⟩
        · exact .inl h5
        · right
          refine ⟨g1, g2, by show st.2.1 + st.2.2 ≤ l[i].a + l[i].n; omega, fun j h hj => ?_⟩
          rcases Nat.lt_or_ge j i with h' | h'
          · exact g4 j h h'
          · have : j = i := by omega
            subst this; right; show st.2.1 + st.2.2 ≤ l[j].a; omega
    · unfold bestSt
      split
      · rename_i hc; exact ⟨by show -1 ≤ l[i].a - st.1; omega, by show l[i].a - st.1 ≤ B; omega⟩
      · exact ⟨h6, h7⟩
theorem best_good {l : List Sp} (ha : Apart l) {B : Int} (hB : ∀ x ∈ l, x.a + x.n ≤ B) (hB0 : 0 ≤ B) {n : Nat} (hn : 1 ≤ n) : GoodAt l n (bestF l n) ∧ bestF l n ≤ B := by
  obtain ⟨h1, h2, h3, _, h5, _, h7⟩ := bestA_spec ha hB hB0 (n := (n : Int)) (by omega) l.length (Nat.le_refl _)
  unfold bestF
  split
  · refine ⟨⟨h1, fun x hx => ?_⟩, h2⟩
    obtain ⟨j, hj, rfl⟩ := List.getElem_of_mem hx
    exact .inl (h3 j hj hj)
  · rcases h5 with h5 | ⟨g1, g2, g3, g4⟩
    · omega
    · refine ⟨⟨g1, fun x hx => ?_⟩, by omega⟩
      obtain ⟨j, hj, rfl⟩ := List.getElem_of_mem hx
      have := g4 j hj hj
      omega

set_option maxHeartbeats 1000000 in
theorem first_told {l : List Sp} (ha : Apart l) (hl : l.length ≤ 100000) {B : Int} (hB : ∀ x ∈ l, x.a + x.n ≤ B) (hB0 : 0 ≤ B ∧ B ≤ 1099511627776) {n : Nat} (hn : 1 ≤ n ∧ n ≤ 100000) {b y : Int} (hb : 1 ≤ b ∧ b ≤ 100000) (hy : 0 ≤ y ∧ y ≤ 100000) : Told P T law22_first [] [lS l, i64 n, i64 y, i64 b] (i64 (firstF l n b y)) [] := by
  have hml : (l.map eS).length = l.length := by simp
  have hpre : ∀ i, i ≤ l.length → 0 ≤ firstF (l.take i) n b y ∧ firstF (l.take i) n b y ≤ 1099511827776 := fun i hi => by
    have hap : Apart (l.take i) := ⟨fun x hx => ha.1 x (List.mem_of_mem_take hx), ha.2.sublist (List.take_sublist i l)⟩
    have := first_good hap (fun x hx => hB x (List.mem_of_mem_take hx)) hB0.1 hn.1 hb.1 hy.1
    exact ⟨this.1.z, by omega⟩
  refine told_of_ev (fn := law22_first_fn) tabOk mixed (by kernel_rfl) (by kernel_rfl) (by kernel_rfl) (by kernel_rfl) ?_
  ((repeat ((conv => whnf); first | (refine Sure.mk (by kernel_rfl) ?_) | (refine IfB.tt rfl ?_) | (refine IfB.ff rfl ?_) | (refine IfB.tt ?_ ?_; (focus (simp <;> fail))) | (refine IfB.ff ?_ ?_; (focus (simp <;> fail))) | (refine fits (wrap64 ?_ ?_) ?_; (focus omega); (focus omega)) | (refine fits (wrapU64 ?_ ?_) ?_; (focus omega); (focus omega)) | (refine Need.mk ?_ ?_; (focus omega)) | (refine InB.mk ?_ ?_ ?_; (focus omega); (focus omega)))); (try (conv => whnf)); refine LoopN.mk ⟨[0,1,3,9,10], fun vs L => ∃ i : Nat, vs = [lS l, i64 n, i64 b, i64 (firstF (l.take i) n b y), i64 i] ∧ L = [] ∧ i ≤ l.length, fun vs L => match vs with | [_, _, _, _, .int _ i] => l.length - i.toNat | _ => 0, [], [], rfl, ⟨0, rfl, rfl, by omega⟩, ?_⟩)
  rintro vs L ⟨i, rfl, rfl, hi⟩
  have hp := hpre i hi
  ((repeat ((conv => whnf); first | (refine Sure.mk (by kernel_rfl) ?_) | (refine IfB.tt rfl ?_) | (refine IfB.ff rfl ?_) | (refine IfB.tt ?_ ?_; (focus (simp <;> fail))) | (refine IfB.ff ?_ ?_; (focus (simp <;> fail))) | (refine fits (wrap64 ?_ ?_) ?_; (focus omega); (focus omega)) | (refine fits (wrapU64 ?_ ?_) ?_; (focus omega); (focus omega)) | (refine Need.mk ?_ ?_; (focus omega)) | (refine InB.mk ?_ ?_ ?_; (focus omega); (focus omega)))); (try (conv => whnf)); first | refine IfB.dec (fun h1 => ?_) (fun h1 => ?_) | refine IfB.eq (fun h1 => ?_) (fun h1 => ?_) | refine IfB.ne (fun h1 => ?_) (fun h1 => ?_) | refine IfB.mk (fun h1 => ?_) (fun h1 => ?_))
  · have hlt : i < l.length := by omega
    have hx := (oneB_iff _).1 (ha.1 _ (List.getElem_mem hlt))
    have hxB := hB _ (List.getElem_mem hlt)
    have hs : firstF (l.take (i + 1)) n b y = bumpF l[i] n b (firstF (l.take i) n b y) := by
      unfold firstF; rw [List.take_succ_eq_append_getElem hlt, List.foldl_append]; rfl
    obtain ⟨y0, hy0⟩ : ∃ y0, firstF (l.take i) n b y = y0 := ⟨_, rfl⟩
    rw [hy0] at hp hs ⊢
    obtain ⟨W, hW⟩ : ∃ W, bumpF l[i] n b y0 = W := ⟨_, rfl⟩
    rw [hW] at hs
    ((repeat ((conv => whnf); first | (refine Sure.mk (by kernel_rfl) ?_) | (refine IfB.tt rfl ?_) | (refine IfB.ff rfl ?_) | (refine IfB.tt ?_ ?_; (focus (simp <;> fail))) | (refine IfB.ff ?_ ?_; (focus (simp <;> fail))) | (refine fits (wrap64 ?_ ?_) ?_; (focus omega); (focus omega)) | (refine fits (wrapU64 ?_ ?_) ?_; (focus omega); (focus omega)) | (refine Need.mk ?_ ?_; (focus omega)) | (refine InB.mk ?_ ?_ ?_; (focus omega); (focus omega)))); (try (conv => whnf)); refine LoopN.mk ⟨[0,1,3,9,10], fun vs L => ∃ (z : Int) (f : Nat), vs = [lS l, i64 n, i64 b, i64 z, i64 i] ∧ L = [] ∧ y0 ≤ z ∧ z ≤ 1099512027776 ∧ (l[i].a + l[i].n - z).toNat < f ∧ bump l[i] n b f z = W, fun vs L => match vs with | [_, _, _, .int _ i, _] => 1099511900000 - i.toNat | _ => 0, [], [], rfl, ⟨y0, _, rfl, rfl, Int.le_refl _, by omega, Nat.lt_succ_self _, hW⟩, ?_⟩)
    rintro vs L ⟨z, f, rfl, rfl, hz1, hz2, hf, hbz⟩
    obtain ⟨f, rfl⟩ : ∃ g, f = g + 1 := ⟨f - 1, by omega⟩
    rw [bump] at hbz
    ((repeat ((conv => whnf); first | (refine Sure.mk (by kernel_rfl) ?_) | (refine IfB.tt rfl ?_) | (refine IfB.ff rfl ?_) | (refine IfB.tt ?_ ?_; (focus (simp <;> fail))) | (refine IfB.ff ?_ ?_; (focus (simp <;> fail))) | (refine fits (wrap64 ?_ ?_) ?_; (focus omega); (focus omega)) | (refine fits (wrapU64 ?_ ?_) ?_; (focus omega); (focus omega)) | (refine Need.mk ?_ ?_; (focus omega)) | (refine InB.mk ?_ ?_ ?_; (focus omega); (focus omega)))); (try (conv => whnf)); refine idx_map (hlt) ?_)
    ((repeat ((conv => whnf); first | (refine Sure.mk (by kernel_rfl) ?_) | (refine IfB.tt rfl ?_) | (refine IfB.ff rfl ?_) | (refine IfB.tt ?_ ?_; (focus (simp <;> fail))) | (refine IfB.ff ?_ ?_; (focus (simp <;> fail))) | (refine fits (wrap64 ?_ ?_) ?_; (focus omega); (focus omega)) | (refine fits (wrapU64 ?_ ?_) ?_; (focus omega); (focus omega)) | (refine Need.mk ?_ ?_; (focus omega)) | (refine InB.mk ?_ ?_ ?_; (focus omega); (focus omega)))); (try (conv => whnf)); refine idx_map (hlt) ?_)
    ((repeat ((conv => whnf); first | (refine Sure.mk (by kernel_rfl) ?_) | (refine IfB.tt rfl ?_) | (refine IfB.ff rfl ?_) | (refine IfB.tt ?_ ?_; (focus (simp <;> fail))) | (refine IfB.ff ?_ ?_; (focus (simp <;> fail))) | (refine fits (wrap64 ?_ ?_) ?_; (focus omega); (focus omega)) | (refine fits (wrapU64 ?_ ?_) ?_; (focus omega); (focus omega)) | (refine Need.mk ?_ ?_; (focus omega)) | (refine InB.mk ?_ ?_ ?_; (focus omega); (focus omega)))); (try (conv => whnf)); first | refine IfB.dec (fun h2 => ?_) (fun h2 => ?_) | refine IfB.eq (fun h2 => ?_) (fun h2 => ?_) | refine IfB.ne (fun h2 => ?_) (fun h2 => ?_) | refine IfB.mk (fun h2 => ?_) (fun h2 => ?_))
    · ((repeat ((conv => whnf); first | (refine Sure.mk (by kernel_rfl) ?_) | (refine IfB.tt rfl ?_) | (refine IfB.ff rfl ?_) | (refine IfB.tt ?_ ?_; (focus (simp <;> fail))) | (refine IfB.ff ?_ ?_; (focus (simp <;> fail))) | (refine fits (wrap64 ?_ ?_) ?_; (focus omega); (focus omega)) | (refine fits (wrapU64 ?_ ?_) ?_; (focus omega); (focus omega)) | (refine Need.mk ?_ ?_; (focus omega)) | (refine InB.mk ?_ ?_ ?_; (focus omega); (focus omega)))); (try (conv => whnf)); refine idx_map (hlt) ?_)
      ((repeat ((conv => whnf); first | (refine Sure.mk (by kernel_rfl) ?_) | (refine IfB.tt rfl ?_) | (refine IfB.ff rfl ?_) | (refine IfB.tt ?_ ?_; (focus (simp <;> fail))) | (refine IfB.ff ?_ ?_; (focus (simp <;> fail))) | (refine fits (wrap64 ?_ ?_) ?_; (focus omega); (focus omega)) | (refine fits (wrapU64 ?_ ?_) ?_; (focus omega); (focus omega)) | (refine Need.mk ?_ ?_; (focus omega)) | (refine InB.mk ?_ ?_ ?_; (focus omega); (focus omega)))); (try (conv => whnf)); first | refine IfB.dec (fun h3 => ?_) (fun h3 => ?_) | refine IfB.eq (fun h3 => ?_) (fun h3 => ?_) | refine IfB.ne (fun h3 => ?_) (fun h3 => ?_) | refine IfB.mk (fun h3 => ?_) (fun h3 => ?_))
      · rw [if_pos ⟨h2, h3⟩] at hbz
        ((repeat ((conv => whnf); first | (refine Sure.mk (by kernel_rfl) ?_) | (refine IfB.tt rfl ?_) | (refine IfB.ff rfl ?_) | (refine IfB.tt ?_ ?_; (focus (simp <;> fail))) | (refine IfB.ff ?_ ?_; (focus (simp <;> fail))) | (refine fits (wrap64 ?_ ?_) ?_; (focus omega); (focus omega)) | (refine fits (wrapU64 ?_ ?_) ?_; (focus omega); (focus omega)) | (refine Need.mk ?_ ?_; (focus omega)) | (refine InB.mk ?_ ?_ ?_; (focus omega); (focus omega)))); (try (conv => whnf)); refine ⟨[], [], rfl, ⟨z + b, f, rfl, rfl, by omega, by omega, by omega, hbz⟩, (by omega : 1099511900000 - (z + b).toNat < 1099511900000 - z.toNat)⟩)
      · rw [if_neg (by omega)] at hbz
        rw [← hbz] at hs
        ((repeat ((conv => whnf); first | (refine Sure.mk (by kernel_rfl) ?_) | (refine IfB.tt rfl ?_) | (refine IfB.ff rfl ?_) | (refine IfB.tt ?_ ?_; (focus (simp <;> fail))) | (refine IfB.ff ?_ ?_; (focus (simp <;> fail))) | (refine fits (wrap64 ?_ ?_) ?_; (focus omega); (focus omega)) | (refine fits (wrapU64 ?_ ?_) ?_; (focus omega); (focus omega)) | (refine Need.mk ?_ ?_; (focus omega)) | (refine InB.mk ?_ ?_ ?_; (focus omega); (focus omega)))); (try (conv => whnf)); refine ⟨[], [], rfl, ⟨i + 1, by rw [hs]; rfl, rfl, hlt⟩, (by omega : l.length - ((i : Int) + 1).toNat < l.length - (i : Int).toNat)⟩)
    · rw [if_neg (by omega)] at hbz
      rw [← hbz] at hs
      ((repeat ((conv => whnf); first | (refine Sure.mk (by kernel_rfl) ?_) | (refine IfB.tt rfl ?_) | (refine IfB.ff rfl ?_) | (refine IfB.tt ?_ ?_; (focus (simp <;> fail))) | (refine IfB.ff ?_ ?_; (focus (simp <;> fail))) | (refine fits (wrap64 ?_ ?_) ?_; (focus omega); (focus omega)) | (refine fits (wrapU64 ?_ ?_) ?_; (focus omega); (focus omega)) | (refine Need.mk ?_ ?_; (focus omega)) | (refine InB.mk ?_ ?_ ?_; (focus omega); (focus omega)))); (try (conv => whnf)); refine ⟨[], [], rfl, ⟨i + 1, by rw [hs]; rfl, rfl, hlt⟩, (by omega : l.length - ((i : Int) + 1).toNat < l.length - (i : Int).toNat)⟩)
  · have e : i = l.length := by omega
    subst e
    rw [List.take_length]
    ((repeat ((conv => whnf); first | (refine Sure.mk (by kernel_rfl) ?_) | (refine IfB.tt rfl ?_) | (refine IfB.ff rfl ?_) | (refine IfB.tt ?_ ?_; (focus (simp <;> fail))) | (refine IfB.ff ?_ ?_; (focus (simp <;> fail))) | (refine fits (wrap64 ?_ ?_) ?_; (focus omega); (focus omega)) | (refine fits (wrapU64 ?_ ?_) ?_; (focus omega); (focus omega)) | (refine Need.mk ?_ ?_; (focus omega)) | (refine InB.mk ?_ ?_ ?_; (focus omega); (focus omega)))); (try (conv => whnf)); exact RetN.mk ⟨[], rfl, rfl, rfl⟩)
set_option maxHeartbeats 1000000 in
theorem best_told {l : List Sp} (ha : Apart l) (hl : l.length ≤ 100000) {B : Int} (hB : ∀ x ∈ l, x.a + x.n ≤ B) (hB0 : 0 ≤ B ∧ B ≤ 1099511627776) {n : Nat} (hn : 1 ≤ n ∧ n ≤ 100000) : Told P T law22_best [] [lS l, i64 n] (i64 (bestF l n)) [] := by
  have hml : (l.map eS).length = l.length := by simp
  refine told_of_ev (fn := law22_best_fn) tabOk mixed (by kernel_rfl) (by kernel_rfl) (by kernel_rfl) (by kernel_rfl) ?_
  ((repeat ((conv => whnf); first | (refine Sure.mk (by kernel_rfl) ?_) | (refine IfB.tt rfl ?_) | (refine IfB.ff rfl ?_) | (refine IfB.tt ?_ ?_; (focus (simp <;> fail))) | (refine IfB.ff ?_ ?_; (focus (simp <;> fail))) | (refine fits (wrap64 ?_ ?_) ?_; (focus omega); (focus omega)) | (refine fits (wrapU64 ?_ ?_) ?_; (focus omega); (focus omega)) | (refine Need.mk ?_ ?_; (focus omega)) | (refine InB.mk ?_ ?_ ?_; (focus omega); (focus omega)))); (try (conv => whnf)); refine LoopN.mk ⟨[0,1,5,6,7,8], fun vs L => ∃ i : Nat, vs = [lS l, i64 n, i64 (bestA l n i).1, i64 (bestA l n i).2.1, i64 (bestA l n i).2.2, i64 i] ∧ L = [] ∧ i ≤ l.length, fun vs L => match vs with | [_, _, _, _, _, .int _ i] => l.length - i.toNat | _ => 0, [], [], rfl, ⟨0, rfl, rfl, by omega⟩, ?_⟩)
  rintro vs L ⟨i, rfl, rfl, hi⟩
  obtain ⟨h1, h2, _, h4, _, _, _⟩ := bestA_spec ha hB hB0.1 (n := (n : Int)) (by omega) i hi
  ((repeat ((conv => whnf); first | (refine Sure.mk (by kernel_rfl) ?_) | (refine IfB.tt rfl ?_) | (refine IfB.ff rfl ?_) | (refine IfB.tt ?_ ?_; (focus (simp <;> fail))) | (refine IfB.ff ?_ ?_; (focus (simp <;> fail))) | (refine fits (wrap64 ?_ ?_) ?_; (focus omega); (focus omega)) | (refine fits (wrapU64 ?_ ?_) ?_; (focus omega); (focus omega)) | (refine Need.mk ?_ ?_; (focus omega)) | (refine InB.mk ?_ ?_ ?_; (focus omega); (focus omega)))); (try (conv => whnf)); first | refine IfB.dec (fun g1 => ?_) (fun g1 => ?_) | refine IfB.eq (fun g1 => ?_) (fun g1 => ?_) | refine IfB.ne (fun g1 => ?_) (fun g1 => ?_) | refine IfB.mk (fun g1 => ?_) (fun g1 => ?_))
  · have hlt : i < l.length := by omega
    have hx := (oneB_iff _).1 (ha.1 _ (List.getElem_mem hlt))
    have h4i := h4 i hlt (Nat.le_refl _)
    have hs := bestA_succ (n := (n : Int)) hlt
    ((repeat ((conv => whnf); first | (refine Sure.mk (by kernel_rfl) ?_) | (refine IfB.tt rfl ?_) | (refine IfB.ff rfl ?_) | (refine IfB.tt ?_ ?_; (focus (simp <;> fail))) | (refine IfB.ff ?_ ?_; (focus (simp <;> fail))) | (refine fits (wrap64 ?_ ?_) ?_; (focus omega); (focus omega)) | (refine fits (wrapU64 ?_ ?_) ?_; (focus omega); (focus omega)) | (refine Need.mk ?_ ?_; (focus omega)) | (refine InB.mk ?_ ?_ ?_; (focus omega); (focus omega)))); (try (conv => whnf)); refine idx_map (hlt) ?_)
    ((repeat ((conv => whnf); first | (refine Sure.mk (by kernel_rfl) ?_) | (refine IfB.tt rfl ?_) | (refine IfB.ff rfl ?_) | (refine IfB.tt ?_ ?_; (focus (simp <;> fail))) | (refine IfB.ff ?_ ?_; (focus (simp <;> fail))) | (refine fits (wrap64 ?_ ?_) ?_; (focus omega); (focus omega)) | (refine fits (wrapU64 ?_ ?_) ?_; (focus omega); (focus omega)) | (refine Need.mk ?_ ?_; (focus omega)) | (refine InB.mk ?_ ?_ ?_; (focus omega); (focus omega)))); (try (conv => whnf)); first | refine IfB.dec (fun g2 => ?_) (fun g2 => ?_) | refine IfB.eq (fun g2 => ?_) (fun g2 => ?_) | refine IfB.ne (fun g2 => ?_) (fun g2 => ?_) | refine IfB.mk (fun g2 => ?_) (fun g2 => ?_))
    · ((repeat ((conv => whnf); first | (refine Sure.mk (by kernel_rfl) ?_) | (refine IfB.tt rfl ?_) | (refine IfB.ff rfl ?_) | (refine IfB.tt ?_ ?_; (focus (simp <;> fail))) | (refine IfB.ff ?_ ?_; (focus (simp <;> fail))) | (refine fits (wrap64 ?_ ?_) ?_; (focus omega); (focus omega)) | (refine fits (wrapU64 ?_ ?_) ?_; (focus omega); (focus omega)) | (refine Need.mk ?_ ?_; (focus omega)) | (refine InB.mk ?_ ?_ ?_; (focus omega); (focus omega)))); (try (conv => whnf)); first | refine IfB.dec (fun g3 => ?_) (fun g3 => ?_) | refine IfB.eq (fun g3 => ?_) (fun g3 => ?_) | refine IfB.ne (fun g3 => ?_) (fun g3 => ?_) | refine IfB.mk (fun g3 => ?_) (fun g3 => ?_))
      · have e : bestA l n (i + 1) = (l[i].a + l[i].n, (bestA l n i).1, l[i].a - (bestA l n i).1) := by rw [hs]; unfold bestSt; rw [if_pos ⟨g2, .inl g3⟩]
        ((repeat ((conv => whnf); first | (refine Sure.mk (by kernel_rfl) ?_) | (refine IfB.tt rfl ?_) | (refine IfB.ff rfl ?_) | (refine IfB.tt ?_ ?_; (focus (simp <;> fail))) | (refine IfB.ff ?_ ?_; (focus (simp <;> fail))) | (refine fits (wrap64 ?_ ?_) ?_; (focus omega); (focus omega)) | (refine fits (wrapU64 ?_ ?_) ?_; (focus omega); (focus omega)) | (refine Need.mk ?_ ?_; (focus omega)) | (refine InB.mk ?_ ?_ ?_; (focus omega); (focus omega)))); (try (conv => whnf)); refine idx_map (hlt) ?_)
        ((repeat ((conv => whnf); first | (refine Sure.mk (by kernel_rfl) ?_) | (refine IfB.tt rfl ?_) | (refine IfB.ff rfl ?_) | (refine IfB.tt ?_ ?_; (focus (simp <;> fail))) | (refine IfB.ff ?_ ?_; (focus (simp <;> fail))) | (refine fits (wrap64 ?_ ?_) ?_; (focus omega); (focus omega)) | (refine fits (wrapU64 ?_ ?_) ?_; (focus omega); (focus omega)) | (refine Need.mk ?_ ?_; (focus omega)) | (refine InB.mk ?_ ?_ ?_; (focus omega); (focus omega)))); (try (conv => whnf)); refine idx_map (hlt) ?_)
        ((repeat ((conv => whnf); first | (refine Sure.mk (by kernel_rfl) ?_) | (refine IfB.tt rfl ?_) | (refine IfB.ff rfl ?_) | (refine IfB.tt ?_ ?_; (focus (simp <;> fail))) | (refine IfB.ff ?_ ?_; (focus (simp <;> fail))) | (refine fits (wrap64 ?_ ?_) ?_; (focus omega); (focus omega)) | (refine fits (wrapU64 ?_ ?_) ?_; (focus omega); (focus omega)) | (refine Need.mk ?_ ?_; (focus omega)) | (refine InB.mk ?_ ?_ ?_; (focus omega); (focus omega)))); (try (conv => whnf)); refine ⟨[], [], rfl, ⟨i + 1, by rw [e]; rfl, rfl, hlt⟩, (by omega : l.length - ((i : Int) + 1).toNat < l.length - (i : Int).toNat)⟩)
      · ((repeat ((conv => whnf); first | (refine Sure.mk (by kernel_rfl) ?_) | (refine IfB.tt rfl ?_) | (refine IfB.ff rfl ?_) | (refine IfB.tt ?_ ?_; (focus (simp <;> fail))) | (refine IfB.ff ?_ ?_; (focus (simp <;> fail))) | (refine fits (wrap64 ?_ ?_) ?_; (focus omega); (focus omega)) | (refine fits (wrapU64 ?_ ?_) ?_; (focus omega); (focus omega)) | (refine Need.mk ?_ ?_; (focus omega)) | (refine InB.mk ?_ ?_ ?_; (focus omega); (focus omega)))); (try (conv => whnf)); first | refine IfB.dec (fun g4 => ?_) (fun g4 => ?_) | refine IfB.eq (fun g4 => ?_) (fun g4 => ?_) | refine IfB.ne (fun g4 => ?_) (fun g4 => ?_) | refine IfB.mk (fun g4 => ?_) (fun g4 => ?_))
        · have e : bestA l n (i + 1) = (l[i].a + l[i].n, (bestA l n i).1, l[i].a - (bestA l n i).1) := by rw [hs]; unfold bestSt; rw [if_pos ⟨g2, .inr g4⟩]
          ((repeat ((conv => whnf); first | (refine Sure.mk (by kernel_rfl) ?_) | (refine IfB.tt rfl ?_) | (refine IfB.ff rfl ?_) | (refine IfB.tt ?_ ?_; (focus (simp <;> fail))) | (refine IfB.ff ?_ ?_; (focus (simp <;> fail))) | (refine fits (wrap64 ?_ ?_) ?_; (focus omega); (focus omega)) | (refine fits (wrapU64 ?_ ?_) ?_; (focus omega); (focus omega)) | (refine Need.mk ?_ ?_; (focus omega)) | (refine InB.mk ?_ ?_ ?_; (focus omega); (focus omega)))); (try (conv => whnf)); refine idx_map (hlt) ?_)
          ((repeat ((conv => whnf); first | (refine Sure.mk (by kernel_rfl) ?_) | (refine IfB.tt rfl ?_) | (refine IfB.ff rfl ?_) | (refine IfB.tt ?_ ?_; (focus (simp <;> fail))) | (refine IfB.ff ?_ ?_; (focus (simp <;> fail))) | (refine fits (wrap64 ?_ ?_) ?_; (focus omega); (focus omega)) | (refine fits (wrapU64 ?_ ?_) ?_; (focus omega); (focus omega)) | (refine Need.mk ?_ ?_; (focus omega)) | (refine InB.mk ?_ ?_ ?_; (focus omega); (focus omega)))); (try (conv => whnf)); refine idx_map (hlt) ?_)
          ((repeat ((conv => whnf); first | (refine Sure.mk (by kernel_rfl) ?_) | (refine IfB.tt rfl ?_) | (refine IfB.ff rfl ?_) | (refine IfB.tt ?_ ?_; (focus (simp <;> fail))) | (refine IfB.ff ?_ ?_; (focus (simp <;> fail))) | (refine fits (wrap64 ?_ ?_) ?_; (focus omega); (focus omega)) | (refine fits (wrapU64 ?_ ?_) ?_; (focus omega); (focus omega)) | (refine Need.mk ?_ ?_; (focus omega)) | (refine InB.mk ?_ ?_ ?_; (focus omega); (focus omega)))); (try (conv => whnf)); refine ⟨[], [], rfl, ⟨i + 1, by rw [e]; rfl, rfl, hlt⟩, (by omega : l.length - ((i : Int) + 1).toNat < l.length - (i : Int).toNat)⟩)
        · have e : bestA l n (i + 1) = (l[i].a + l[i].n, (bestA l n i).2.1, (bestA l n i).2.2) := by rw [hs]; unfold bestSt; rw [if_neg (by omega)]
          ((repeat ((conv => whnf); first | (refine Sure.mk (by kernel_rfl) ?_) | (refine IfB.tt rfl ?_) | (refine IfB.ff rfl ?_) | (refine IfB.tt ?_ ?_; (focus (simp <;> fail))) | (refine IfB.ff ?_ ?_; (focus (simp <;> fail))) | (refine fits (wrap64 ?_ ?_) ?_; (focus omega); (focus omega)) | (refine fits (wrapU64 ?_ ?_) ?_; (focus omega); (focus omega)) | (refine Need.mk ?_ ?_; (focus omega)) | (refine InB.mk ?_ ?_ ?_; (focus omega); (focus omega)))); (try (conv => whnf)); refine idx_map (hlt) ?_)
          ((repeat ((conv => whnf); first | (refine Sure.mk (by kernel_rfl) ?_) | (refine IfB.tt rfl ?_) | (refine IfB.ff rfl ?_) | (refine IfB.tt ?_ ?_; (focus (simp <;> fail))) | (refine IfB.ff ?_ ?_; (focus (simp <;> fail))) | (refine fits (wrap64 ?_ ?_) ?_; (focus omega); (focus omega)) | (refine fits (wrapU64 ?_ ?_) ?_; (focus omega); (focus omega)) | (refine Need.mk ?_ ?_; (focus omega)) | (refine InB.mk ?_ ?_ ?_; (focus omega); (focus omega)))); (try (conv => whnf)); refine idx_map (hlt) ?_)
          ((repeat ((conv => whnf); first | (refine Sure.mk (by kernel_rfl) ?_) | (refine IfB.tt rfl ?_) | (refine IfB.ff rfl ?_) | (refine IfB.tt ?_ ?_; (focus (simp <;> fail))) | (refine IfB.ff ?_ ?_; (focus (simp <;> fail))) | (refine fits (wrap64 ?_ ?_) ?_; (focus omega); (focus omega)) | (refine fits (wrapU64 ?_ ?_) ?_; (focus omega); (focus omega)) | (refine Need.mk ?_ ?_; (focus omega)) | (refine InB.mk ?_ ?_ ?_; (focus omega); (focus omega)))); (try (conv => whnf)); refine ⟨[], [], rfl, ⟨i + 1, by rw [e]; rfl, rfl, hlt⟩, (by omega : l.length - ((i : Int) + 1).toNat < l.length - (i : Int).toNat)⟩)
    · have e : bestA l n (i + 1) = (l[i].a + l[i].n, (bestA l n i).2.1, (bestA l n i).2.2) := by rw [hs]; unfold bestSt; rw [if_neg (by omega)]
      ((repeat ((conv => whnf); first | (refine Sure.mk (by kernel_rfl) ?_) | (refine IfB.tt rfl ?_) | (refine IfB.ff rfl ?_) | (refine IfB.tt ?_ ?_; (focus (simp <;> fail))) | (refine IfB.ff ?_ ?_; (focus (simp <;> fail))) | (refine fits (wrap64 ?_ ?_) ?_; (focus omega); (focus omega)) | (refine fits (wrapU64 ?_ ?_) ?_; (focus omega); (focus omega)) | (refine Need.mk ?_ ?_; (focus omega)) | (refine InB.mk ?_ ?_ ?_; (focus omega); (focus omega)))); (try (conv => whnf)); refine idx_map (hlt) ?_)
      ((repeat ((conv => whnf); first | (refine Sure.mk (by kernel_rfl) ?_) | (refine IfB.tt rfl ?_) | (refine IfB.ff rfl ?_) | (refine IfB.tt ?_ ?_; (focus (simp <;> fail))) | (refine IfB.ff ?_ ?_; (focus (simp <;> fail))) | (refine fits (wrap64 ?_ ?_) ?_; (focus omega); (focus omega)) | (refine fits (wrapU64 ?_ ?_) ?_; (focus omega); (focus omega)) | (refine Need.mk ?_ ?_; (focus omega)) | (refine InB.mk ?_ ?_ ?_; (focus omega); (focus omega)))); (try (conv => whnf)); refine idx_map (hlt) ?_)
      ((repeat ((conv => whnf); first | (refine Sure.mk (by kernel_rfl) ?_) | (refine IfB.tt rfl ?_) | (refine IfB.ff rfl ?_) | (refine IfB.tt ?_ ?_; (focus (simp <;> fail))) | (refine IfB.ff ?_ ?_; (focus (simp <;> fail))) | (refine fits (wrap64 ?_ ?_) ?_; (focus omega); (focus omega)) | (refine fits (wrapU64 ?_ ?_) ?_; (focus omega); (focus omega)) | (refine Need.mk ?_ ?_; (focus omega)) | (refine InB.mk ?_ ?_ ?_; (focus omega); (focus omega)))); (try (conv => whnf)); refine ⟨[], [], rfl, ⟨i + 1, by rw [e]; rfl, rfl, hlt⟩, (by omega : l.length - ((i : Int) + 1).toNat < l.length - (i : Int).toNat)⟩)
  · have e : i = l.length := by omega
    subst e
    ((repeat ((conv => whnf); first | (refine Sure.mk (by kernel_rfl) ?_) | (refine IfB.tt rfl ?_) | (refine IfB.ff rfl ?_) | (refine IfB.tt ?_ ?_; (focus (simp <;> fail))) | (refine IfB.ff ?_ ?_; (focus (simp <;> fail))) | (refine fits (wrap64 ?_ ?_) ?_; (focus omega); (focus omega)) | (refine fits (wrapU64 ?_ ?_) ?_; (focus omega); (focus omega)) | (refine Need.mk ?_ ?_; (focus omega)) | (refine InB.mk ?_ ?_ ?_; (focus omega); (focus omega)))); (try (conv => whnf)); first | refine IfB.dec (fun g2 => ?_) (fun g2 => ?_) | refine IfB.eq (fun g2 => ?_) (fun g2 => ?_) | refine IfB.ne (fun g2 => ?_) (fun g2 => ?_) | refine IfB.mk (fun g2 => ?_) (fun g2 => ?_))
    · rw [show bestF l n = (bestA l n l.length).1 by unfold bestF; rw [if_pos g2]]
      ((repeat ((conv => whnf); first | (refine Sure.mk (by kernel_rfl) ?_) | (refine IfB.tt rfl ?_) | (refine IfB.ff rfl ?_) | (refine IfB.tt ?_ ?_; (focus (simp <;> fail))) | (refine IfB.ff ?_ ?_; (focus (simp <;> fail))) | (refine fits (wrap64 ?_ ?_) ?_; (focus omega); (focus omega)) | (refine fits (wrapU64 ?_ ?_) ?_; (focus omega); (focus omega)) | (refine Need.mk ?_ ?_; (focus omega)) | (refine InB.mk ?_ ?_ ?_; (focus omega); (focus omega)))); (try (conv => whnf)); exact RetN.mk ⟨[], rfl, rfl, rfl⟩)
    · rw [show bestF l n = (bestA l n l.length).2.1 by unfold bestF; rw [if_neg g2]]
      ((repeat ((conv => whnf); first | (refine Sure.mk (by kernel_rfl) ?_) | (refine IfB.tt rfl ?_) | (refine IfB.ff rfl ?_) | (refine IfB.tt ?_ ?_; (focus (simp <;> fail))) | (refine IfB.ff ?_ ?_; (focus (simp <;> fail))) | (refine fits (wrap64 ?_ ?_) ?_; (focus omega); (focus omega)) | (refine fits (wrapU64 ?_ ?_) ?_; (focus omega); (focus omega)) | (refine Need.mk ?_ ?_; (focus omega)) | (refine InB.mk ?_ ?_ ?_; (focus omega); (focus omega)))); (try (conv => whnf)); exact RetN.mk ⟨[], rfl, rfl, rfl⟩)
end Go.Ev.W
namespace Go.Ev.W
open Go.Ev Go.Ev.N

set_option maxHeartbeats 8000000 in
set_option maxRecDepth 20000 in
theorem gameHigh_told (bs ls : List Nat) (hb : IsB bs) (hl : bs.length ≤ maxLen) (hb2 : IsB ls) (hl2 : ls.length ≤ maxLen) (way : Nat) (hway : way < 256) : Told P T law22_GameHigh [] [lB bs, u8 way, lB ls] (.bool true) [] := by
  have hmb : (bs.map u8).length = bs.length := by simp
  have hml : (ls.map u8).length = ls.length := by simp
  have em : ((way : Nat) : Int).tmod 4 = ((way % 4 : Nat) : Int) := by rw [Int.tmod_eq_emod_of_nonneg (by omega)]; omega
  obtain ⟨v, hv⟩ : ∃ v, way % 4 = v := ⟨_, rfl⟩
  have hv4 : v < 4 := by omega
  rw [hv] at em
  refine told_of_ev (fn := law22_GameHigh_fn) tabOk mixed (by kernel_rfl) (by kernel_rfl) (by kernel_rfl) (by kernel_rfl) ?_
  ((repeat ((conv => whnf); first | (refine Sure.mk (by kernel_rfl) ?_) | (refine IfB.tt rfl ?_) | (refine IfB.ff rfl ?_) | (refine IfB.tt ?_ ?_; (focus (simp <;> fail))) | (refine IfB.ff ?_ ?_; (focus (simp <;> fail))) | (refine fits (wrap64 ?_ ?_) ?_; (focus omega); (focus omega)) | (refine fits (wrapU64 ?_ ?_) ?_; (focus omega); (focus omega)) | (refine Need.mk ?_ ?_; (focus omega)) | (refine InB.mk ?_ ?_ ?_; (focus omega); (focus omega)))); (try (conv => whnf)); refine Choice.mk ⟨false, Choice.mk ⟨true, _, _, begun22_told, ?_⟩⟩)
  ((repeat ((conv => whnf); first | (refine Sure.mk (by kernel_rfl) ?_) | (refine IfB.tt rfl ?_) | (refine IfB.ff rfl ?_) | (refine IfB.tt ?_ ?_; (focus (simp <;> fail))) | (refine IfB.ff ?_ ?_; (focus (simp <;> fail))) | (refine fits (wrap64 ?_ ?_) ?_; (focus omega); (focus omega)) | (refine fits (wrapU64 ?_ ?_) ?_; (focus omega); (focus omega)) | (refine Need.mk ?_ ?_; (focus omega)) | (refine InB.mk ?_ ?_ ?_; (focus omega); (focus omega)))); (try (conv => whnf)); first | refine IfB.dec (fun h1 => ?_) (fun h1 => ?_) | refine IfB.eq (fun h1 => ?_) (fun h1 => ?_) | refine IfB.ne (fun h1 => ?_) (fun h1 => ?_) | refine IfB.mk (fun h1 => ?_) (fun h1 => ?_))
  · ((repeat ((conv => whnf); first | (refine Sure.mk (by kernel_rfl) ?_) | (refine IfB.tt rfl ?_) | (refine IfB.ff rfl ?_) | (refine IfB.tt ?_ ?_; (focus (simp <;> fail))) | (refine IfB.ff ?_ ?_; (focus (simp <;> fail))) | (refine fits (wrap64 ?_ ?_) ?_; (focus omega); (focus omega)) | (refine fits (wrapU64 ?_ ?_) ?_; (focus omega); (focus omega)) | (refine Need.mk ?_ ?_; (focus omega)) | (refine InB.mk ?_ ?_ ?_; (focus omega); (focus omega)))); (try (conv => whnf)); exact RetN.mk ⟨[], rfl, rfl, rfl⟩)
  · ((repeat ((conv => whnf); first | (refine Sure.mk (by kernel_rfl) ?_) | (refine IfB.tt rfl ?_) | (refine IfB.ff rfl ?_) | (refine IfB.tt ?_ ?_; (focus (simp <;> fail))) | (refine IfB.ff ?_ ?_; (focus (simp <;> fail))) | (refine fits (wrap64 ?_ ?_) ?_; (focus omega); (focus omega)) | (refine fits (wrapU64 ?_ ?_) ?_; (focus omega); (focus omega)) | (refine Need.mk ?_ ?_; (focus omega)) | (refine InB.mk ?_ ?_ ?_; (focus omega); (focus omega)))); (try (conv => whnf)); first | refine IfB.dec (fun h2 => ?_) (fun h2 => ?_) | refine IfB.eq (fun h2 => ?_) (fun h2 => ?_) | refine IfB.ne (fun h2 => ?_) (fun h2 => ?_) | refine IfB.mk (fun h2 => ?_) (fun h2 => ?_))
    · ((repeat ((conv => whnf); first | (refine Sure.mk (by kernel_rfl) ?_) | (refine IfB.tt rfl ?_) | (refine IfB.ff rfl ?_) | (refine IfB.tt ?_ ?_; (focus (simp <;> fail))) | (refine IfB.ff ?_ ?_; (focus (simp <;> fail))) | (refine fits (wrap64 ?_ ?_) ?_; (focus omega); (focus omega)) | (refine fits (wrapU64 ?_ ?_) ?_; (focus omega); (focus omega)) | (refine Need.mk ?_ ?_; (focus omega)) | (refine InB.mk ?_ ?_ ?_; (focus omega); (focus omega)))); (try (conv => whnf)); exact RetN.mk ⟨[], rfl, rfl, rfl⟩)
    · ((repeat ((conv => whnf); first | (refine Sure.mk (by kernel_rfl) ?_) | (refine IfB.tt rfl ?_) | (refine IfB.ff rfl ?_) | (refine IfB.tt ?_ ?_; (focus (simp <;> fail))) | (refine IfB.ff ?_ ?_; (focus (simp <;> fail))) | (refine fits (wrap64 ?_ ?_) ?_; (focus omega); (focus omega)) | (refine fits (wrapU64 ?_ ?_) ?_; (focus omega); (focus omega)) | (refine Need.mk ?_ ?_; (focus omega)) | (refine InB.mk ?_ ?_ ?_; (focus omega); (focus omega)))); (try (conv => whnf)); refine Choice.mk ⟨false, Choice.mk ⟨false, _, _, made_told bs, ?_⟩⟩)
      ((repeat ((conv => whnf); first | (refine Sure.mk (by kernel_rfl) ?_) | (refine IfB.tt rfl ?_) | (refine IfB.ff rfl ?_) | (refine IfB.tt ?_ ?_; (focus (simp <;> fail))) | (refine IfB.ff ?_ ?_; (focus (simp <;> fail))) | (refine fits (wrap64 ?_ ?_) ?_; (focus omega); (focus omega)) | (refine fits (wrapU64 ?_ ?_) ?_; (focus omega); (focus omega)) | (refine Need.mk ?_ ?_; (focus omega)) | (refine InB.mk ?_ ?_ ?_; (focus omega); (focus omega)))); (try (conv => whnf)); refine Choice.mk ⟨true, Choice.mk ⟨false, _, _, raw_told ⟨bs, 0⟩ ⟨hb, Nat.zero_le _, hl⟩ true, ?_⟩⟩)
      have hsm := small_of (rawF_s ⟨bs, 0⟩ true)
      obtain ⟨rw1, hrw⟩ : ∃ w, (rawF ⟨bs, 0⟩ true).1 = w := ⟨_, rfl⟩
      rw [hrw] at hsm ⊢
      have co := refOf_told rw1
      rw [hsm.1, hsm.2.1] at co
      obtain ⟨c, hce⟩ : ∃ c, cfOf rw1 = c := ⟨_, rfl⟩
      rw [hce] at hsm co
      obtain ⟨_, _, hc, hN, hM, hLs, hGs, _⟩ := hsm
      have hg := hc.gpos
      have hnM := hc.nM
      have hmH := hc.mH
      have hdl := Nat.div_le_self c.M c.G
      have hdn : (0 : Int) ≤ ((c.M / c.G : Nat) : Int) := Int.natCast_nonneg _
      have htd : ((c.M : Nat) : Int).tdiv ((c.G : Nat) : Int) = ((c.M / c.G : Nat) : Int) := by rw [Int.tdiv_eq_ediv_of_nonneg (by omega)]; omega
      have hdm := Nat.div_add_mod c.M c.G
      have hml2 := Nat.mod_lt c.M hg
      obtain ⟨d, hd⟩ : ∃ d, c.M / c.G = d := ⟨_, rfl⟩
      rw [hd] at hdl hdn htd hdm
      obtain ⟨K, hK⟩ : ∃ K, 3 * d + 10 = K := ⟨_, rfl⟩
      ((repeat ((conv => whnf); first | (refine Sure.mk (by kernel_rfl) ?_) | (refine IfB.tt rfl ?_) | (refine IfB.ff rfl ?_) | (refine IfB.tt ?_ ?_; (focus (simp <;> fail))) | (refine IfB.ff ?_ ?_; (focus (simp <;> fail))) | (refine fits (wrap64 ?_ ?_) ?_; (focus omega); (focus omega)) | (refine fits (wrapU64 ?_ ?_) ?_; (focus omega); (focus omega)) | (refine Need.mk ?_ ?_; (focus omega)) | (refine InB.mk ?_ ?_ ?_; (focus omega); (focus omega)))); (try (conv => whnf)); refine Choice.mk ⟨false, Choice.mk ⟨false, _, _, co, ?_⟩⟩)
      ((repeat ((conv => whnf); first | (refine Sure.mk (by kernel_rfl) ?_) | (refine IfB.tt rfl ?_) | (refine IfB.ff rfl ?_) | (refine IfB.tt ?_ ?_; (focus (simp <;> fail))) | (refine IfB.ff ?_ ?_; (focus (simp <;> fail))) | (refine fits (wrap64 ?_ ?_) ?_; (focus omega); (focus omega)) | (refine fits (wrapU64 ?_ ?_) ?_; (focus omega); (focus omega)) | (refine Need.mk ?_ ?_; (focus omega)) | (refine InB.mk ?_ ?_ ?_; (focus omega); (focus omega)))); (try (conv => whnf)); refine Choice.mk ⟨false, Choice.mk ⟨false, _, _, begin_told c, ?_⟩⟩)
      ((repeat ((conv => whnf); first | (refine Sure.mk (by kernel_rfl) ?_) | (refine IfB.tt rfl ?_) | (refine IfB.ff rfl ?_) | (refine IfB.tt ?_ ?_; (focus (simp <;> fail))) | (refine IfB.ff ?_ ?_; (focus (simp <;> fail))) | (refine fits (wrap64 ?_ ?_) ?_; (focus omega); (focus omega)) | (refine fits (wrapU64 ?_ ?_) ?_; (focus omega); (focus omega)) | (refine Need.mk ?_ ?_; (focus omega)) | (refine InB.mk ?_ ?_ ?_; (focus omega); (focus omega)))); (try (conv => whnf)); refine LoopN.mk ⟨[1,2,8,10,11], fun vs L => ∃ (i : Nat) (r : Rd), vs = [u8 way, lB ls, .ptr 0 0 0, .ptr 1 0 0, i64 i] ∧ L = [.var (eC c), .var (eRd r)] ∧ i ≤ K ∧ RdOk c r ∧ RdX c r ∧ RdH c r ∧ (r.why = 0 → r.asked = i) ∧ r.asked ≤ i ∧ 0 ≤ r.most ∧ r.most ≤ 400 * (r.asked : Int) ∧ (r.why = 0 ∨ (r.why = 2 ∧ r.step = c.L ∧ (c.M : Int) < total r.live + sz c c.L)), fun vs L => match vs with | [_, _, _, _, .int _ i] => K - i.toNat | _ => 0, [], [2,3], rfl, ⟨0, r0, rfl, rfl, by omega, r0_ok hc, by intro x hx; simp [r0] at hx, ⟨by intro x hx; simp [r0] at hx, ?_, ?_, by intro x hx; simp [r0] at hx⟩, fun _ => rfl, by simp [r0], by simp [r0], by simp [r0], .inl rfl⟩, ?_⟩)
      · show ((0 : Nat) : Int) * (c.M : Int) - ((sz c 0 : Nat) : Int) + (c.G : Int) ≤ 2 * waste (sz c 0) []
        simp [sz, waste]; omega
      · show ((0 * sz c 0 : Nat) : Int) ≤ (c.M : Int) * ((2 ^ (0 + 1) : Nat) : Int) - 2 * (c.M : Int) + just (sz c 0) []
        simp [just]; omega
      rintro vs L ⟨i, r, rfl, rfl, hi, hr, hX, hH, hai, hai2, hmo0, hmo, hov⟩
      have hlr := hr.toRdB.len hc
      have ca := asks_told (r := r) hc hr.s
      have hs := hc.sz_le hr.s
      have hsp := sz_pos hc r.step
      ((repeat ((conv => whnf); first | (refine Sure.mk (by kernel_rfl) ?_) | (refine IfB.tt rfl ?_) | (refine IfB.ff rfl ?_) | (refine IfB.tt ?_ ?_; (focus (simp <;> fail))) | (refine IfB.ff ?_ ?_; (focus (simp <;> fail))) | (refine fits (wrap64 ?_ ?_) ?_; (focus omega); (focus omega)) | (refine fits (wrapU64 ?_ ?_) ?_; (focus omega); (focus omega)) | (refine Need.mk ?_ ?_; (focus omega)) | (refine InB.mk ?_ ?_ ?_; (focus omega); (focus omega)))); (try (conv => whnf)))
      rw [htd]
      ((repeat ((conv => whnf); first | (refine Sure.mk (by kernel_rfl) ?_) | (refine IfB.tt rfl ?_) | (refine IfB.ff rfl ?_) | (refine IfB.tt ?_ ?_; (focus (simp <;> fail))) | (refine IfB.ff ?_ ?_; (focus (simp <;> fail))) | (refine fits (wrap64 ?_ ?_) ?_; (focus omega); (focus omega)) | (refine fits (wrapU64 ?_ ?_) ?_; (focus omega); (focus omega)) | (refine Need.mk ?_ ?_; (focus omega)) | (refine InB.mk ?_ ?_ ?_; (focus omega); (focus omega)))); (try (conv => whnf)); first | refine IfB.dec (fun h4 => ?_) (fun h4 => ?_) | refine IfB.eq (fun h4 => ?_) (fun h4 => ?_) | refine IfB.ne (fun h4 => ?_) (fun h4 => ?_) | refine IfB.mk (fun h4 => ?_) (fun h4 => ?_))
      · have hik : i < K := by omega
        by_cases hw : r.why = 0
        · rw [show asksF c r = (sz c r.step, true) by unfold asksF; rw [if_pos hw]] at ca
          ((repeat ((conv => whnf); first | (refine Sure.mk (by kernel_rfl) ?_) | (refine IfB.tt rfl ?_) | (refine IfB.ff rfl ?_) | (refine IfB.tt ?_ ?_; (focus (simp <;> fail))) | (refine IfB.ff ?_ ?_; (focus (simp <;> fail))) | (refine fits (wrap64 ?_ ?_) ?_; (focus omega); (focus omega)) | (refine fits (wrapU64 ?_ ?_) ?_; (focus omega); (focus omega)) | (refine Need.mk ?_ ?_; (focus omega)) | (refine InB.mk ?_ ?_ ?_; (focus omega); (focus omega)))); (try (conv => whnf)); refine Choice.mk ⟨false, Choice.mk ⟨true, _, _, ca, ?_⟩⟩)
          ((repeat ((conv => whnf); first | (refine Sure.mk (by kernel_rfl) ?_) | (refine IfB.tt rfl ?_) | (refine IfB.ff rfl ?_) | (refine IfB.tt ?_ ?_; (focus (simp <;> fail))) | (refine IfB.ff ?_ ?_; (focus (simp <;> fail))) | (refine fits (wrap64 ?_ ?_) ?_; (focus omega); (focus omega)) | (refine fits (wrapU64 ?_ ?_) ?_; (focus omega); (focus omega)) | (refine Need.mk ?_ ?_; (focus omega)) | (refine InB.mk ?_ ?_ ?_; (focus omega); (focus omega)))); (try (conv => whnf)))
          try rw [em]
          ((repeat ((conv => whnf); first | (refine Sure.mk (by kernel_rfl) ?_) | (refine IfB.tt rfl ?_) | (refine IfB.ff rfl ?_) | (refine IfB.tt ?_ ?_; (focus (simp <;> fail))) | (refine IfB.ff ?_ ?_; (focus (simp <;> fail))) | (refine fits (wrap64 ?_ ?_) ?_; (focus omega); (focus omega)) | (refine fits (wrapU64 ?_ ?_) ?_; (focus omega); (focus omega)) | (refine Need.mk ?_ ?_; (focus omega)) | (refine InB.mk ?_ ?_ ?_; (focus omega); (focus omega)))); (try (conv => whnf)); first | refine IfB.dec (fun w0 => ?_) (fun w0 => ?_) | refine IfB.eq (fun w0 => ?_) (fun w0 => ?_) | refine IfB.ne (fun w0 => ?_) (fun w0 => ?_) | refine IfB.mk (fun w0 => ?_) (fun w0 => ?_))
          · have hB := first_good hr.a hH.e hmo0 (n := sz c r.step) hsp (b := 1) (y := 0) (by omega) (by omega)
            ((repeat ((conv => whnf); first | (refine Sure.mk (by kernel_rfl) ?_) | (refine IfB.tt rfl ?_) | (refine IfB.ff rfl ?_) | (refine IfB.tt ?_ ?_; (focus (simp <;> fail))) | (refine IfB.ff ?_ ?_; (focus (simp <;> fail))) | (refine fits (wrap64 ?_ ?_) ?_; (focus omega); (focus omega)) | (refine fits (wrapU64 ?_ ?_) ?_; (focus omega); (focus omega)) | (refine Need.mk ?_ ?_; (focus omega)) | (refine InB.mk ?_ ?_ ?_; (focus omega); (focus omega)))); (try (conv => whnf)); refine Choice.mk ⟨false, Choice.mk ⟨false, _, _, first_told hr.a (by omega) hH.e (by omega) (n := sz c r.step) (by omega) (b := 1) (y := 0) (by omega) (by omega), ?_⟩⟩)
            obtain ⟨z, hz⟩ : ∃ z, firstF r.live (sz c r.step) 1 0 = z := ⟨_, rfl⟩
            rw [hz] at hB ⊢
            have h := toldF_ok hc hr z
            have hh := toldF_h hc hr hX hH hw hB.1 (by omega)
            ((repeat ((conv => whnf); first | (refine Sure.mk (by kernel_rfl) ?_) | (refine IfB.tt rfl ?_) | (refine IfB.ff rfl ?_) | (refine IfB.tt ?_ ?_; (focus (simp <;> fail))) | (refine IfB.ff ?_ ?_; (focus (simp <;> fail))) | (refine fits (wrap64 ?_ ?_) ?_; (focus omega); (focus omega)) | (refine fits (wrapU64 ?_ ?_) ?_; (focus omega); (focus omega)) | (refine Need.mk ?_ ?_; (focus omega)) | (refine InB.mk ?_ ?_ ?_; (focus omega); (focus omega)))); (try (conv => whnf)); refine Choice.mk ⟨false, Choice.mk ⟨false, _, _, told_told hc hr z (by have := hB.1.z; omega) (by omega), ?_⟩⟩)
            have hms : (toldF c r z).most ≤ r.most + 400 := by rw [hh.2.1]; omega
            have hm0 : 0 ≤ (toldF c r z).most := by rw [hh.2.1]; omega
            have hak := h.2
            rw [if_pos hw] at hak
            ((repeat ((conv => whnf); first | (refine Sure.mk (by kernel_rfl) ?_) | (refine IfB.tt rfl ?_) | (refine IfB.ff rfl ?_) | (refine IfB.tt ?_ ?_; (focus (simp <;> fail))) | (refine IfB.ff ?_ ?_; (focus (simp <;> fail))) | (refine fits (wrap64 ?_ ?_) ?_; (focus omega); (focus omega)) | (refine fits (wrapU64 ?_ ?_) ?_; (focus omega); (focus omega)) | (refine Need.mk ?_ ?_; (focus omega)) | (refine InB.mk ?_ ?_ ?_; (focus omega); (focus omega)))); (try (conv => whnf)); refine ⟨[], [0,1], rfl, ⟨i + 1, _, rfl, rfl, by omega, h.1, toldF_x hc hr hX z, hh.1, fun _ => by omega, by omega, hm0, by rw [hak]; omega, hh.2.2⟩, (by omega : K - ((i : Int) + 1).toNat < K - (i : Int).toNat)⟩)
          · ((repeat ((conv => whnf); first | (refine Sure.mk (by kernel_rfl) ?_) | (refine IfB.tt rfl ?_) | (refine IfB.ff rfl ?_) | (refine IfB.tt ?_ ?_; (focus (simp <;> fail))) | (refine IfB.ff ?_ ?_; (focus (simp <;> fail))) | (refine fits (wrap64 ?_ ?_) ?_; (focus omega); (focus omega)) | (refine fits (wrapU64 ?_ ?_) ?_; (focus omega); (focus omega)) | (refine Need.mk ?_ ?_; (focus omega)) | (refine InB.mk ?_ ?_ ?_; (focus omega); (focus omega)))); (try (conv => whnf)))
            try rw [em]
            ((repeat ((conv => whnf); first | (refine Sure.mk (by kernel_rfl) ?_) | (refine IfB.tt rfl ?_) | (refine IfB.ff rfl ?_) | (refine IfB.tt ?_ ?_; (focus (simp <;> fail))) | (refine IfB.ff ?_ ?_; (focus (simp <;> fail))) | (refine fits (wrap64 ?_ ?_) ?_; (focus omega); (focus omega)) | (refine fits (wrapU64 ?_ ?_) ?_; (focus omega); (focus omega)) | (refine Need.mk ?_ ?_; (focus omega)) | (refine InB.mk ?_ ?_ ?_; (focus omega); (focus omega)))); (try (conv => whnf)); first | refine IfB.dec (fun w1 => ?_) (fun w1 => ?_) | refine IfB.eq (fun w1 => ?_) (fun w1 => ?_) | refine IfB.ne (fun w1 => ?_) (fun w1 => ?_) | refine IfB.mk (fun w1 => ?_) (fun w1 => ?_))
            · have hB := first_good hr.a hH.e hmo0 (n := sz c r.step) hsp (b := (sz c r.step : Nat)) (y := 0) (by omega) (by omega)
              ((repeat ((conv => whnf); first | (refine Sure.mk (by kernel_rfl) ?_) | (refine IfB.tt rfl ?_) | (refine IfB.ff rfl ?_) | (refine IfB.tt ?_ ?_; (focus (simp <;> fail))) | (refine IfB.ff ?_ ?_; (focus (simp <;> fail))) | (refine fits (wrap64 ?_ ?_) ?_; (focus omega); (focus omega)) | (refine fits (wrapU64 ?_ ?_) ?_; (focus omega); (focus omega)) | (refine Need.mk ?_ ?_; (focus omega)) | (refine InB.mk ?_ ?_ ?_; (focus omega); (focus omega)))); (try (conv => whnf)); refine Choice.mk ⟨false, Choice.mk ⟨false, _, _, first_told hr.a (by omega) hH.e (by omega) (n := sz c r.step) (by omega) (b := (sz c r.step : Nat)) (y := 0) (by omega) (by omega), ?_⟩⟩)
              obtain ⟨z, hz⟩ : ∃ z, firstF r.live (sz c r.step) (sz c r.step : Nat) 0 = z := ⟨_, rfl⟩
              rw [hz] at hB ⊢
              have h := toldF_ok hc hr z
              have hh := toldF_h hc hr hX hH hw hB.1 (by omega)
              ((repeat ((conv => whnf); first | (refine Sure.mk (by kernel_rfl) ?_) | (refine IfB.tt rfl ?_) | (refine IfB.ff rfl ?_) | (refine IfB.tt ?_ ?_; (focus (simp <;> fail))) | (refine IfB.ff ?_ ?_; (focus (simp <;> fail))) | (refine fits (wrap64 ?_ ?_) ?_; (focus omega); (focus omega)) | (refine fits (wrapU64 ?_ ?_) ?_; (focus omega); (focus omega)) | (refine Need.mk ?_ ?_; (focus omega)) | (refine InB.mk ?_ ?_ ?_; (focus omega); (focus omega)))); (try (conv => whnf)); refine Choice.mk ⟨false, Choice.mk ⟨false, _, _, told_told hc hr z (by have := hB.1.z; omega) (by omega), ?_⟩⟩)
              have hms : (toldF c r z).most ≤ r.most + 400 := by rw [hh.2.1]; omega
              have hm0 : 0 ≤ (toldF c r z).most := by rw [hh.2.1]; omega
              have hak := h.2
              rw [if_pos hw] at hak
              ((repeat ((conv => whnf); first | (refine Sure.mk (by kernel_rfl) ?_) | (refine IfB.tt rfl ?_) | (refine IfB.ff rfl ?_) | (refine IfB.tt ?_ ?_; (focus (simp <;> fail))) | (refine IfB.ff ?_ ?_; (focus (simp <;> fail))) | (refine fits (wrap64 ?_ ?_) ?_; (focus omega); (focus omega)) | (refine fits (wrapU64 ?_ ?_) ?_; (focus omega); (focus omega)) | (refine Need.mk ?_ ?_; (focus omega)) | (refine InB.mk ?_ ?_ ?_; (focus omega); (focus omega)))); (try (conv => whnf)); refine ⟨[], [0,1], rfl, ⟨i + 1, _, rfl, rfl, by omega, h.1, toldF_x hc hr hX z, hh.1, fun _ => by omega, by omega, hm0, by rw [hak]; omega, hh.2.2⟩, (by omega : K - ((i : Int) + 1).toNat < K - (i : Int).toNat)⟩)
            · ((repeat ((conv => whnf); first | (refine Sure.mk (by kernel_rfl) ?_) | (refine IfB.tt rfl ?_) | (refine IfB.ff rfl ?_) | (refine IfB.tt ?_ ?_; (focus (simp <;> fail))) | (refine IfB.ff ?_ ?_; (focus (simp <;> fail))) | (refine fits (wrap64 ?_ ?_) ?_; (focus omega); (focus omega)) | (refine fits (wrapU64 ?_ ?_) ?_; (focus omega); (focus omega)) | (refine Need.mk ?_ ?_; (focus omega)) | (refine InB.mk ?_ ?_ ?_; (focus omega); (focus omega)))); (try (conv => whnf)))
              try rw [em]
              ((repeat ((conv => whnf); first | (refine Sure.mk (by kernel_rfl) ?_) | (refine IfB.tt rfl ?_) | (refine IfB.ff rfl ?_) | (refine IfB.tt ?_ ?_; (focus (simp <;> fail))) | (refine IfB.ff ?_ ?_; (focus (simp <;> fail))) | (refine fits (wrap64 ?_ ?_) ?_; (focus omega); (focus omega)) | (refine fits (wrapU64 ?_ ?_) ?_; (focus omega); (focus omega)) | (refine Need.mk ?_ ?_; (focus omega)) | (refine InB.mk ?_ ?_ ?_; (focus omega); (focus omega)))); (try (conv => whnf)); first | refine IfB.dec (fun w2 => ?_) (fun w2 => ?_) | refine IfB.eq (fun w2 => ?_) (fun w2 => ?_) | refine IfB.ne (fun w2 => ?_) (fun w2 => ?_) | refine IfB.mk (fun w2 => ?_) (fun w2 => ?_))
              · have main : ∀ k : Nat, k < 256 → ((k : Nat) : Int).tmod 50 = ((k % 50 : Nat) : Int) ∧ ((k : Nat) : Int).tmod 3 = ((k % 3 : Nat) : Int) := fun k _ => by
                  constructor
                  · rw [Int.tmod_eq_emod_of_nonneg (by omega)]; omega
                  · rw [Int.tmod_eq_emod_of_nonneg (by omega)]; omega
                ((repeat ((conv => whnf); first | (refine Sure.mk (by kernel_rfl) ?_) | (refine IfB.tt rfl ?_) | (refine IfB.ff rfl ?_) | (refine IfB.tt ?_ ?_; (focus (simp <;> fail))) | (refine IfB.ff ?_ ?_; (focus (simp <;> fail))) | (refine fits (wrap64 ?_ ?_) ?_; (focus omega); (focus omega)) | (refine fits (wrapU64 ?_ ?_) ?_; (focus omega); (focus omega)) | (refine Need.mk ?_ ?_; (focus omega)) | (refine InB.mk ?_ ?_ ?_; (focus omega); (focus omega)))); (try (conv => whnf)); first | refine IfB.dec (fun w3 => ?_) (fun w3 => ?_) | refine IfB.eq (fun w3 => ?_) (fun w3 => ?_) | refine IfB.ne (fun w3 => ?_) (fun w3 => ?_) | refine IfB.mk (fun w3 => ?_) (fun w3 => ?_))
                · have hkl : i % ls.length < ls.length := Nat.mod_lt _ (by omega)
                  obtain ⟨j, hj⟩ : ∃ j, i % ls.length = j := ⟨_, rfl⟩
                  rw [hj] at hkl
                  have ej : ((i : Nat) : Int).tmod (((ls.map u8).length : Nat) : Int) = ((j : Nat) : Int) := by rw [hml, Int.tmod_eq_emod_of_nonneg (by omega)]; omega
                  obtain ⟨k, hk⟩ : ∃ k, ls[j] = k := ⟨_, rfl⟩
                  have hkb : k < 256 := by rw [← hk]; exact hb2 _ (List.getElem_mem hkl)
                  obtain ⟨m1, m2⟩ := main k hkb
                  ((repeat ((conv => whnf); first | (refine Sure.mk (by kernel_rfl) ?_) | (refine IfB.tt rfl ?_) | (refine IfB.ff rfl ?_) | (refine IfB.tt ?_ ?_; (focus (simp <;> fail))) | (refine IfB.ff ?_ ?_; (focus (simp <;> fail))) | (refine fits (wrap64 ?_ ?_) ?_; (focus omega); (focus omega)) | (refine fits (wrapU64 ?_ ?_) ?_; (focus omega); (focus omega)) | (refine Need.mk ?_ ?_; (focus omega)) | (refine InB.mk ?_ ?_ ?_; (focus omega); (focus omega)))); (try (conv => whnf)))
                  refine idx_map' j ej hkl ?_
                  rw [hk]
                  ((repeat ((conv => whnf); first | (refine Sure.mk (by kernel_rfl) ?_) | (refine IfB.tt rfl ?_) | (refine IfB.ff rfl ?_) | (refine IfB.tt ?_ ?_; (focus (simp <;> fail))) | (refine IfB.ff ?_ ?_; (focus (simp <;> fail))) | (refine fits (wrap64 ?_ ?_) ?_; (focus omega); (focus omega)) | (refine fits (wrapU64 ?_ ?_) ?_; (focus omega); (focus omega)) | (refine Need.mk ?_ ?_; (focus omega)) | (refine InB.mk ?_ ?_ ?_; (focus omega); (focus omega)))); (try (conv => whnf)))
                  rw [m1, m2]
                  have hk50 : k % 50 < 50 := Nat.mod_lt _ (by omega)
                  have hk3 : k % 3 < 3 := Nat.mod_lt _ (by omega)
                  have e3 : (1 : Int) + ((k % 3 : Nat) : Int) = ((1 + k % 3 : Nat) : Int) := by omega
                  ((repeat ((conv => whnf); first | (refine Sure.mk (by kernel_rfl) ?_) | (refine IfB.tt rfl ?_) | (refine IfB.ff rfl ?_) | (refine IfB.tt ?_ ?_; (focus (simp <;> fail))) | (refine IfB.ff ?_ ?_; (focus (simp <;> fail))) | (refine fits (wrap64 ?_ ?_) ?_; (focus omega); (focus omega)) | (refine fits (wrapU64 ?_ ?_) ?_; (focus omega); (focus omega)) | (refine Need.mk ?_ ?_; (focus omega)) | (refine InB.mk ?_ ?_ ?_; (focus omega); (focus omega)))); (try (conv => whnf)))
                  rw [e3]
                  have hB := first_good hr.a hH.e hmo0 (n := sz c r.step) hsp (b := ((1 + k % 3 : Nat) : Int)) (y := ((k % 50 : Nat) : Int)) (by omega) (by omega)
                  ((repeat ((conv => whnf); first | (refine Sure.mk (by kernel_rfl) ?_) | (refine IfB.tt rfl ?_) | (refine IfB.ff rfl ?_) | (refine IfB.tt ?_ ?_; (focus (simp <;> fail))) | (refine IfB.ff ?_ ?_; (focus (simp <;> fail))) | (refine fits (wrap64 ?_ ?_) ?_; (focus omega); (focus omega)) | (refine fits (wrapU64 ?_ ?_) ?_; (focus omega); (focus omega)) | (refine Need.mk ?_ ?_; (focus omega)) | (refine InB.mk ?_ ?_ ?_; (focus omega); (focus omega)))); (try (conv => whnf)); refine Choice.mk ⟨false, Choice.mk ⟨false, _, _, first_told hr.a (by omega) hH.e (by omega) (n := sz c r.step) (by omega) (b := ((1 + k % 3 : Nat) : Int)) (y := ((k % 50 : Nat) : Int)) (by omega) (by omega), ?_⟩⟩)
                  obtain ⟨z, hz⟩ : ∃ z, firstF r.live (sz c r.step) ((1 + k % 3 : Nat) : Int) ((k % 50 : Nat) : Int) = z := ⟨_, rfl⟩
                  rw [hz] at hB ⊢
                  have h := toldF_ok hc hr z
                  have hh := toldF_h hc hr hX hH hw hB.1 (by omega)
                  ((repeat ((conv => whnf); first | (refine Sure.mk (by kernel_rfl) ?_) | (refine IfB.tt rfl ?_) | (refine IfB.ff rfl ?_) | (refine IfB.tt ?_ ?_; (focus (simp <;> fail))) | (refine IfB.ff ?_ ?_; (focus (simp <;> fail))) | (refine fits (wrap64 ?_ ?_) ?_; (focus omega); (focus omega)) | (refine fits (wrapU64 ?_ ?_) ?_; (focus omega); (focus omega)) | (refine Need.mk ?_ ?_; (focus omega)) | (refine InB.mk ?_ ?_ ?_; (focus omega); (focus omega)))); (try (conv => whnf)); refine Choice.mk ⟨false, Choice.mk ⟨false, _, _, told_told hc hr z (by have := hB.1.z; omega) (by omega), ?_⟩⟩)
                  have hms : (toldF c r z).most ≤ r.most + 400 := by rw [hh.2.1]; omega
                  have hm0 : 0 ≤ (toldF c r z).most := by rw [hh.2.1]; omega
                  have hak := h.2
                  rw [if_pos hw] at hak
                  ((repeat ((conv => whnf); first | (refine Sure.mk (by kernel_rfl) ?_) | (refine IfB.tt rfl ?_) | (refine IfB.ff rfl ?_) | (refine IfB.tt ?_ ?_; (focus (simp <;> fail))) | (refine IfB.ff ?_ ?_; (focus (simp <;> fail))) | (refine fits (wrap64 ?_ ?_) ?_; (focus omega); (focus omega)) | (refine fits (wrapU64 ?_ ?_) ?_; (focus omega); (focus omega)) | (refine Need.mk ?_ ?_; (focus omega)) | (refine InB.mk ?_ ?_ ?_; (focus omega); (focus omega)))); (try (conv => whnf)); refine ⟨[], [0,1], rfl, ⟨i + 1, _, rfl, rfl, by omega, h.1, toldF_x hc hr hX z, hh.1, fun _ => by omega, by omega, hm0, by rw [hak]; omega, hh.2.2⟩, (by omega : K - ((i : Int) + 1).toNat < K - (i : Int).toNat)⟩)
                · ((repeat ((conv => whnf); first | (refine Sure.mk (by kernel_rfl) ?_) | (refine IfB.tt rfl ?_) | (refine IfB.ff rfl ?_) | (refine IfB.tt ?_ ?_; (focus (simp <;> fail))) | (refine IfB.ff ?_ ?_; (focus (simp <;> fail))) | (refine fits (wrap64 ?_ ?_) ?_; (focus omega); (focus omega)) | (refine fits (wrapU64 ?_ ?_) ?_; (focus omega); (focus omega)) | (refine Need.mk ?_ ?_; (focus omega)) | (refine InB.mk ?_ ?_ ?_; (focus omega); (focus omega)))); (try (conv => whnf)))
                  rw [show Int.tmod 1 3 = 1 by decide, show Int.tmod 1 50 = 1 by decide]
                  ((repeat ((conv => whnf); first | (refine Sure.mk (by kernel_rfl) ?_) | (refine IfB.tt rfl ?_) | (refine IfB.ff rfl ?_) | (refine IfB.tt ?_ ?_; (focus (simp <;> fail))) | (refine IfB.ff ?_ ?_; (focus (simp <;> fail))) | (refine fits (wrap64 ?_ ?_) ?_; (focus omega); (focus omega)) | (refine fits (wrapU64 ?_ ?_) ?_; (focus omega); (focus omega)) | (refine Need.mk ?_ ?_; (focus omega)) | (refine InB.mk ?_ ?_ ?_; (focus omega); (focus omega)))); (try (conv => whnf)))
                  rw [show (1 : Int) + 1 = 2 by rfl]
                  have hB := first_good hr.a hH.e hmo0 (n := sz c r.step) hsp (b := 2) (y := 1) (by omega) (by omega)
                  ((repeat ((conv => whnf); first | (refine Sure.mk (by kernel_rfl) ?_) | (refine IfB.tt rfl ?_) | (refine IfB.ff rfl ?_) | (refine IfB.tt ?_ ?_; (focus (simp <;> fail))) | (refine IfB.ff ?_ ?_; (focus (simp <;> fail))) | (refine fits (wrap64 ?_ ?_) ?_; (focus omega); (focus omega)) | (refine fits (wrapU64 ?_ ?_) ?_; (focus omega); (focus omega)) | (refine Need.mk ?_ ?_; (focus omega)) | (refine InB.mk ?_ ?_ ?_; (focus omega); (focus omega)))); (try (conv => whnf)); refine Choice.mk ⟨false, Choice.mk ⟨false, _, _, first_told hr.a (by omega) hH.e (by omega) (n := sz c r.step) (by omega) (b := 2) (y := 1) (by omega) (by omega), ?_⟩⟩)
                  obtain ⟨z, hz⟩ : ∃ z, firstF r.live (sz c r.step) 2 1 = z := ⟨_, rfl⟩
                  rw [hz] at hB ⊢
                  have h := toldF_ok hc hr z
                  have hh := toldF_h hc hr hX hH hw hB.1 (by omega)
                  ((repeat ((conv => whnf); first | (refine Sure.mk (by kernel_rfl) ?_) | (refine IfB.tt rfl ?_) | (refine IfB.ff rfl ?_) | (refine IfB.tt ?_ ?_; (focus (simp <;> fail))) | (refine IfB.ff ?_ ?_; (focus (simp <;> fail))) | (refine fits (wrap64 ?_ ?_) ?_; (focus omega); (focus omega)) | (refine fits (wrapU64 ?_ ?_) ?_; (focus omega); (focus omega)) | (refine Need.mk ?_ ?_; (focus omega)) | (refine InB.mk ?_ ?_ ?_; (focus omega); (focus omega)))); (try (conv => whnf)); refine Choice.mk ⟨false, Choice.mk ⟨false, _, _, told_told hc hr z (by have := hB.1.z; omega) (by omega), ?_⟩⟩)
                  have hms : (toldF c r z).most ≤ r.most + 400 := by rw [hh.2.1]; omega
                  have hm0 : 0 ≤ (toldF c r z).most := by rw [hh.2.1]; omega
                  have hak := h.2
                  rw [if_pos hw] at hak
                  ((repeat ((conv => whnf); first | (refine Sure.mk (by kernel_rfl) ?_) | (refine IfB.tt rfl ?_) | (refine IfB.ff rfl ?_) | (refine IfB.tt ?_ ?_; (focus (simp <;> fail))) | (refine IfB.ff ?_ ?_; (focus (simp <;> fail))) | (refine fits (wrap64 ?_ ?_) ?_; (focus omega); (focus omega)) | (refine fits (wrapU64 ?_ ?_) ?_; (focus omega); (focus omega)) | (refine Need.mk ?_ ?_; (focus omega)) | (refine InB.mk ?_ ?_ ?_; (focus omega); (focus omega)))); (try (conv => whnf)); refine ⟨[], [0,1], rfl, ⟨i + 1, _, rfl, rfl, by omega, h.1, toldF_x hc hr hX z, hh.1, fun _ => by omega, by omega, hm0, by rw [hak]; omega, hh.2.2⟩, (by omega : K - ((i : Int) + 1).toNat < K - (i : Int).toNat)⟩)
              · have w4 : v = 3 := by omega
                have hB := best_good hr.a hH.e hmo0 (n := sz c r.step) hsp
                ((repeat ((conv => whnf); first | (refine Sure.mk (by kernel_rfl) ?_) | (refine IfB.tt rfl ?_) | (refine IfB.ff rfl ?_) | (refine IfB.tt ?_ ?_; (focus (simp <;> fail))) | (refine IfB.ff ?_ ?_; (focus (simp <;> fail))) | (refine fits (wrap64 ?_ ?_) ?_; (focus omega); (focus omega)) | (refine fits (wrapU64 ?_ ?_) ?_; (focus omega); (focus omega)) | (refine Need.mk ?_ ?_; (focus omega)) | (refine InB.mk ?_ ?_ ?_; (focus omega); (focus omega)))); (try (conv => whnf)); refine Choice.mk ⟨false, Choice.mk ⟨false, _, _, best_told hr.a (by omega) hH.e (by omega) (n := sz c r.step) (by omega), ?_⟩⟩)
                obtain ⟨z, hz⟩ : ∃ z, bestF r.live (sz c r.step) = z := ⟨_, rfl⟩
                rw [hz] at hB ⊢
                have h := toldF_ok hc hr z
                have hh := toldF_h hc hr hX hH hw hB.1 (by omega)
                ((repeat ((conv => whnf); first | (refine Sure.mk (by kernel_rfl) ?_) | (refine IfB.tt rfl ?_) | (refine IfB.ff rfl ?_) | (refine IfB.tt ?_ ?_; (focus (simp <;> fail))) | (refine IfB.ff ?_ ?_; (focus (simp <;> fail))) | (refine fits (wrap64 ?_ ?_) ?_; (focus omega); (focus omega)) | (refine fits (wrapU64 ?_ ?_) ?_; (focus omega); (focus omega)) | (refine Need.mk ?_ ?_; (focus omega)) | (refine InB.mk ?_ ?_ ?_; (focus omega); (focus omega)))); (try (conv => whnf)); refine Choice.mk ⟨false, Choice.mk ⟨false, _, _, told_told hc hr z (by have := hB.1.z; omega) (by omega), ?_⟩⟩)
                have hms : (toldF c r z).most ≤ r.most + 400 := by rw [hh.2.1]; omega
                have hm0 : 0 ≤ (toldF c r z).most := by rw [hh.2.1]; omega
                have hak := h.2
                rw [if_pos hw] at hak
                ((repeat ((conv => whnf); first | (refine Sure.mk (by kernel_rfl) ?_) | (refine IfB.tt rfl ?_) | (refine IfB.ff rfl ?_) | (refine IfB.tt ?_ ?_; (focus (simp <;> fail))) | (refine IfB.ff ?_ ?_; (focus (simp <;> fail))) | (refine fits (wrap64 ?_ ?_) ?_; (focus omega); (focus omega)) | (refine fits (wrapU64 ?_ ?_) ?_; (focus omega); (focus omega)) | (refine Need.mk ?_ ?_; (focus omega)) | (refine InB.mk ?_ ?_ ?_; (focus omega); (focus omega)))); (try (conv => whnf)); refine ⟨[], [0,1], rfl, ⟨i + 1, _, rfl, rfl, by omega, h.1, toldF_x hc hr hX z, hh.1, fun _ => by omega, by omega, hm0, by rw [hak]; omega, hh.2.2⟩, (by omega : K - ((i : Int) + 1).toNat < K - (i : Int).toNat)⟩)
        · rw [show asksF c r = (0, false) by unfold asksF; rw [if_neg hw]] at ca
          have hov := hov.resolve_left hw
          ((repeat ((conv => whnf); first | (refine Sure.mk (by kernel_rfl) ?_) | (refine IfB.tt rfl ?_) | (refine IfB.ff rfl ?_) | (refine IfB.tt ?_ ?_; (focus (simp <;> fail))) | (refine IfB.ff ?_ ?_; (focus (simp <;> fail))) | (refine fits (wrap64 ?_ ?_) ?_; (focus omega); (focus omega)) | (refine fits (wrapU64 ?_ ?_) ?_; (focus omega); (focus omega)) | (refine Need.mk ?_ ?_; (focus omega)) | (refine InB.mk ?_ ?_ ?_; (focus omega); (focus omega)))); (try (conv => whnf)); refine Choice.mk ⟨false, Choice.mk ⟨true, _, _, ca, ?_⟩⟩)
          have hfin : (c.H : Int) - 3 * (c.N : Int) ≤ r.most := high hc hr.toRdB hX hH hov.2.1 hov.2.2
          ((repeat ((conv => whnf); first | (refine Sure.mk (by kernel_rfl) ?_) | (refine IfB.tt rfl ?_) | (refine IfB.ff rfl ?_) | (refine IfB.tt ?_ ?_; (focus (simp <;> fail))) | (refine IfB.ff ?_ ?_; (focus (simp <;> fail))) | (refine fits (wrap64 ?_ ?_) ?_; (focus omega); (focus omega)) | (refine fits (wrapU64 ?_ ?_) ?_; (focus omega); (focus omega)) | (refine Need.mk ?_ ?_; (focus omega)) | (refine InB.mk ?_ ?_ ?_; (focus omega); (focus omega)))); (try (conv => whnf)); refine IfB.tt (by rw [hov.1]; rfl) ?_)
          ((repeat ((conv => whnf); first | (refine Sure.mk (by kernel_rfl) ?_) | (refine IfB.tt rfl ?_) | (refine IfB.ff rfl ?_) | (refine IfB.tt ?_ ?_; (focus (simp <;> fail))) | (refine IfB.ff ?_ ?_; (focus (simp <;> fail))) | (refine fits (wrap64 ?_ ?_) ?_; (focus omega); (focus omega)) | (refine fits (wrapU64 ?_ ?_) ?_; (focus omega); (focus omega)) | (refine Need.mk ?_ ?_; (focus omega)) | (refine InB.mk ?_ ?_ ?_; (focus omega); (focus omega)))); (try (conv => whnf)); refine RetN.mk ⟨[], rfl, ?_, rfl⟩)
          show AV.bool (bif true then decide (r.most ≥ (c.H : Int) - 3 * (c.N : Int)) else false) = AV.bool true
          rw [decide_eq_true (by omega)]; rfl
      · have hw : r.why ≠ 0 := fun hw => by
          have := short hc hr.toRdB hH
          have hik : i = K := by omega
          rw [hai hw, hik, ← hK] at this
          have e1 : (3 * d + 10) * c.G = 3 * (c.G * d) + 10 * c.G := by rw [Nat.add_mul, Nat.mul_assoc, Nat.mul_comm d]
          rw [e1] at this
          generalize c.G * d = gd at *
          omega
        have hov := hov.resolve_left hw
        have hfin : (c.H : Int) - 3 * (c.N : Int) ≤ r.most := high hc hr.toRdB hX hH hov.2.1 hov.2.2
        ((repeat ((conv => whnf); first | (refine Sure.mk (by kernel_rfl) ?_) | (refine IfB.tt rfl ?_) | (refine IfB.ff rfl ?_) | (refine IfB.tt ?_ ?_; (focus (simp <;> fail))) | (refine IfB.ff ?_ ?_; (focus (simp <;> fail))) | (refine fits (wrap64 ?_ ?_) ?_; (focus omega); (focus omega)) | (refine fits (wrapU64 ?_ ?_) ?_; (focus omega); (focus omega)) | (refine Need.mk ?_ ?_; (focus omega)) | (refine InB.mk ?_ ?_ ?_; (focus omega); (focus omega)))); (try (conv => whnf)); refine IfB.tt (by rw [hov.1]; rfl) ?_)
        ((repeat ((conv => whnf); first | (refine Sure.mk (by kernel_rfl) ?_) | (refine IfB.tt rfl ?_) | (refine IfB.ff rfl ?_) | (refine IfB.tt ?_ ?_; (focus (simp <;> fail))) | (refine IfB.ff ?_ ?_; (focus (simp <;> fail))) | (refine fits (wrap64 ?_ ?_) ?_; (focus omega); (focus omega)) | (refine fits (wrapU64 ?_ ?_) ?_; (focus omega); (focus omega)) | (refine Need.mk ?_ ?_; (focus omega)) | (refine InB.mk ?_ ?_ ?_; (focus omega); (focus omega)))); (try (conv => whnf)); refine RetN.mk ⟨[], rfl, ?_, rfl⟩)
        show AV.bool (bif true then decide (r.most ≥ (c.H : Int) - 3 * (c.N : Int)) else false) = AV.bool true
        rw [decide_eq_true (by omega)]; rfl
theorem gameHigh {x0 x1 x2 : AV} (h0 : Shp T 8 ts_uint8 x0) (h1 : Shp T 8 t_uint8 x1) (h2 : Shp T 8 ts_uint8 x2) : Told P T law22_GameHigh [] [x0, x1, x2] (.bool true) [] := by
  obtain ⟨bs, rfl, hb, hl⟩ := shp_bytes h0
  obtain ⟨b, rfl, hbb⟩ := shp_u8 (by kernel_rfl) h1
  obtain ⟨ls, rfl, hb2, hl2⟩ := shp_bytes h2
  exact gameHigh_told bs ls hb hl hb2 hl2 b hbb
end Go.Ev.W
