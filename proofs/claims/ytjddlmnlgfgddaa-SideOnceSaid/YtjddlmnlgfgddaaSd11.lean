/- Words and lemmas for the law s of this seat (a part of its proof). -/
import Derived.Test.YtjddlmnlgfgddaaSd10
set_option linter.unusedVariables false
set_option linter.unusedSimpArgs false
namespace Go.Ev.W
open Go.Ev Go.Ev.N
theorem shp_3 {n t : Nat} {x : AV} (hk : (T t).k = .slice tx_a3_uint8) (h : Shp T (n + 3) t x) : ∃ l : List (Nat × Nat × Nat), x = .lst tx_a3_uint8 (l.map enc3) ∧ l.length ≤ maxLen ∧ ∀ p ∈ l, p.1 < 256 ∧ p.2.1 < 256 ∧ p.2.2 < 256 :=
  shp_list enc3 (fun p => p.1 < 256 ∧ p.2.1 < 256 ∧ p.2.2 < 256) hk h fun y hy => by
    obtain ⟨ys, rfl, hl, hn⟩ := (show ∃ ys : List AV, y = .agg (ys.flatMap cells) ∧ ys.length = 3 ∧ ∀ z ∈ ys, Shp T (n + 1) t_uint8 z from hy)
    match ys, hl, hn with
    | [u, v, w], _, hn =>
      obtain ⟨a, rfl, ha⟩ := shp_u8 (by kernel_rfl) (hn u (by simp))
      obtain ⟨b, rfl, hb⟩ := shp_u8 (by kernel_rfl) (hn v (by simp))
      obtain ⟨c, rfl, hc⟩ := shp_u8 (by kernel_rfl) (hn w (by simp))
      exact ⟨(a, b, c), rfl, ha, hb, hc⟩
theorem sideOnce {x0 : AV} (h0 : Shp T 8 46 x0) : Told P T law10_SideOnce [] [x0] (.bool true) [] := by
  obtain ⟨l, rfl, _, hb⟩ := shp_3 (by kernel_rfl) h0
  exact sideOnce_told l hb
end Go.Ev.W

