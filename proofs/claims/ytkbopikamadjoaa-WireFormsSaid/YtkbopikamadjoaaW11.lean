/- Words and lemmas for the law s of this seat (a part of its proof). -/
import Derived.Test.YtkbopikamadjoaaW10
import Derived.Test.YtkbopikamadjoaaEvOpen
set_option linter.unusedVariables false
set_option linter.unusedSimpArgs false
namespace Go.Ev.W
open Go.Ev Go.Ev.N

theorem encB_take (bs : List Int) (n : Nat) : (encB bs).take n = encB (bs.take n) := by simp [encB, List.map_take]
theorem shp_u16 {x : AV} (h : Shp T 8 t_uint16 x) : ∃ n : Int, x = .int .u16 n ∧ 0 ≤ n ∧ n < 65536 := by
  obtain ⟨n, rfl, hn⟩ := h
  refine ⟨n, rfl, ?_⟩
  have h2 : IntKind.u16.min ≤ n ∧ n ≤ IntKind.u16.max := by simpa [Lit.wf] using hn
  have e1 : IntKind.u16.min = 0 := by decide
  have e2 : IntKind.u16.max = 65535 := by decide
  rw [e1, e2] at h2; omega

set_option maxHeartbeats 8000000 in
theorem wireBack {x y : AV} (hx : Shp T 8 ts_uint8 x) (hy : Shp T 8 t_uint16 y) : Told P T law25_WireBack [] [x, y] (.bool true) [] := by
  obtain ⟨bs, rfl, hb, _⟩ := shp_bytes hx
  obtain ⟨cut, rfl, hc0, hc1⟩ := shp_u16 hy
  have hbl : (encB bs).length = bs.length := by simp [encB]
  refine told_of_ev (fn := law25_WireBack_fn) tabOk mixed (by kernel_rfl) (by kernel_rfl) (by kernel_rfl) (by kernel_rfl) ?_
  refine Choice.mk ⟨false, Choice.mk ⟨true, _, _, begun_told, ?_⟩⟩
  refine IfB.ff rfl ?_
  refine IfB.mk (fun h1 => ?_) (fun h1 => ?_)
  · exact RetN.mk ⟨[], rfl, rfl, rfl⟩
  have hl : bs.length ≤ 200 := by
    have := of_decide_eq_false h1; rw [hbl] at this; omega
  have hg := take_good _ bs (Nat.le_refl _) hb
  have hgood : ∀ o ∈ take bs, Good o := fun o ho => (hg o ho).1
  have hO : ∀ o ∈ take bs, IsO o := fun o ho => (hg o ho).2
  have hlen : (take bs).length ≤ bs.length := take_len _ _ (Nat.le_refl _)
  refine Choice.mk ⟨false, Choice.mk ⟨false, _, _, take_told bs hb (by omega), ?_⟩⟩
  generalize take bs = l at *
  refine Choice.mk ⟨false, Choice.mk ⟨false, _, _, putAll_told l hO (by omega), ?_⟩⟩
  have hback : take (putAll l) = l := by
    have := putAll_good hgood []
    rw [List.append_nil, take_nil, List.append_nil] at this
    exact this
  have hcl := putAll_len l
  have hcb := isB_putAll hO
  have hcut := @putAll_cut l hgood
  have hnil := @putAll_nil l hgood
  have hpl : (encB (putAll l)).length = (putAll l).length := by simp [encB]
  have ht := take_told (putAll l) hcb (by omega)
  rw [hback] at ht
  refine Choice.mk ⟨false, Choice.mk ⟨false, _, _, ht, ?_⟩⟩
  refine Choice.mk ⟨false, Choice.mk ⟨false, _, _, sameOps l l (by omega), ?_⟩⟩
  refine IfB.ff (by simp) ?_
  refine IfB.mk (fun h2 => ?_) (fun h2 => ?_)
  · refine RetN.mk ⟨[], rfl, ?_, rfl⟩
    show AV.bool (((l.map encO).length : Int) == 0) = AV.bool true
    have : (putAll l).length = 0 := by rw [hpl] at h2; simpa using h2
    rw [hnil this]; rfl
  refine fits (wrap64 (by omega) (by omega)) ?_
  have hc3 : (putAll l).length ≠ 0 := by
    intro e; rw [hpl, e] at h2; simp at h2
  refine Need.mk (by rw [hpl]; omega) ?_
  have hmod : cut.tmod ((encB (putAll l)).length : Int) = cut % ((putAll l).length : Int) := by rw [hpl]; exact Int.tmod_eq_emod_of_nonneg hc0
  have hm1 := Int.emod_nonneg cut (b := ((putAll l).length : Int)) (by omega)
  have hm2 := Int.emod_lt_of_pos cut (b := ((putAll l).length : Int)) (by omega)
  refine Cut.mk (by decide) (by rw [hmod]; exact hm1) (by rw [hmod, hpl]; omega) ?_
  obtain ⟨n, hn⟩ : ∃ n : Nat, cut % ((putAll l).length : Int) = n := ⟨_, (Int.toNat_of_nonneg hm1).symm⟩
  rw [hmod, hn]
  rw [hn] at hm2
  have hnl : n < (putAll l).length := by omega
  have ht2 := take_told ((putAll l).take n) (isB_take hcb n) (by simp; omega)
  rw [← encB_take] at ht2
  refine Choice.mk ⟨false, Choice.mk ⟨false, _, _, ht2, ?_⟩⟩
  obtain ⟨k, hk, ek⟩ := hcut n hnl
  rw [ek]
  have hkl : (l.take k).length = k := by simp; omega
  refine IfB.mk (fun h5 => ?_) (fun h5 => ?_)
  · refine IfB.tt rfl ?_
    repeat refine IfB.tt rfl ?_
    refine Cut.mk (by decide) (by omega) (by simp; omega) ?_
    repeat refine IfB.tt rfl ?_
    have e : (l.map encO).take ((((l.take k).map encO).length : Int).toNat) = (l.take k).map encO := by
      rw [List.length_map, hkl, Int.toNat_natCast, List.map_take]
    have hs : Told P T ref17_SameOps [] [.lst t_api_Op ((l.take k).map encO), .lst t_api_Op ((l.map encO).take ((((l.take k).map encO).length : Int).toNat))] (.bool true) [] := by
      rw [e]
      have := sameOps (l.take k) (l.take k) (by omega)
      simpa using this
    refine Choice.mk ⟨false, Choice.mk ⟨true, _, _, hs, ?_⟩⟩
    exact RetN.mk ⟨[], rfl, rfl, rfl⟩
  · exfalso
    simp at h5
    omega
end Go.Ev.W
