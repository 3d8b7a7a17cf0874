/- Words and lemmas for the law s of this seat (a part of its proof). -/
import Derived.Test.YtjddlmnlgfgddaaSd9
import Derived.Test.YtjddlmnlgfgddaaKmap
import Derived.Test.YtjddlmnlgfgddaaSh
set_option linter.unusedVariables false
set_option linter.unusedSimpArgs false
namespace Go.Ev.W
open Go.Ev Go.Ev.N

def lM (l : List M) : AV := .lst t_api_Mark (l.map encM)
set_option maxHeartbeats 4000000 in
theorem putZ (l : List M) (hr : Rise l) (m : M) (hl : l.length ≤ 1000000) : Told P T side_Put [] [lM l, encM m] (lM (putM l m)) [] := by
  have hml : (l.map encM).length = l.length := by simp
  refine told_of_ev (fn := side_Put_fn) tabOk mixed (by kernel_rfl) (by kernel_rfl) (by kernel_rfl) (by kernel_rfl) ?_
  ((repeat ((conv => whnf); first | (refine Sure.mk (by kernel_rfl) ?_) | (refine IfB.tt rfl ?_) | (refine IfB.ff rfl ?_) | (refine IfB.tt ?_ ?_; (focus (simp <;> fail))) | (refine IfB.ff ?_ ?_; (focus (simp <;> fail))) | (refine fits (wrap64 ?_ ?_) ?_; (focus omega); (focus omega)) | (refine Need.mk ?_ ?_; (focus omega)) | (refine InB.mk ?_ ?_ ?_; (focus omega); (focus omega)))); (try (conv => whnf)); refine Choice.mk ⟨false, Choice.mk ⟨false, _, _, clone_Mark (l.map encM) (by omega), ?_⟩⟩)
  ((repeat ((conv => whnf); first | (refine Sure.mk (by kernel_rfl) ?_) | (refine IfB.tt rfl ?_) | (refine IfB.ff rfl ?_) | (refine IfB.tt ?_ ?_; (focus (simp <;> fail))) | (refine IfB.ff ?_ ?_; (focus (simp <;> fail))) | (refine fits (wrap64 ?_ ?_) ?_; (focus omega); (focus omega)) | (refine Need.mk ?_ ?_; (focus omega)) | (refine InB.mk ?_ ?_ ?_; (focus omega); (focus omega)))); (try (conv => whnf)); refine Choice.mk ⟨false, Choice.mk ⟨false, _, _, find_told l hr m.at' hl, ?_⟩⟩)
  refine IfB.mk (fun h1 => ?_) (fun h1 => ?_)
  · have hlt := isAt_lt h1
    ((repeat ((conv => whnf); first | (refine Sure.mk (by kernel_rfl) ?_) | (refine IfB.tt rfl ?_) | (refine IfB.ff rfl ?_) | (refine IfB.tt ?_ ?_; (focus (simp <;> fail))) | (refine IfB.ff ?_ ?_; (focus (simp <;> fail))) | (refine fits (wrap64 ?_ ?_) ?_; (focus omega); (focus omega)) | (refine Need.mk ?_ ?_; (focus omega)) | (refine InB.mk ?_ ?_ ?_; (focus omega); (focus omega)))); (try (conv => whnf)); refine RetN.fz ⟨[true], [], rfl, ?_, rfl⟩)
    show AV.lst t_api_Mark ((l.map encM).set (low m.at' l) (encM m)) = _
    rw [lM, putM, if_pos h1, List.map_set]
  · have h1 : isAt m.at' l = false := h1
    have hi := insert_Mark (l.map encM) (encM m) (low m.at' l) (by rw [hml]; exact low_le _ _) (by omega)
    ((repeat ((conv => whnf); first | (refine Sure.mk (by kernel_rfl) ?_) | (refine IfB.tt rfl ?_) | (refine IfB.ff rfl ?_) | (refine IfB.tt ?_ ?_; (focus (simp <;> fail))) | (refine IfB.ff ?_ ?_; (focus (simp <;> fail))) | (refine fits (wrap64 ?_ ?_) ?_; (focus omega); (focus omega)) | (refine Need.mk ?_ ?_; (focus omega)) | (refine InB.mk ?_ ?_ ?_; (focus omega); (focus omega)))); (try (conv => whnf)); refine Choice.mk ⟨true, Choice.mk ⟨false, _, _, hi, ?_⟩⟩)
    ((repeat ((conv => whnf); first | (refine Sure.mk (by kernel_rfl) ?_) | (refine IfB.tt rfl ?_) | (refine IfB.ff rfl ?_) | (refine IfB.tt ?_ ?_; (focus (simp <;> fail))) | (refine IfB.ff ?_ ?_; (focus (simp <;> fail))) | (refine fits (wrap64 ?_ ?_) ?_; (focus omega); (focus omega)) | (refine Need.mk ?_ ?_; (focus omega)) | (refine InB.mk ?_ ?_ ?_; (focus omega); (focus omega)))); (try (conv => whnf)); refine RetN.fz ⟨[true], [], rfl, ?_, rfl⟩)
    show AV.lst t_api_Mark ((l.map encM).take (low m.at' l) ++ (encM m :: (l.map encM).drop (low m.at' l))) = _
    rw [lM, putM, if_neg (by rw [h1]; decide)]
    simp [List.map_take, List.map_drop]
set_option maxHeartbeats 4000000 in
theorem takeZ (l : List M) (hr : Rise l) (y : Int) (hl : l.length ≤ 1000000) : Told P T side_Take [] [lM l, i64 y] (.tup [lM (if isAt y l = true then takeM l y else l), i64 (if isAt y l = true then clsM l y else 0), .bool (isAt y l)]) [] := by
  have hml : (l.map encM).length = l.length := by simp
  refine told_of_ev (fn := side_Take_fn) tabOk mixed (by kernel_rfl) (by kernel_rfl) (by kernel_rfl) (by kernel_rfl) ?_
  ((repeat ((conv => whnf); first | (refine Sure.mk (by kernel_rfl) ?_) | (refine IfB.tt rfl ?_) | (refine IfB.ff rfl ?_) | (refine IfB.tt ?_ ?_; (focus (simp <;> fail))) | (refine IfB.ff ?_ ?_; (focus (simp <;> fail))) | (refine fits (wrap64 ?_ ?_) ?_; (focus omega); (focus omega)) | (refine Need.mk ?_ ?_; (focus omega)) | (refine InB.mk ?_ ?_ ?_; (focus omega); (focus omega)))); (try (conv => whnf)); refine Choice.mk ⟨false, Choice.mk ⟨false, _, _, clone_Mark (l.map encM) (by omega), ?_⟩⟩)
  ((repeat ((conv => whnf); first | (refine Sure.mk (by kernel_rfl) ?_) | (refine IfB.tt rfl ?_) | (refine IfB.ff rfl ?_) | (refine IfB.tt ?_ ?_; (focus (simp <;> fail))) | (refine IfB.ff ?_ ?_; (focus (simp <;> fail))) | (refine fits (wrap64 ?_ ?_) ?_; (focus omega); (focus omega)) | (refine Need.mk ?_ ?_; (focus omega)) | (refine InB.mk ?_ ?_ ?_; (focus omega); (focus omega)))); (try (conv => whnf)); refine Choice.mk ⟨false, Choice.mk ⟨false, _, _, find_told l hr y hl, ?_⟩⟩)
  cases h : isAt y l with
  | false =>
    ((repeat ((conv => whnf); first | (refine Sure.mk (by kernel_rfl) ?_) | (refine IfB.tt rfl ?_) | (refine IfB.ff rfl ?_) | (refine IfB.tt ?_ ?_; (focus (simp <;> fail))) | (refine IfB.ff ?_ ?_; (focus (simp <;> fail))) | (refine fits (wrap64 ?_ ?_) ?_; (focus omega); (focus omega)) | (refine Need.mk ?_ ?_; (focus omega)) | (refine InB.mk ?_ ?_ ?_; (focus omega); (focus omega)))); (try (conv => whnf)); exact RetN.fz ⟨[true, true, true], [], rfl, rfl, rfl⟩)
  | true =>
    have hlt := isAt_lt h
    ((repeat ((conv => whnf); first | (refine Sure.mk (by kernel_rfl) ?_) | (refine IfB.tt rfl ?_) | (refine IfB.ff rfl ?_) | (refine IfB.tt ?_ ?_; (focus (simp <;> fail))) | (refine IfB.ff ?_ ?_; (focus (simp <;> fail))) | (refine fits (wrap64 ?_ ?_) ?_; (focus omega); (focus omega)) | (refine Need.mk ?_ ?_; (focus omega)) | (refine InB.mk ?_ ?_ ?_; (focus omega); (focus omega)))); (try (conv => whnf)); refine Choice.mk ⟨true, Choice.mk ⟨false, _, _, delete_Mark (l.map encM) (low y l) (by omega) (by omega), ?_⟩⟩)
    ((repeat ((conv => whnf); first | (refine Sure.mk (by kernel_rfl) ?_) | (refine IfB.tt rfl ?_) | (refine IfB.ff rfl ?_) | (refine IfB.tt ?_ ?_; (focus (simp <;> fail))) | (refine IfB.ff ?_ ?_; (focus (simp <;> fail))) | (refine fits (wrap64 ?_ ?_) ?_; (focus omega); (focus omega)) | (refine Need.mk ?_ ?_; (focus omega)) | (refine InB.mk ?_ ?_ ?_; (focus omega); (focus omega)))); (try (conv => whnf)); refine idx_map (hlt) ?_)
    ((repeat ((conv => whnf); first | (refine Sure.mk (by kernel_rfl) ?_) | (refine IfB.tt rfl ?_) | (refine IfB.ff rfl ?_) | (refine IfB.tt ?_ ?_; (focus (simp <;> fail))) | (refine IfB.ff ?_ ?_; (focus (simp <;> fail))) | (refine fits (wrap64 ?_ ?_) ?_; (focus omega); (focus omega)) | (refine Need.mk ?_ ?_; (focus omega)) | (refine InB.mk ?_ ?_ ?_; (focus omega); (focus omega)))); (try (conv => whnf)); refine RetN.fz ⟨[true, true, true], [], rfl, ?_, rfl⟩)
    have e : clsM l y = (l[low y l]).cl := by unfold clsM; rw [List.getElem?_eq_getElem hlt]
    rw [if_pos rfl, if_pos rfl, e]
    show AV.tup [AV.lst t_api_Mark ((((l.map encM).take (low y l) ++ ((l.map encM).drop (low y l + 1) ++ [zeroE T t_api_Mark])).drop 0).take ((l.map encM).length - 1)), i64 (l[low y l]).cl, AV.bool true] = _
    rw [List.drop_zero, ← List.append_assoc, List.take_append_of_le_length (by simp; omega), List.take_of_length_le (by simp; omega)]
    simp [lM, takeM]

abbrev enc3 (p : Nat × Nat × Nat) : AV := .agg [u8 p.1, u8 p.2.1, u8 p.2.2]

set_option maxHeartbeats 8000000 in
set_option maxRecDepth 20000 in
theorem sideOnce_told (l : List (Nat × Nat × Nat)) (hb : ∀ p ∈ l, p.1 < 256 ∧ p.2.1 < 256 ∧ p.2.2 < 256) : Told P T law10_SideOnce [] [.lst tx_a3_uint8 (l.map enc3)] (.bool true) [] := by
  have hml : (l.map enc3).length = l.length := by simp
  refine told_of_ev (fn := law10_SideOnce_fn) tabOk mixed (by kernel_rfl) (by kernel_rfl) (by kernel_rfl) (by kernel_rfl) ?_
  ((repeat ((conv => whnf); first | (refine Sure.mk (by kernel_rfl) ?_) | (refine IfB.tt rfl ?_) | (refine IfB.ff rfl ?_) | (refine IfB.tt ?_ ?_; (focus (simp <;> fail))) | (refine IfB.ff ?_ ?_; (focus (simp <;> fail))) | (refine fits (wrap64 ?_ ?_) ?_; (focus omega); (focus omega)) | (refine Need.mk ?_ ?_; (focus omega)) | (refine InB.mk ?_ ?_ ?_; (focus omega); (focus omega)))); (try (conv => whnf)); refine Choice.mk ⟨false, Choice.mk ⟨true, _, _, begun_told, ?_⟩⟩)
  ((repeat ((conv => whnf); first | (refine Sure.mk (by kernel_rfl) ?_) | (refine IfB.tt rfl ?_) | (refine IfB.ff rfl ?_) | (refine IfB.tt ?_ ?_; (focus (simp <;> fail))) | (refine IfB.ff ?_ ?_; (focus (simp <;> fail))) | (refine fits (wrap64 ?_ ?_) ?_; (focus omega); (focus omega)) | (refine Need.mk ?_ ?_; (focus omega)) | (refine InB.mk ?_ ?_ ?_; (focus omega); (focus omega)))); (try (conv => whnf)); first | refine IfB.dec (fun h0 => ?_) (fun h0 => ?_) | refine IfB.eq (fun h0 => ?_) (fun h0 => ?_) | refine IfB.ne (fun h0 => ?_) (fun h0 => ?_) | refine IfB.mk (fun h0 => ?_) (fun h0 => ?_))
  · ((repeat ((conv => whnf); first | (refine Sure.mk (by kernel_rfl) ?_) | (refine IfB.tt rfl ?_) | (refine IfB.ff rfl ?_) | (refine IfB.tt ?_ ?_; (focus (simp <;> fail))) | (refine IfB.ff ?_ ?_; (focus (simp <;> fail))) | (refine fits (wrap64 ?_ ?_) ?_; (focus omega); (focus omega)) | (refine Need.mk ?_ ?_; (focus omega)) | (refine InB.mk ?_ ?_ ?_; (focus omega); (focus omega)))); (try (conv => whnf)); exact RetN.mk ⟨[], rfl, rfl, rfl⟩)
  · have hlen : l.length ≤ 40 := by omega
    ((repeat ((conv => whnf); first | (refine Sure.mk (by kernel_rfl) ?_) | (refine IfB.tt rfl ?_) | (refine IfB.ff rfl ?_) | (refine IfB.tt ?_ ?_; (focus (simp <;> fail))) | (refine IfB.ff ?_ ?_; (focus (simp <;> fail))) | (refine fits (wrap64 ?_ ?_) ?_; (focus omega); (focus omega)) | (refine Need.mk ?_ ?_; (focus omega)) | (refine InB.mk ?_ ?_ ?_; (focus omega); (focus omega)))); (try (conv => whnf)); refine LoopN.mk ⟨[0,3,4,5], fun vs L => ∃ (i : Nat) (x ds : List M), vs = [.lst tx_a3_uint8 (l.map enc3), lM x, .mp 0, i64 (i : Nat)] ∧ L = [.map t_int (encD ds)] ∧ i ≤ l.length ∧ x.length ≤ i ∧ Rise x ∧ Same ds x, fun vs L => match vs with | [_, _, _, .int _ i] => l.length - i.toNat | _ => 0, [3], [1], rfl, ⟨0, [], [], rfl, rfl, Nat.zero_le _, Nat.le_refl _, List.Pairwise.nil, ⟨List.Pairwise.nil, fun m => Iff.rfl⟩⟩, ?_⟩)
    rintro vs L ⟨i, x, ds, rfl, rfl, hi, hx, hr, hs⟩
    ((repeat ((conv => whnf); first | (refine Sure.mk (by kernel_rfl) ?_) | (refine IfB.tt rfl ?_) | (refine IfB.ff rfl ?_) | (refine IfB.tt ?_ ?_; (focus (simp <;> fail))) | (refine IfB.ff ?_ ?_; (focus (simp <;> fail))) | (refine fits (wrap64 ?_ ?_) ?_; (focus omega); (focus omega)) | (refine Need.mk ?_ ?_; (focus omega)) | (refine InB.mk ?_ ?_ ?_; (focus omega); (focus omega)))); (try (conv => whnf)); first | refine IfB.dec (fun h1 => ?_) (fun h1 => ?_) | refine IfB.eq (fun h1 => ?_) (fun h1 => ?_) | refine IfB.ne (fun h1 => ?_) (fun h1 => ?_) | refine IfB.mk (fun h1 => ?_) (fun h1 => ?_))
    · have hlt : i < l.length := by omega
      have hbi := hb _ (List.getElem_mem hlt)
      ((repeat ((conv => whnf); first | (refine Sure.mk (by kernel_rfl) ?_) | (refine IfB.tt rfl ?_) | (refine IfB.ff rfl ?_) | (refine IfB.tt ?_ ?_; (focus (simp <;> fail))) | (refine IfB.ff ?_ ?_; (focus (simp <;> fail))) | (refine fits (wrap64 ?_ ?_) ?_; (focus omega); (focus omega)) | (refine Need.mk ?_ ?_; (focus omega)) | (refine InB.mk ?_ ?_ ?_; (focus omega); (focus omega)))); (try (conv => whnf)); refine idx_map (hlt) ?_)
      have em : ((l[i].2.1 : Nat) : Int).tmod 16 = ((l[i].2.1 % 16 : Nat) : Int) := by rw [Int.tmod_eq_emod_of_nonneg (by omega)]; omega
      have em3 : ((l[i].1 : Nat) : Int).tmod 3 = ((l[i].1 % 3 : Nat) : Int) := by rw [Int.tmod_eq_emod_of_nonneg (by omega)]; omega
      repeat ((conv => whnf); first | (refine Sure.mk (by kernel_rfl) ?_) | (refine IfB.tt rfl ?_) | (refine IfB.ff rfl ?_) | (refine IfB.tt ?_ ?_; (focus (simp <;> fail))) | (refine IfB.ff ?_ ?_; (focus (simp <;> fail))) | (refine fits (wrap64 ?_ ?_) ?_; (focus omega); (focus omega)) | (refine Need.mk ?_ ?_; (focus omega)) | (refine InB.mk ?_ ?_ ?_; (focus omega); (focus omega)))
      rw [em]
      repeat ((conv => whnf); first | (refine Sure.mk (by kernel_rfl) ?_) | (refine IfB.tt rfl ?_) | (refine IfB.ff rfl ?_) | (refine IfB.tt ?_ ?_; (focus (simp <;> fail))) | (refine IfB.ff ?_ ?_; (focus (simp <;> fail))) | (refine fits (wrap64 ?_ ?_) ?_; (focus omega); (focus omega)) | (refine Need.mk ?_ ?_; (focus omega)) | (refine InB.mk ?_ ?_ ?_; (focus omega); (focus omega)))
      obtain ⟨y, hy⟩ : ∃ y : Int, ((l[i].2.1 % 16 : Nat) : Int) = y := ⟨_, rfl⟩
      rw [hy]
      refine Get.of (mget_encD y ds) ?_
      rw [hs.get hr]
      cases h2 : isAt y x
      case' false =>
        ((repeat ((conv => whnf); first | (refine Sure.mk (by kernel_rfl) ?_) | (refine IfB.tt rfl ?_) | (refine IfB.ff rfl ?_) | (refine IfB.tt ?_ ?_; (focus (simp <;> fail))) | (refine IfB.ff ?_ ?_; (focus (simp <;> fail))) | (refine fits (wrap64 ?_ ?_) ?_; (focus omega); (focus omega)) | (refine Need.mk ?_ ?_; (focus omega)) | (refine InB.mk ?_ ?_ ?_; (focus omega); (focus omega)))); (try (conv => whnf)); refine idx_map (hlt) ?_)
        repeat ((conv => whnf); first | (refine Sure.mk (by kernel_rfl) ?_) | (refine IfB.tt rfl ?_) | (refine IfB.ff rfl ?_) | (refine IfB.tt ?_ ?_; (focus (simp <;> fail))) | (refine IfB.ff ?_ ?_; (focus (simp <;> fail))) | (refine fits (wrap64 ?_ ?_) ?_; (focus omega); (focus omega)) | (refine Need.mk ?_ ?_; (focus omega)) | (refine InB.mk ?_ ?_ ?_; (focus omega); (focus omega)))
        rw [em3]
        ((try (conv => whnf)); refine IfB.dec (fun h3 => ?gp1) (fun h3 => ?gt1))
      case' true =>
        ((repeat ((conv => whnf); first | (refine Sure.mk (by kernel_rfl) ?_) | (refine IfB.tt rfl ?_) | (refine IfB.ff rfl ?_) | (refine IfB.tt ?_ ?_; (focus (simp <;> fail))) | (refine IfB.ff ?_ ?_; (focus (simp <;> fail))) | (refine fits (wrap64 ?_ ?_) ?_; (focus omega); (focus omega)) | (refine Need.mk ?_ ?_; (focus omega)) | (refine InB.mk ?_ ?_ ?_; (focus omega); (focus omega)))); (try (conv => whnf)); refine idx_map (hlt) ?_)
        repeat ((conv => whnf); first | (refine Sure.mk (by kernel_rfl) ?_) | (refine IfB.tt rfl ?_) | (refine IfB.ff rfl ?_) | (refine IfB.tt ?_ ?_; (focus (simp <;> fail))) | (refine IfB.ff ?_ ?_; (focus (simp <;> fail))) | (refine fits (wrap64 ?_ ?_) ?_; (focus omega); (focus omega)) | (refine Need.mk ?_ ?_; (focus omega)) | (refine InB.mk ?_ ?_ ?_; (focus omega); (focus omega)))
        rw [em3]
        ((try (conv => whnf)); refine IfB.dec (fun h3 => ?gp2) (fun h3 => ?gt2))
      case' gp1 | gp2 =>
        obtain ⟨x2, ex⟩ : ∃ x2, putM x ⟨y, (l[i].2.2 : Nat)⟩ = x2 := ⟨_, rfl⟩
        obtain ⟨d2, ed⟩ : ∃ d2, dset ⟨y, (l[i].2.2 : Nat)⟩ ds = d2 := ⟨_, rfl⟩
        have r2 := rise_put hr ⟨y, (l[i].2.2 : Nat)⟩
        have s2 := hs.put hr ⟨y, (l[i].2.2 : Nat)⟩
        have n2 : (putM x ⟨y, (l[i].2.2 : Nat)⟩).length ≤ i + 1 := by have := putM_len x ⟨y, (l[i].2.2 : Nat)⟩; omega
        have hset : mset (encD ds) (.int .i64 y) (.int .i64 ((l[i].2.2 : Nat) : Int)) = encD (dset ⟨y, (l[i].2.2 : Nat)⟩ ds) := mset_encD ⟨y, (l[i].2.2 : Nat)⟩ ds
        have hp := putZ x hr ⟨y, (l[i].2.2 : Nat)⟩ (by omega)
        rw [ex] at r2 s2 n2 hp
        rw [ed] at s2 hset
        have hm2 : (x2.map encM).length = x2.length := by simp
        have hd2 : (encD d2).length = d2.length := by simp [encD]
        have ll := s2.len r2
        have hne : ((((x2.map encM).length : Nat) : Int) != (((mset (encD ds) (i64 y) (i64 ((l[i].2.2 : Nat) : Int))).length : Nat) : Int)) = false := by rw [hm2, hset, hd2, ll]; simp
        ((repeat ((conv => whnf); first | (refine Sure.mk (by kernel_rfl) ?_) | (refine IfB.tt rfl ?_) | (refine IfB.ff rfl ?_) | (refine IfB.tt ?_ ?_; (focus (simp <;> fail))) | (refine IfB.ff ?_ ?_; (focus (simp <;> fail))) | (refine fits (wrap64 ?_ ?_) ?_; (focus omega); (focus omega)) | (refine Need.mk ?_ ?_; (focus omega)) | (refine InB.mk ?_ ?_ ?_; (focus omega); (focus omega)))); (try (conv => whnf)); refine idx_map (hlt) ?_)
        ((repeat ((conv => whnf); first | (refine Sure.mk (by kernel_rfl) ?_) | (refine IfB.tt rfl ?_) | (refine IfB.ff rfl ?_) | (refine IfB.tt ?_ ?_; (focus (simp <;> fail))) | (refine IfB.ff ?_ ?_; (focus (simp <;> fail))) | (refine fits (wrap64 ?_ ?_) ?_; (focus omega); (focus omega)) | (refine Need.mk ?_ ?_; (focus omega)) | (refine InB.mk ?_ ?_ ?_; (focus omega); (focus omega)))); (try (conv => whnf)); refine Choice.mk ⟨false, Choice.mk ⟨false, _, _, hp, ?_⟩⟩)
        ((repeat ((conv => whnf); first | (refine Sure.mk (by kernel_rfl) ?_) | (refine IfB.tt rfl ?_) | (refine IfB.ff rfl ?_) | (refine IfB.tt ?_ ?_; (focus (simp <;> fail))) | (refine IfB.ff ?_ ?_; (focus (simp <;> fail))) | (refine fits (wrap64 ?_ ?_) ?_; (focus omega); (focus omega)) | (refine Need.mk ?_ ?_; (focus omega)) | (refine InB.mk ?_ ?_ ?_; (focus omega); (focus omega)))); (try (conv => whnf)); refine idx_map (hlt) ?_)
      case' gt1 | gt2 =>
        obtain ⟨x2, ex⟩ : ∃ x2, (if isAt y x = true then takeM x y else x) = x2 := ⟨_, rfl⟩
        obtain ⟨d2, ed⟩ : ∃ d2, ddel y ds = d2 := ⟨_, rfl⟩
        have hset : mdel (encD ds) (.int .i64 y) = encD (ddel y ds) := mdel_encD y ds
        have hp := takeZ x hr y (by omega)
        have r2 : Rise x2 := by
          rw [← ex]; by_cases h : isAt y x = true
          · rw [if_pos h]; exact rise_take hr y
          · rw [if_neg h]; exact hr
        have s2 : Same d2 x2 := by
          rw [← ex, ← ed]; by_cases h : isAt y x = true
          · rw [if_pos h]; exact hs.take hr h
          · rw [if_neg h]; exact hs.no hr (by simpa using h)
        have n2 : x2.length ≤ i + 1 := by
          rw [← ex]; by_cases h : isAt y x = true
          · rw [if_pos h]
            have : (takeM x y).length ≤ x.length := by unfold takeM; simp; omega
            omega
          · rw [if_neg h]; omega
        rw [ex, h2] at hp
        rw [ed] at hset
        have hm2 : (x2.map encM).length = x2.length := by simp
        have hd2 : (encD d2).length = d2.length := by simp [encD]
        have ll := s2.len r2
        have hne : ((((x2.map encM).length : Nat) : Int) != (((mdel (encD ds) (i64 y)).length : Nat) : Int)) = false := by rw [hm2, hset, hd2, ll]; simp
        ((repeat ((conv => whnf); first | (refine Sure.mk (by kernel_rfl) ?_) | (refine IfB.tt rfl ?_) | (refine IfB.ff rfl ?_) | (refine IfB.tt ?_ ?_; (focus (simp <;> fail))) | (refine IfB.ff ?_ ?_; (focus (simp <;> fail))) | (refine fits (wrap64 ?_ ?_) ?_; (focus omega); (focus omega)) | (refine Need.mk ?_ ?_; (focus omega)) | (refine InB.mk ?_ ?_ ?_; (focus omega); (focus omega)))); (try (conv => whnf)); refine Choice.mk ⟨false, Choice.mk ⟨false, _, _, hp, ?_⟩⟩)

      all_goals
        ((repeat ((conv => whnf); first | (refine Sure.mk (by kernel_rfl) ?_) | (refine IfB.tt rfl ?_) | (refine IfB.ff rfl ?_) | (refine IfB.tt ?_ ?_; (focus (simp <;> fail))) | (refine IfB.ff ?_ ?_; (focus (simp <;> fail))) | (refine fits (wrap64 ?_ ?_) ?_; (focus omega); (focus omega)) | (refine Need.mk ?_ ?_; (focus omega)) | (refine InB.mk ?_ ?_ ?_; (focus omega); (focus omega)))); (try (conv => whnf)); refine IfB.ff (hne) ?_)
        ((repeat ((conv => whnf); first | (refine Sure.mk (by kernel_rfl) ?_) | (refine IfB.tt rfl ?_) | (refine IfB.ff rfl ?_) | (refine IfB.tt ?_ ?_; (focus (simp <;> fail))) | (refine IfB.ff ?_ ?_; (focus (simp <;> fail))) | (refine fits (wrap64 ?_ ?_) ?_; (focus omega); (focus omega)) | (refine Need.mk ?_ ?_; (focus omega)) | (refine InB.mk ?_ ?_ ?_; (focus omega); (focus omega)))); (try (conv => whnf)); refine LoopN.mk ⟨[0,3,4,5,12], fun vs L => ∃ j : Nat, vs = [.lst tx_a3_uint8 (l.map enc3), lM x2, .mp 0, i64 (i : Nat), i64 (j : Nat)] ∧ L = [.map t_int (encD d2)] ∧ j ≤ 16, fun vs L => match vs with | [_, _, _, _, .int _ i] => 16 - i.toNat | _ => 0, [3], [0], rfl, ⟨0, rfl, by rw [← hset]; rfl, by omega⟩, ?_⟩)
        rintro vs L ⟨j, rfl, rfl, hj⟩
        ((repeat ((conv => whnf); first | (refine Sure.mk (by kernel_rfl) ?_) | (refine IfB.tt rfl ?_) | (refine IfB.ff rfl ?_) | (refine IfB.tt ?_ ?_; (focus (simp <;> fail))) | (refine IfB.ff ?_ ?_; (focus (simp <;> fail))) | (refine fits (wrap64 ?_ ?_) ?_; (focus omega); (focus omega)) | (refine Need.mk ?_ ?_; (focus omega)) | (refine InB.mk ?_ ?_ ?_; (focus omega); (focus omega)))); (try (conv => whnf)); first | refine IfB.dec (fun h4 => ?_) (fun h4 => ?_) | refine IfB.eq (fun h4 => ?_) (fun h4 => ?_) | refine IfB.ne (fun h4 => ?_) (fun h4 => ?_) | refine IfB.mk (fun h4 => ?_) (fun h4 => ?_))
        · have hj2 : j < 16 := by omega
          repeat ((conv => whnf); first | (refine Sure.mk (by kernel_rfl) ?_) | (refine IfB.tt rfl ?_) | (refine IfB.ff rfl ?_) | (refine IfB.tt ?_ ?_; (focus (simp <;> fail))) | (refine IfB.ff ?_ ?_; (focus (simp <;> fail))) | (refine fits (wrap64 ?_ ?_) ?_; (focus omega); (focus omega)) | (refine Need.mk ?_ ?_; (focus omega)) | (refine InB.mk ?_ ?_ ?_; (focus omega); (focus omega)))
          refine Get.of (mget_encD ((j : Nat) : Int) d2) ?_
          rw [s2.get r2]
          have hc := class_told x2 r2 ((j : Nat) : Int) (by omega)
          cases h5 : isAt ((j : Nat) : Int) x2
          all_goals
            rw [h5] at hc
            ((repeat ((conv => whnf); first | (refine Sure.mk (by kernel_rfl) ?_) | (refine IfB.tt rfl ?_) | (refine IfB.ff rfl ?_) | (refine IfB.tt ?_ ?_; (focus (simp <;> fail))) | (refine IfB.ff ?_ ?_; (focus (simp <;> fail))) | (refine fits (wrap64 ?_ ?_) ?_; (focus omega); (focus omega)) | (refine Need.mk ?_ ?_; (focus omega)) | (refine InB.mk ?_ ?_ ?_; (focus omega); (focus omega)))); (try (conv => whnf)); refine Choice.mk ⟨false, Choice.mk ⟨true, _, _, hc, ?_⟩⟩)
            ((repeat ((conv => whnf); first | (refine Sure.mk (by kernel_rfl) ?_) | (refine IfB.tt rfl ?_) | (refine IfB.ff rfl ?_) | (refine IfB.tt ?_ ?_; (focus (simp <;> fail))) | (refine IfB.ff ?_ ?_; (focus (simp <;> fail))) | (refine fits (wrap64 ?_ ?_) ?_; (focus omega); (focus omega)) | (refine Need.mk ?_ ?_; (focus omega)) | (refine InB.mk ?_ ?_ ?_; (focus omega); (focus omega)))); (try (conv => whnf)); refine ⟨[], [0], rfl, ⟨j + 1, rfl, rfl, hj2⟩, (by omega : 16 - ((j : Int) + 1).toNat < 16 - (j : Int).toNat)⟩)
        · ((repeat ((conv => whnf); first | (refine Sure.mk (by kernel_rfl) ?_) | (refine IfB.tt rfl ?_) | (refine IfB.ff rfl ?_) | (refine IfB.tt ?_ ?_; (focus (simp <;> fail))) | (refine IfB.ff ?_ ?_; (focus (simp <;> fail))) | (refine fits (wrap64 ?_ ?_) ?_; (focus omega); (focus omega)) | (refine Need.mk ?_ ?_; (focus omega)) | (refine InB.mk ?_ ?_ ?_; (focus omega); (focus omega)))); (try (conv => whnf)); refine LoopN.mk ⟨[0,3,4,5,17], fun vs L => ∃ j : Nat, vs = [.lst tx_a3_uint8 (l.map enc3), lM x2, .mp 0, i64 (i : Nat), i64 (j : Nat)] ∧ L = [.map t_int (encD d2)] ∧ 1 ≤ j, fun vs L => match vs with | [_, _, _, _, .int _ i] => x2.length - i.toNat | _ => 0, [], [0], rfl, ⟨1, rfl, rfl, by omega⟩, ?_⟩)
          rintro vs L ⟨j, rfl, rfl, hj⟩
          ((repeat ((conv => whnf); first | (refine Sure.mk (by kernel_rfl) ?_) | (refine IfB.tt rfl ?_) | (refine IfB.ff rfl ?_) | (refine IfB.tt ?_ ?_; (focus (simp <;> fail))) | (refine IfB.ff ?_ ?_; (focus (simp <;> fail))) | (refine fits (wrap64 ?_ ?_) ?_; (focus omega); (focus omega)) | (refine Need.mk ?_ ?_; (focus omega)) | (refine InB.mk ?_ ?_ ?_; (focus omega); (focus omega)))); (try (conv => whnf)); first | refine IfB.dec (fun h5 => ?_) (fun h5 => ?_) | refine IfB.eq (fun h5 => ?_) (fun h5 => ?_) | refine IfB.ne (fun h5 => ?_) (fun h5 => ?_) | refine IfB.mk (fun h5 => ?_) (fun h5 => ?_))
          · have hj2 : j < x2.length := by omega
            have hlt2 := List.pairwise_iff_getElem.1 r2 (j - 1) j (by omega) hj2 (by omega)
            repeat ((conv => whnf); first | (refine Sure.mk (by kernel_rfl) ?_) | (refine IfB.tt rfl ?_) | (refine IfB.ff rfl ?_) | (refine IfB.tt ?_ ?_; (focus (simp <;> fail))) | (refine IfB.ff ?_ ?_; (focus (simp <;> fail))) | (refine fits (wrap64 ?_ ?_) ?_; (focus omega); (focus omega)) | (refine Need.mk ?_ ?_; (focus omega)) | (refine InB.mk ?_ ?_ ?_; (focus omega); (focus omega)))
            refine idx_map' (j - 1) (by omega) (by omega) ?_
            ((repeat ((conv => whnf); first | (refine Sure.mk (by kernel_rfl) ?_) | (refine IfB.tt rfl ?_) | (refine IfB.ff rfl ?_) | (refine IfB.tt ?_ ?_; (focus (simp <;> fail))) | (refine IfB.ff ?_ ?_; (focus (simp <;> fail))) | (refine fits (wrap64 ?_ ?_) ?_; (focus omega); (focus omega)) | (refine Need.mk ?_ ?_; (focus omega)) | (refine InB.mk ?_ ?_ ?_; (focus omega); (focus omega)))); (try (conv => whnf)); refine idx_map (hj2) ?_)
            ((repeat ((conv => whnf); first | (refine Sure.mk (by kernel_rfl) ?_) | (refine IfB.tt rfl ?_) | (refine IfB.ff rfl ?_) | (refine IfB.tt ?_ ?_; (focus (simp <;> fail))) | (refine IfB.ff ?_ ?_; (focus (simp <;> fail))) | (refine fits (wrap64 ?_ ?_) ?_; (focus omega); (focus omega)) | (refine Need.mk ?_ ?_; (focus omega)) | (refine InB.mk ?_ ?_ ?_; (focus omega); (focus omega)))); (try (conv => whnf)); first | refine IfB.dec (fun h6 => ?_) (fun h6 => ?_) | refine IfB.eq (fun h6 => ?_) (fun h6 => ?_) | refine IfB.ne (fun h6 => ?_) (fun h6 => ?_) | refine IfB.mk (fun h6 => ?_) (fun h6 => ?_))
            · omega
            · ((repeat ((conv => whnf); first | (refine Sure.mk (by kernel_rfl) ?_) | (refine IfB.tt rfl ?_) | (refine IfB.ff rfl ?_) | (refine IfB.tt ?_ ?_; (focus (simp <;> fail))) | (refine IfB.ff ?_ ?_; (focus (simp <;> fail))) | (refine fits (wrap64 ?_ ?_) ?_; (focus omega); (focus omega)) | (refine Need.mk ?_ ?_; (focus omega)) | (refine InB.mk ?_ ?_ ?_; (focus omega); (focus omega)))); (try (conv => whnf)); refine ⟨[], [0], rfl, ⟨j + 1, rfl, rfl, by omega⟩, (by omega : x2.length - ((j : Int) + 1).toNat < x2.length - (j : Int).toNat)⟩)
          · ((repeat ((conv => whnf); first | (refine Sure.mk (by kernel_rfl) ?_) | (refine IfB.tt rfl ?_) | (refine IfB.ff rfl ?_) | (refine IfB.tt ?_ ?_; (focus (simp <;> fail))) | (refine IfB.ff ?_ ?_; (focus (simp <;> fail))) | (refine fits (wrap64 ?_ ?_) ?_; (focus omega); (focus omega)) | (refine Need.mk ?_ ?_; (focus omega)) | (refine InB.mk ?_ ?_ ?_; (focus omega); (focus omega)))); (try (conv => whnf)); refine ⟨[], [0], rfl, ⟨i + 1, x2, d2, rfl, rfl, hlt, n2, r2, s2⟩, (by omega : l.length - ((i : Int) + 1).toNat < l.length - (i : Int).toNat)⟩)
    · ((repeat ((conv => whnf); first | (refine Sure.mk (by kernel_rfl) ?_) | (refine IfB.tt rfl ?_) | (refine IfB.ff rfl ?_) | (refine IfB.tt ?_ ?_; (focus (simp <;> fail))) | (refine IfB.ff ?_ ?_; (focus (simp <;> fail))) | (refine fits (wrap64 ?_ ?_) ?_; (focus omega); (focus omega)) | (refine Need.mk ?_ ?_; (focus omega)) | (refine InB.mk ?_ ?_ ?_; (focus omega); (focus omega)))); (try (conv => whnf)); exact RetN.mk ⟨[], rfl, rfl, rfl⟩)

