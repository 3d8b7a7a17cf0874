/- Words and lemmas for the law s of this seat (a part of its proof). -/
import Derived.Test.YtkbopikamadjoaaW11
set_option linter.unusedVariables false
set_option linter.unusedSimpArgs false
namespace Go.Ev.W
open Go.Ev Go.Ev.N

theorem shp_u8 {x : AV} (h : Shp T 8 t_uint8 x) : ∃ n : Int, x = .int .u8 n ∧ 0 ≤ n ∧ n < 256 := by
  obtain ⟨n, rfl, hn⟩ := h
  refine ⟨n, rfl, ?_⟩
  have h2 : IntKind.u8.min ≤ n ∧ n ≤ IntKind.u8.max := by simpa [Lit.wf] using hn
  have e1 : IntKind.u8.min = 0 := by decide
  have e2 : IntKind.u8.max = 255 := by decide
  rw [e1, e2] at h2; omega

/-- Noughts between. -/
def gaps (n : Nat) : List Int := (List.range n).map fun (i : Nat) => w8 (11 * i)
theorem gaps_succ (n : Nat) : gaps (n + 1) = gaps n ++ [w8 (11 * n)] := by simp [gaps, List.range_succ]
theorem take_gaps : ∀ (n : Nat), n ≤ 9 → ∀ bs, take (gaps n ++ bs) = take bs
  | 0, _, bs => rfl
  | n + 1, h, bs => by
    rw [gaps_succ, List.append_assoc, take_gaps n (by omega), List.singleton_append, take_cons, if_pos]
    rw [w8_mod]
    have : (11 * (n : Int)) % 256 = 11 * n := by omega
    rw [this]; omega
theorem gaps_len (n : Nat) : (gaps n).length = n := by simp [gaps]
theorem isB_gaps (n : Nat) : IsB (gaps n) := by
  intro b hb
  obtain ⟨i, _, rfl⟩ := List.mem_map.1 hb
  exact w8_range _

/-- Bytes as a text. -/
def toBA (bs : List Int) : ByteArray := ⟨(bs.map fun b => UInt8.ofNat b.toNat).toArray⟩
theorem toBA_enc {bs : List Int} (h : IsB bs) : encB bs = (toBA bs).data.toList.map (fun b => .int .u8 b.toNat) := by
  unfold encB toBA
  simp only [List.map_map]
  refine List.map_congr_left fun b hb => ?_
  have := h b hb
  simp only [Function.comp_apply, AV.int.injEq, true_and, UInt8.toNat_ofNat']
  omega
theorem toBA_app (a b : List Int) : toBA (a ++ b) = toBA a ++ toBA b := by
  apply ByteArray.ext
  simp [toBA]
theorem toBA_size (a : List Int) : (toBA a).size = a.length := by simp [toBA, ByteArray.size]

set_option maxHeartbeats 8000000 in
theorem wireJoins {x y z : AV} (hx : Shp T 8 ts_uint8 x) (hy : Shp T 8 ts_uint8 y) (hz : Shp T 8 t_uint8 z) : Told P T law25_WireJoins [] [x, y, z] (.bool true) [] := by
  obtain ⟨us, rfl, ha, _⟩ := shp_bytes hx
  obtain ⟨bs, rfl, hb, _⟩ := shp_bytes hy
  obtain ⟨n, rfl, hn0, hn1⟩ := shp_u8 hz
  have hal : (encB us).length = us.length := by simp [encB]
  have hbl : (encB bs).length = bs.length := by simp [encB]
  refine told_of_ev (fn := law25_WireJoins_fn) tabOk mixed (by kernel_rfl) (by kernel_rfl) (by kernel_rfl) (by kernel_rfl) ?_
  refine Choice.mk ⟨false, Choice.mk ⟨true, _, _, begun_told, ?_⟩⟩
  refine IfB.ff rfl ?_
  refine IfB.mk (fun h1 => ?_) (fun h1 => ?_)
  · repeat refine IfB.tt rfl ?_
    refine RetN.mk ?_
    exact ⟨[], rfl, rfl, rfl⟩
  repeat refine IfB.ff rfl ?_
  refine IfB.mk (fun h2 => ?_) (fun h2 => ?_)
  · exact RetN.mk ⟨[], rfl, rfl, rfl⟩
  have h2 : decide (((encB bs).length : Int) > 100) = false := h2
  have hl1 : us.length ≤ 100 := by
    have := of_decide_eq_false h1; rw [hal] at this; omega
  have hl2 : bs.length ≤ 100 := by
    have := of_decide_eq_false h2; rw [hbl] at this; omega
  have hg1 := take_good _ us (Nat.le_refl _) ha
  have hg2 := take_good _ bs (Nat.le_refl _) hb
  have hlen1 : (take us).length ≤ us.length := take_len _ _ (Nat.le_refl _)
  have hlen2 : (take bs).length ≤ bs.length := take_len _ _ (Nat.le_refl _)
  refine Choice.mk ⟨false, Choice.mk ⟨false, _, _, take_told us ha (by omega), ?_⟩⟩
  refine Choice.mk ⟨false, Choice.mk ⟨false, _, _, take_told bs hb (by omega), ?_⟩⟩
  generalize take us = l at *
  generalize take bs = m at *
  have hlm : ([] ++ l.map encO ++ m.map encO) = (l ++ m).map encO := by simp
  have hbx := isB_putAll (l := l) fun o ho => (hg1 o ho).2
  have hby := isB_putAll (l := m) fun o ho => (hg2 o ho).2
  have hxl := putAll_len l
  have hyl := putAll_len m
  have hex : (encB (putAll l)).length = (putAll l).length := by simp [encB]
  have hey : (encB (putAll m)).length = (putAll m).length := by simp [encB]
  refine Room.mk (by simp; omega) ?_
  refine Room.mk (by simp; omega) ?_
  refine Choice.mk ⟨false, Choice.mk ⟨false, _, _, putAll_told l (fun o ho => (hg1 o ho).2) (by omega), ?_⟩⟩
  refine Choice.mk ⟨false, Choice.mk ⟨false, _, _, putAll_told m (fun o ho => (hg2 o ho).2) (by omega), ?_⟩⟩
  refine Room.mk (by simp [hex]; omega) ?_
  rw [hlm]
  have hn9 : n.tmod 9 = n % 9 := Int.tmod_eq_emod_of_nonneg hn0
  refine LoopN.mk ⟨[2, 9, 10, 11, 12, 13], fun vs L => ∃ i : Nat, vs = [.int .u8 n, .ref 0, .ref 1, .ref 2, .ref 3, .int .i64 (i : Nat)] ∧ i ≤ (n % 9).toNat ∧ L = [.row t_api_Op ((l ++ m).map encO), .row t_uint8 (encB (putAll l)), .row t_uint8 (encB (putAll m)), .row t_uint8 (encB (putAll l ++ gaps i))],
    fun vs L => match vs with | [_, _, _, _, _, .int _ i] => (n % 9).toNat - i.toNat | _ => 0, [4, 5, 6, 8], rfl, ⟨0, rfl, Nat.zero_le _, by rw [show putAll l ++ gaps 0 = putAll l by simp [gaps]]; rfl⟩, ?_⟩
  rintro vs L ⟨i, rfl, hi, rfl⟩
  refine Need.mk (by decide) ?_
  refine fits (wrap64 (by rw [hn9]; omega) (by rw [hn9]; omega)) ?_
  rw [hn9]
  refine IfB.mk (fun h3 => ?_) (fun h3 => ?_)
  · have hlt : (i : Int) < n % 9 := of_decide_eq_true h3
    refine fits (wrap64 (by omega) (by omega)) ?_
    refine Fits.mk ?_
    refine Room.mk (by simp [encB, gaps_len]; omega) ?_
    refine fits (wrap64 (by omega) (by omega)) ?_
    refine ⟨[0, 1, 2, 5], rfl, ⟨i + 1, ?_, by omega, ?_⟩, ?_⟩
    · rw [show (((i + 1 : Nat)) : Int) = ((i : Nat) : Int) + 1 by omega]; rfl
    · rw [gaps_succ, ← List.append_assoc, encB_app (putAll l ++ gaps i)]; rfl
    · show (n % 9).toNat - (((i : Nat) : Int) + 1).toNat < (n % 9).toNat - ((i : Nat) : Int).toNat
      omega
  · have ht := take_told (putAll l ++ gaps i ++ putAll m) (isB_app (isB_app hbx (isB_gaps i)) hby) (by simp [gaps_len]; omega)
    have hall : take (putAll l ++ gaps i ++ putAll m) = l ++ m := by
      rw [List.append_assoc, putAll_good (fun o ho => (hg1 o ho).1), take_gaps i (by omega)]
      have := putAll_good (fun o ho => (hg2 o ho).1) []
      rw [List.append_nil, take_nil, List.append_nil] at this
      rw [this]
    rw [hall, encB_app (putAll l ++ gaps i)] at ht
    have hO : ∀ o ∈ l ++ m, IsO o := fun o ho => (List.mem_append.1 ho).elim (fun h => (hg1 o h).2) (fun h => (hg2 o h).2)
    have hsame := sameOps (l ++ m) (l ++ m) (by simp; omega)
    rw [decide_eq_true rfl] at hsame
    have hput := putAll_told (l ++ m) hO (by simp; omega)
    refine Room.mk (by simp [encB, gaps_len]; omega) ?_
    refine Choice.mk ⟨false, Choice.mk ⟨false, _, _, ht, ?_⟩⟩
    refine Choice.mk ⟨false, Choice.mk ⟨false, _, _, hsame, ?_⟩⟩
    repeat refine IfB.tt rfl ?_
    refine Choice.mk ⟨false, Choice.mk ⟨false, _, _, hput, ?_⟩⟩
    repeat refine IfB.tt rfl ?_
    refine Bytes.mk ⟨toBA (putAll (l ++ m)), toBA_enc (isB_putAll hO), ?_⟩
    repeat refine IfB.tt rfl ?_
    refine Bytes.mk ⟨toBA (putAll l), toBA_enc hbx, ?_⟩
    repeat refine IfB.tt rfl ?_
    refine Bytes.mk ⟨toBA (putAll m), toBA_enc hby, ?_⟩
    repeat refine IfB.tt rfl ?_
    refine Room.mk (by rw [toBA_size, toBA_size]; omega) ?_
    repeat refine IfB.tt rfl ?_
    refine Sure.mk (by kernel_rfl) ?_
    refine RetN.mk ⟨[], rfl, ?_, rfl⟩
    show AV.bool _ = AV.bool true
    rw [putAll_app, toBA_app, beq_self_eq_true]
    rfl
end Go.Ev.W
