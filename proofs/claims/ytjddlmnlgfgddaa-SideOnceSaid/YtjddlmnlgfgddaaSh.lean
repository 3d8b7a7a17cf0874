/- Words and lemmas for the law s of this seat (a part of its proof). -/
import Derived.Test.YtjddlmnlgfgddaaPk
set_option linter.unusedVariables false
set_option linter.unusedSimpArgs false
namespace Go.Ev.W
open Go.Ev Go.Ev.N

theorem shp_u8 {n : Nat} {t : Nat} {x : AV} (hk : (T t).k = .int .u8) (h : Shp T (n + 1) t x) : ∃ b : Nat, x = u8 b ∧ b < 256 := by
  unfold Shp at h
  rw [hk] at h
  obtain ⟨a, rfl, ha⟩ := h
  have h1 : IntKind.u8.min ≤ a ∧ a ≤ IntKind.u8.max := by simpa [Lit.wf] using ha
  have e1 : IntKind.u8.min = 0 := by decide
  have e2 : IntKind.u8.max = 255 := by decide
  rw [e1, e2] at h1
  refine ⟨a.toNat, ?_, by omega⟩
  show _ = AV.int .u8 ((a.toNat : Nat) : Int)
  rw [show ((a.toNat : Nat) : Int) = a by omega]
theorem shp_u16 {n : Nat} {t : Nat} {x : AV} (hk : (T t).k = .int .u16) (h : Shp T (n + 1) t x) : ∃ b : Nat, x = .int .u16 (b : Int) ∧ b < 65536 := by
  unfold Shp at h
  rw [hk] at h
  obtain ⟨a, rfl, ha⟩ := h
  have h1 : IntKind.u16.min ≤ a ∧ a ≤ IntKind.u16.max := by simpa [Lit.wf] using ha
  have e1 : IntKind.u16.min = 0 := by decide
  have e2 : IntKind.u16.max = 65535 := by decide
  rw [e1, e2] at h1
  refine ⟨a.toNat, ?_, by omega⟩
  rw [show ((a.toNat : Nat) : Int) = a by omega]
theorem shp_i64 {n : Nat} {t : Nat} {x : AV} (hk : (T t).k = .int .i64) (h : Shp T (n + 1) t x) : ∃ a : Int, x = i64 a ∧ -9223372036854775808 ≤ a ∧ a ≤ 9223372036854775807 := by
  unfold Shp at h
  rw [hk] at h
  obtain ⟨a, rfl, ha⟩ := h
  have h1 : IntKind.i64.min ≤ a ∧ a ≤ IntKind.i64.max := by simpa [Lit.wf] using ha
  have e1 : IntKind.i64.min = -9223372036854775808 := by decide
  have e2 : IntKind.i64.max = 9223372036854775807 := by decide
  rw [e1, e2] at h1
  exact ⟨a, rfl, h1.1, h1.2⟩
theorem shp_bool {n : Nat} {t : Nat} {x : AV} (hk : (T t).k = .bool) (h : Shp T (n + 1) t x) : ∃ b : Bool, x = .bool b := by
  unfold Shp at h
  rw [hk] at h
  exact h
/-- A row, of what its elements are. -/
theorem shp_list {α : Type} (enc : α → AV) (Q : α → Prop) {n t e : Nat} {x : AV} (hk : (T t).k = .slice e) (h : Shp T (n + 1) t x) (he : ∀ y, Shp T n e y → ∃ a, y = enc a ∧ Q a) : ∃ l : List α, x = .lst e (l.map enc) ∧ l.length ≤ maxLen ∧ ∀ a ∈ l, Q a := by
  unfold Shp at h
  rw [hk] at h
  obtain ⟨es, rfl, hl, hy⟩ := h
  have : ∃ l : List α, es = l.map enc ∧ ∀ a ∈ l, Q a := by
    clear hl
    induction es with
    | nil => exact ⟨[], rfl, fun a h => by simp at h⟩
    | cons y es ih =>
      obtain ⟨l, rfl, hb⟩ := ih fun z hz => hy z (by simp [hz])
      obtain ⟨a, rfl, ha⟩ := he y (hy y (by simp))
      exact ⟨a :: l, rfl, fun b hb' => (List.mem_cons.1 hb').elim (fun e => e ▸ ha) (hb b)⟩
  obtain ⟨l, rfl, hq⟩ := this
  exact ⟨l, rfl, by simpa using hl, hq⟩
theorem shp_bytes {n : Nat} {x : AV} (h : Shp T (n + 2) ts_uint8 x) : ∃ l, x = lB l ∧ IsB l ∧ l.length ≤ maxLen := by
  obtain ⟨l, rfl, h1, h2⟩ := shp_list (e := t_uint8) u8 (fun b => b < 256) (by kernel_rfl) h fun y hy => by
    obtain ⟨b, rfl, hb⟩ := shp_u8 (by kernel_rfl) hy
    exact ⟨b, rfl, hb⟩
  exact ⟨l, rfl, h2, h1⟩
end Go.Ev.W

