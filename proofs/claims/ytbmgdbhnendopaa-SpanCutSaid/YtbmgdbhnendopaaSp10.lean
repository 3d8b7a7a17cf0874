/- Words and lemmas for the law s of this seat (a part of its proof). -/
import Derived.Test.YtbmgdbhnendopaaSp9
import Derived.Test.YtbmgdbhnendopaaSh
set_option linter.unusedVariables false
set_option linter.unusedSimpArgs false
namespace Go.Ev.W
open Go.Ev Go.Ev.N

theorem shp_span {n : Nat} {x : AV} (h : Shp T (n + 2) t_api_Span x) : ∃ s : Sp, x = eS s := by
  unfold Shp at h
  obtain ⟨ys, rfl, hy, hn⟩ := (show ∃ ys : List AV, x = .agg (ys.flatMap cells) ∧ ys.length = 2 ∧ ∀ (i : Nat) (p : Nat × Nat) (y : AV), [((0 : Nat), t_int), (1, t_int)][i]? = some p → ys[i]? = some y → Shp T (n + 1) p.2 y from h)
  match ys, hy, hn with
  | [u, v], _, hn =>
    obtain ⟨a, rfl, _⟩ := shp_i64 (by kernel_rfl) (hn 0 _ u rfl rfl)
    obtain ⟨b, rfl, _⟩ := shp_i64 (by kernel_rfl) (hn 1 _ v rfl rfl)
    exact ⟨⟨a, b⟩, rfl⟩
theorem shp_spans {n : Nat} {x : AV} (h : Shp T (n + 3) ts_api_Span x) : ∃ l, x = lS l ∧ l.length ≤ maxLen := by
  obtain ⟨l, rfl, h1, _⟩ := shp_list (e := t_api_Span) eS (fun _ => True) (by kernel_rfl) h fun y hy => by
    obtain ⟨s, rfl⟩ := shp_span hy
    exact ⟨s, rfl, trivial⟩
  exact ⟨l, rfl, h1⟩
theorem spanAll {x0 x1 x2 x3 x4 : AV} (h0 : Shp T 8 ts_uint8 x0) (h1 : Shp T 8 ts_api_Span x1) (h2 : Shp T 8 t_api_Span x2) (h3 : Shp T 8 t_uint8 x3) (h4 : Shp T 8 t_uint8 x4) : Told P T law8_SpanAll [] [x0, x1, x2, x3, x4] (.bool true) [] := by
  obtain ⟨bs, rfl, hb, hl⟩ := shp_bytes h0
  obtain ⟨w, rfl, hw⟩ := shp_spans h1
  obtain ⟨s, rfl⟩ := shp_span h2
  obtain ⟨a, rfl, ha⟩ := shp_u8 (by kernel_rfl) h3
  obtain ⟨b, rfl, hb'⟩ := shp_u8 (by kernel_rfl) h4
  exact spanAll_told bs hb hl w hw s a b ha hb'
theorem spanCut {x0 x1 : AV} (h0 : Shp T 8 ts_uint8 x0) (h1 : Shp T 8 t_uint8 x1) : Told P T law8_SpanCut [] [x0, x1] (.bool true) [] := by
  obtain ⟨bs, rfl, hb, hl⟩ := shp_bytes h0
  obtain ⟨a, rfl, ha⟩ := shp_u8 (by kernel_rfl) h1
  exact spanCut_told bs hb hl a ha
theorem spanApart {x0 : AV} (h0 : Shp T 8 ts_uint8 x0) : Told P T law8_SpanApart [] [x0] (.bool true) [] := by
  obtain ⟨bs, rfl, hb, hl⟩ := shp_bytes h0
  exact spanApart_told bs hb hl
end Go.Ev.W

