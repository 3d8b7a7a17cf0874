/- Words and lemmas for the law s of this seat (a part of its proof). -/
import Derived.Test.YtbmgdbhnendopaaSp1
set_option linter.unusedVariables false
set_option linter.unusedSimpArgs false
namespace Go.Ev.W
open Go.Ev Go.Ev.N

def lowS (y : Int) : List Sp → Nat
  | [] => 0
  | x :: l => if x.a < y then lowS y l + 1 else 0
theorem lowS_le (y : Int) : ∀ l, lowS y l ≤ l.length
  | [] => Nat.le_refl _
  | m :: l => by
    have := lowS_le y l
    unfold lowS; split <;> simp <;> omega
theorem lowS_lt {y : Int} : ∀ {l : List Sp} {k : Nat} (hk : k < l.length), k < lowS y l → l[k].a < y
  | [], k, h, _ => by simp at h
  | m :: l, 0, h, h2 => by
    unfold lowS at h2; split at h2
    · assumption
    · omega
  | m :: l, k + 1, h, h2 => by
    unfold lowS at h2; split at h2
    · exact lowS_lt (l := l) (by simpa using h) (by omega)
    · omega
theorem lowS_ge {y : Int} : ∀ {l : List Sp} (hk : lowS y l < l.length), y ≤ l[lowS y l].a
  | [], h => by simp at h
  | m :: l, h => by
    by_cases hm : m.a < y
    · have e : lowS y (m :: l) = lowS y l + 1 := by simp [lowS, hm]
      simp only [e] at h ⊢
      exact lowS_ge (l := l) (by simpa using h)
    · have e : lowS y (m :: l) = 0 := by simp [lowS, hm]
      simp only [e]
      simp; omega
/-- Put, as it is done. -/
def clashR (l : List Sp) (s : Sp) : Bool :=
  (match lowS s.a l with
    | 0 => false
    | k + 1 => match l[k]? with | some x => decide (x.a + x.n > s.a) | none => false) ||
  (match l[lowS s.a l]? with | some x => decide (s.a + s.n > x.a) | none => false)
def putR (l : List Sp) (s : Sp) : List Sp × Bool :=
  if oneB s = true ∧ clashR l s = false then (l.take (lowS s.a l) ++ s :: l.drop (lowS s.a l), true) else (l, false)

set_option maxHeartbeats 1000000 in
theorem put_told (l : List Sp) (s : Sp) (hl : l.length ≤ 100000) (hb : ∀ x ∈ l, oneB x = true) : Told P T span_Put [] [lS l, eS s] (.tup [lS (putR l s).1, .bool (putR l s).2]) [] := by
  have hml : (l.map eS).length = l.length := by simp
  refine told_of_ev (fn := span_Put_fn) tabOk mixed (by kernel_rfl) (by kernel_rfl) (by kernel_rfl) (by kernel_rfl) ?_
  ((repeat ((conv => whnf); first | (refine Sure.mk (by kernel_rfl) ?_) | (refine IfB.tt rfl ?_) | (refine IfB.ff rfl ?_) | (refine IfB.tt ?_ ?_; (focus (simp <;> fail))) | (refine IfB.ff ?_ ?_; (focus (simp <;> fail))) | (refine fits (wrap64 ?_ ?_) ?_; (focus omega); (focus omega)) | (refine Need.mk ?_ ?_; (focus omega)) | (refine InB.mk ?_ ?_ ?_; (focus omega); (focus omega)))); (try (conv => whnf)); refine Choice.mk ⟨false, Choice.mk ⟨false, _, _, clone_Span _ (by rw [hml]; omega), ?_⟩⟩)
  ((repeat ((conv => whnf); first | (refine Sure.mk (by kernel_rfl) ?_) | (refine IfB.tt rfl ?_) | (refine IfB.ff rfl ?_) | (refine IfB.tt ?_ ?_; (focus (simp <;> fail))) | (refine IfB.ff ?_ ?_; (focus (simp <;> fail))) | (refine fits (wrap64 ?_ ?_) ?_; (focus omega); (focus omega)) | (refine Need.mk ?_ ?_; (focus omega)) | (refine InB.mk ?_ ?_ ?_; (focus omega); (focus omega)))); (try (conv => whnf)); refine Choice.mk ⟨false, Choice.mk ⟨true, _, _, one_told s, ?_⟩⟩)
  cases h1 : oneB s with
  | false =>
    repeat ((conv => whnf); first | (refine Sure.mk (by kernel_rfl) ?_) | (refine IfB.tt rfl ?_) | (refine IfB.ff rfl ?_) | (refine IfB.tt ?_ ?_; (focus (simp <;> fail))) | (refine IfB.ff ?_ ?_; (focus (simp <;> fail))) | (refine fits (wrap64 ?_ ?_) ?_; (focus omega); (focus omega)) | (refine Need.mk ?_ ?_; (focus omega)) | (refine InB.mk ?_ ?_ ?_; (focus omega); (focus omega)))
    ((repeat ((conv => whnf); first | (refine Sure.mk (by kernel_rfl) ?_) | (refine IfB.tt rfl ?_) | (refine IfB.ff rfl ?_) | (refine IfB.tt ?_ ?_; (focus (simp <;> fail))) | (refine IfB.ff ?_ ?_; (focus (simp <;> fail))) | (refine fits (wrap64 ?_ ?_) ?_; (focus omega); (focus omega)) | (refine Need.mk ?_ ?_; (focus omega)) | (refine InB.mk ?_ ?_ ?_; (focus omega); (focus omega)))); (try (conv => whnf)); refine RetN.fz ⟨[true, true], [], rfl, ?_, rfl⟩)
    simp only [putR, h1]; rfl
  | true =>
    repeat ((conv => whnf); first | (refine Sure.mk (by kernel_rfl) ?_) | (refine IfB.tt rfl ?_) | (refine IfB.ff rfl ?_) | (refine IfB.tt ?_ ?_; (focus (simp <;> fail))) | (refine IfB.ff ?_ ?_; (focus (simp <;> fail))) | (refine fits (wrap64 ?_ ?_) ?_; (focus omega); (focus omega)) | (refine Need.mk ?_ ?_; (focus omega)) | (refine InB.mk ?_ ?_ ?_; (focus omega); (focus omega)))
    ((repeat ((conv => whnf); first | (refine Sure.mk (by kernel_rfl) ?_) | (refine IfB.tt rfl ?_) | (refine IfB.ff rfl ?_) | (refine IfB.tt ?_ ?_; (focus (simp <;> fail))) | (refine IfB.ff ?_ ?_; (focus (simp <;> fail))) | (refine fits (wrap64 ?_ ?_) ?_; (focus omega); (focus omega)) | (refine Need.mk ?_ ?_; (focus omega)) | (refine InB.mk ?_ ?_ ?_; (focus omega); (focus omega)))); (try (conv => whnf)); refine LoopN.mk ⟨[0,3,6,7], fun vs L => ∃ i : Nat, vs = [lS l, .ptr 0 0 0, .ref 1, i64 i] ∧ L = [.var (eS s), .row t_api_Span (l.map eS)] ∧ i ≤ lowS s.a l, fun vs L => match vs with | [_, _, _, .int _ i] => l.length - i.toNat | _ => 0, [], [0, 2], rfl, ⟨0, rfl, rfl, by omega⟩, ?_⟩)
    rintro vs L ⟨i, rfl, rfl, hi⟩
    have hle := lowS_le s.a l
    repeat ((conv => whnf); first | (refine Sure.mk (by kernel_rfl) ?_) | (refine IfB.tt rfl ?_) | (refine IfB.ff rfl ?_) | (refine IfB.tt ?_ ?_; (focus (simp <;> fail))) | (refine IfB.ff ?_ ?_; (focus (simp <;> fail))) | (refine fits (wrap64 ?_ ?_) ?_; (focus omega); (focus omega)) | (refine Need.mk ?_ ?_; (focus omega)) | (refine InB.mk ?_ ?_ ?_; (focus omega); (focus omega)))
    have fin : ∀ P : Prop, (i = lowS s.a l → P) → (i < lowS s.a l → P) → P := fun P a b => by
      rcases Nat.lt_or_ge i (lowS s.a l) with h | h
      · exact b h
      · exact a (by omega)
    have step : i < lowS s.a l → ∃ h : i < l.length, l[i].a < s.a := fun h => ⟨by omega, lowS_lt _ h⟩
    have stop : i = lowS s.a l → ∀ h : i < l.length, ¬ l[i].a < s.a := fun h h' => by subst h; have := lowS_ge h'; omega
    have hP : clashR l s = true → putR l s = (l, false) := fun h => by simp [putR, h]
    have hQ : clashR l s = false → putR l s = (l.take (lowS s.a l) ++ s :: l.drop (lowS s.a l), true) := fun h => by simp [putR, h, h1]
    have hI := insert_Span (l.map eS) (eS s) (lowS s.a l) (by omega) (by omega)
    have hR : (l.map eS).take (lowS s.a l) ++ (eS s :: (l.map eS).drop (lowS s.a l)) = (l.take (lowS s.a l) ++ s :: l.drop (lowS s.a l)).map eS := by simp
    simp [oneB] at h1
    ((repeat ((conv => whnf); first | (refine Sure.mk (by kernel_rfl) ?_) | (refine IfB.tt rfl ?_) | (refine IfB.ff rfl ?_) | (refine IfB.tt ?_ ?_; (focus (simp <;> fail))) | (refine IfB.ff ?_ ?_; (focus (simp <;> fail))) | (refine fits (wrap64 ?_ ?_) ?_; (focus omega); (focus omega)) | (refine Need.mk ?_ ?_; (focus omega)) | (refine InB.mk ?_ ?_ ?_; (focus omega); (focus omega)))); (try (conv => whnf)); first | refine IfB.dec (fun h2 => ?_) (fun h2 => ?_) | refine IfB.eq (fun h2 => ?_) (fun h2 => ?_) | refine IfB.ne (fun h2 => ?_) (fun h2 => ?_) | refine IfB.mk (fun h2 => ?_) (fun h2 => ?_))
    · have hlt : i < l.length := by omega
      repeat ((conv => whnf); first | (refine Sure.mk (by kernel_rfl) ?_) | (refine IfB.tt rfl ?_) | (refine IfB.ff rfl ?_) | (refine IfB.tt ?_ ?_; (focus (simp <;> fail))) | (refine IfB.ff ?_ ?_; (focus (simp <;> fail))) | (refine fits (wrap64 ?_ ?_) ?_; (focus omega); (focus omega)) | (refine Need.mk ?_ ?_; (focus omega)) | (refine InB.mk ?_ ?_ ?_; (focus omega); (focus omega)))
      ((repeat ((conv => whnf); first | (refine Sure.mk (by kernel_rfl) ?_) | (refine IfB.tt rfl ?_) | (refine IfB.ff rfl ?_) | (refine IfB.tt ?_ ?_; (focus (simp <;> fail))) | (refine IfB.ff ?_ ?_; (focus (simp <;> fail))) | (refine fits (wrap64 ?_ ?_) ?_; (focus omega); (focus omega)) | (refine Need.mk ?_ ?_; (focus omega)) | (refine InB.mk ?_ ?_ ?_; (focus omega); (focus omega)))); (try (conv => whnf)); refine idx_map (hlt) ?_)
      repeat ((conv => whnf); first | (refine Sure.mk (by kernel_rfl) ?_) | (refine IfB.tt rfl ?_) | (refine IfB.ff rfl ?_) | (refine IfB.tt ?_ ?_; (focus (simp <;> fail))) | (refine IfB.ff ?_ ?_; (focus (simp <;> fail))) | (refine fits (wrap64 ?_ ?_) ?_; (focus omega); (focus omega)) | (refine Need.mk ?_ ?_; (focus omega)) | (refine InB.mk ?_ ?_ ?_; (focus omega); (focus omega)))
      ((repeat ((conv => whnf); first | (refine Sure.mk (by kernel_rfl) ?_) | (refine IfB.tt rfl ?_) | (refine IfB.ff rfl ?_) | (refine IfB.tt ?_ ?_; (focus (simp <;> fail))) | (refine IfB.ff ?_ ?_; (focus (simp <;> fail))) | (refine fits (wrap64 ?_ ?_) ?_; (focus omega); (focus omega)) | (refine Need.mk ?_ ?_; (focus omega)) | (refine InB.mk ?_ ?_ ?_; (focus omega); (focus omega)))); (try (conv => whnf)); first | refine IfB.dec (fun h3 => ?_) (fun h3 => ?_) | refine IfB.eq (fun h3 => ?_) (fun h3 => ?_) | refine IfB.ne (fun h3 => ?_) (fun h3 => ?_) | refine IfB.mk (fun h3 => ?_) (fun h3 => ?_))
      · have : i ≠ lowS s.a l := fun e => stop e hlt h3
        repeat ((conv => whnf); first | (refine Sure.mk (by kernel_rfl) ?_) | (refine IfB.tt rfl ?_) | (refine IfB.ff rfl ?_) | (refine IfB.tt ?_ ?_; (focus (simp <;> fail))) | (refine IfB.ff ?_ ?_; (focus (simp <;> fail))) | (refine fits (wrap64 ?_ ?_) ?_; (focus omega); (focus omega)) | (refine Need.mk ?_ ?_; (focus omega)) | (refine InB.mk ?_ ?_ ?_; (focus omega); (focus omega)))
        ((repeat ((conv => whnf); first | (refine Sure.mk (by kernel_rfl) ?_) | (refine IfB.tt rfl ?_) | (refine IfB.ff rfl ?_) | (refine IfB.tt ?_ ?_; (focus (simp <;> fail))) | (refine IfB.ff ?_ ?_; (focus (simp <;> fail))) | (refine fits (wrap64 ?_ ?_) ?_; (focus omega); (focus omega)) | (refine Need.mk ?_ ?_; (focus omega)) | (refine InB.mk ?_ ?_ ?_; (focus omega); (focus omega)))); (try (conv => whnf)); refine ⟨[], [0, 1], rfl, ⟨i + 1, rfl, rfl, by omega⟩, (by omega : l.length - ((i : Int) + 1).toNat < l.length - (i : Int).toNat)⟩)
      · have e : i = lowS s.a l := by
          refine fin _ id fun h => ?_
          obtain ⟨_, h⟩ := step h; exact absurd h h3
        repeat ((conv => whnf); first | (refine Sure.mk (by kernel_rfl) ?_) | (refine IfB.tt rfl ?_) | (refine IfB.ff rfl ?_) | (refine IfB.tt ?_ ?_; (focus (simp <;> fail))) | (refine IfB.ff ?_ ?_; (focus (simp <;> fail))) | (refine fits (wrap64 ?_ ?_) ?_; (focus omega); (focus omega)) | (refine Need.mk ?_ ?_; (focus omega)) | (refine InB.mk ?_ ?_ ?_; (focus omega); (focus omega)))
        ((repeat ((conv => whnf); first | (refine Sure.mk (by kernel_rfl) ?_) | (refine IfB.tt rfl ?_) | (refine IfB.ff rfl ?_) | (refine IfB.tt ?_ ?_; (focus (simp <;> fail))) | (refine IfB.ff ?_ ?_; (focus (simp <;> fail))) | (refine fits (wrap64 ?_ ?_) ?_; (focus omega); (focus omega)) | (refine Need.mk ?_ ?_; (focus omega)) | (refine InB.mk ?_ ?_ ?_; (focus omega); (focus omega)))); (try (conv => whnf)); first | refine IfB.dec (fun h4 => ?_) (fun h4 => ?_) | refine IfB.eq (fun h4 => ?_) (fun h4 => ?_) | refine IfB.ne (fun h4 => ?_) (fun h4 => ?_) | refine IfB.mk (fun h4 => ?_) (fun h4 => ?_))
        · have hp : i - 1 < l.length := by omega
          have hx := hb _ (List.getElem_mem hp)
          simp [oneB] at hx
          repeat ((conv => whnf); first | (refine Sure.mk (by kernel_rfl) ?_) | (refine IfB.tt rfl ?_) | (refine IfB.ff rfl ?_) | (refine IfB.tt ?_ ?_; (focus (simp <;> fail))) | (refine IfB.ff ?_ ?_; (focus (simp <;> fail))) | (refine fits (wrap64 ?_ ?_) ?_; (focus omega); (focus omega)) | (refine Need.mk ?_ ?_; (focus omega)) | (refine InB.mk ?_ ?_ ?_; (focus omega); (focus omega)))
          refine idx_map' (i - 1) (by omega) hp ?_
          repeat ((conv => whnf); first | (refine Sure.mk (by kernel_rfl) ?_) | (refine IfB.tt rfl ?_) | (refine IfB.ff rfl ?_) | (refine IfB.tt ?_ ?_; (focus (simp <;> fail))) | (refine IfB.ff ?_ ?_; (focus (simp <;> fail))) | (refine fits (wrap64 ?_ ?_) ?_; (focus omega); (focus omega)) | (refine Need.mk ?_ ?_; (focus omega)) | (refine InB.mk ?_ ?_ ?_; (focus omega); (focus omega)))
          refine idx_map' (i - 1) (by omega) hp ?_
          repeat ((conv => whnf); first | (refine Sure.mk (by kernel_rfl) ?_) | (refine IfB.tt rfl ?_) | (refine IfB.ff rfl ?_) | (refine IfB.tt ?_ ?_; (focus (simp <;> fail))) | (refine IfB.ff ?_ ?_; (focus (simp <;> fail))) | (refine fits (wrap64 ?_ ?_) ?_; (focus omega); (focus omega)) | (refine Need.mk ?_ ?_; (focus omega)) | (refine InB.mk ?_ ?_ ?_; (focus omega); (focus omega)))
          ((repeat ((conv => whnf); first | (refine Sure.mk (by kernel_rfl) ?_) | (refine IfB.tt rfl ?_) | (refine IfB.ff rfl ?_) | (refine IfB.tt ?_ ?_; (focus (simp <;> fail))) | (refine IfB.ff ?_ ?_; (focus (simp <;> fail))) | (refine fits (wrap64 ?_ ?_) ?_; (focus omega); (focus omega)) | (refine Need.mk ?_ ?_; (focus omega)) | (refine InB.mk ?_ ?_ ?_; (focus omega); (focus omega)))); (try (conv => whnf)); first | refine IfB.dec (fun h5 => ?_) (fun h5 => ?_) | refine IfB.eq (fun h5 => ?_) (fun h5 => ?_) | refine IfB.ne (fun h5 => ?_) (fun h5 => ?_) | refine IfB.mk (fun h5 => ?_) (fun h5 => ?_))
          · have hc : clashR l s = true := by
              simp only [clashR, ← e]
              rw [show i = i - 1 + 1 by omega]
              simp [hp]; left; omega
            repeat ((conv => whnf); first | (refine Sure.mk (by kernel_rfl) ?_) | (refine IfB.tt rfl ?_) | (refine IfB.ff rfl ?_) | (refine IfB.tt ?_ ?_; (focus (simp <;> fail))) | (refine IfB.ff ?_ ?_; (focus (simp <;> fail))) | (refine fits (wrap64 ?_ ?_) ?_; (focus omega); (focus omega)) | (refine Need.mk ?_ ?_; (focus omega)) | (refine InB.mk ?_ ?_ ?_; (focus omega); (focus omega)))
            ((repeat ((conv => whnf); first | (refine Sure.mk (by kernel_rfl) ?_) | (refine IfB.tt rfl ?_) | (refine IfB.ff rfl ?_) | (refine IfB.tt ?_ ?_; (focus (simp <;> fail))) | (refine IfB.ff ?_ ?_; (focus (simp <;> fail))) | (refine fits (wrap64 ?_ ?_) ?_; (focus omega); (focus omega)) | (refine Need.mk ?_ ?_; (focus omega)) | (refine InB.mk ?_ ?_ ?_; (focus omega); (focus omega)))); (try (conv => whnf)); refine RetN.fz ⟨[true, true], [], rfl, ?_, rfl⟩)
            rw [hP hc]; rfl
          · repeat ((conv => whnf); first | (refine Sure.mk (by kernel_rfl) ?_) | (refine IfB.tt rfl ?_) | (refine IfB.ff rfl ?_) | (refine IfB.tt ?_ ?_; (focus (simp <;> fail))) | (refine IfB.ff ?_ ?_; (focus (simp <;> fail))) | (refine fits (wrap64 ?_ ?_) ?_; (focus omega); (focus omega)) | (refine Need.mk ?_ ?_; (focus omega)) | (refine InB.mk ?_ ?_ ?_; (focus omega); (focus omega)))
            ((repeat ((conv => whnf); first | (refine Sure.mk (by kernel_rfl) ?_) | (refine IfB.tt rfl ?_) | (refine IfB.ff rfl ?_) | (refine IfB.tt ?_ ?_; (focus (simp <;> fail))) | (refine IfB.ff ?_ ?_; (focus (simp <;> fail))) | (refine fits (wrap64 ?_ ?_) ?_; (focus omega); (focus omega)) | (refine Need.mk ?_ ?_; (focus omega)) | (refine InB.mk ?_ ?_ ?_; (focus omega); (focus omega)))); (try (conv => whnf)); first | refine IfB.dec (fun h6 => ?_) (fun h6 => ?_) | refine IfB.eq (fun h6 => ?_) (fun h6 => ?_) | refine IfB.ne (fun h6 => ?_) (fun h6 => ?_) | refine IfB.mk (fun h6 => ?_) (fun h6 => ?_))
            · repeat ((conv => whnf); first | (refine Sure.mk (by kernel_rfl) ?_) | (refine IfB.tt rfl ?_) | (refine IfB.ff rfl ?_) | (refine IfB.tt ?_ ?_; (focus (simp <;> fail))) | (refine IfB.ff ?_ ?_; (focus (simp <;> fail))) | (refine fits (wrap64 ?_ ?_) ?_; (focus omega); (focus omega)) | (refine Need.mk ?_ ?_; (focus omega)) | (refine InB.mk ?_ ?_ ?_; (focus omega); (focus omega)))
              ((repeat ((conv => whnf); first | (refine Sure.mk (by kernel_rfl) ?_) | (refine IfB.tt rfl ?_) | (refine IfB.ff rfl ?_) | (refine IfB.tt ?_ ?_; (focus (simp <;> fail))) | (refine IfB.ff ?_ ?_; (focus (simp <;> fail))) | (refine fits (wrap64 ?_ ?_) ?_; (focus omega); (focus omega)) | (refine Need.mk ?_ ?_; (focus omega)) | (refine InB.mk ?_ ?_ ?_; (focus omega); (focus omega)))); (try (conv => whnf)); refine idx_map (hlt) ?_)
              repeat ((conv => whnf); first | (refine Sure.mk (by kernel_rfl) ?_) | (refine IfB.tt rfl ?_) | (refine IfB.ff rfl ?_) | (refine IfB.tt ?_ ?_; (focus (simp <;> fail))) | (refine IfB.ff ?_ ?_; (focus (simp <;> fail))) | (refine fits (wrap64 ?_ ?_) ?_; (focus omega); (focus omega)) | (refine Need.mk ?_ ?_; (focus omega)) | (refine InB.mk ?_ ?_ ?_; (focus omega); (focus omega)))
              ((repeat ((conv => whnf); first | (refine Sure.mk (by kernel_rfl) ?_) | (refine IfB.tt rfl ?_) | (refine IfB.ff rfl ?_) | (refine IfB.tt ?_ ?_; (focus (simp <;> fail))) | (refine IfB.ff ?_ ?_; (focus (simp <;> fail))) | (refine fits (wrap64 ?_ ?_) ?_; (focus omega); (focus omega)) | (refine Need.mk ?_ ?_; (focus omega)) | (refine InB.mk ?_ ?_ ?_; (focus omega); (focus omega)))); (try (conv => whnf)); first | refine IfB.dec (fun h7 => ?_) (fun h7 => ?_) | refine IfB.eq (fun h7 => ?_) (fun h7 => ?_) | refine IfB.ne (fun h7 => ?_) (fun h7 => ?_) | refine IfB.mk (fun h7 => ?_) (fun h7 => ?_))
              · have hc : clashR l s = true := by
                  simp only [clashR, ← e]
                  simp [hlt]; right; omega
                repeat ((conv => whnf); first | (refine Sure.mk (by kernel_rfl) ?_) | (refine IfB.tt rfl ?_) | (refine IfB.ff rfl ?_) | (refine IfB.tt ?_ ?_; (focus (simp <;> fail))) | (refine IfB.ff ?_ ?_; (focus (simp <;> fail))) | (refine fits (wrap64 ?_ ?_) ?_; (focus omega); (focus omega)) | (refine Need.mk ?_ ?_; (focus omega)) | (refine InB.mk ?_ ?_ ?_; (focus omega); (focus omega)))
                ((repeat ((conv => whnf); first | (refine Sure.mk (by kernel_rfl) ?_) | (refine IfB.tt rfl ?_) | (refine IfB.ff rfl ?_) | (refine IfB.tt ?_ ?_; (focus (simp <;> fail))) | (refine IfB.ff ?_ ?_; (focus (simp <;> fail))) | (refine fits (wrap64 ?_ ?_) ?_; (focus omega); (focus omega)) | (refine Need.mk ?_ ?_; (focus omega)) | (refine InB.mk ?_ ?_ ?_; (focus omega); (focus omega)))); (try (conv => whnf)); refine RetN.fz ⟨[true, true], [], rfl, ?_, rfl⟩)
                rw [hP hc]; rfl
              · have hc : clashR l s = false := by
                  simp only [clashR, ← e]
                  rw [show i = i - 1 + 1 by omega]
                  simp [hp, show i - 1 + 1 = i by omega, hlt]; omega
                repeat ((conv => whnf); first | (refine Sure.mk (by kernel_rfl) ?_) | (refine IfB.tt rfl ?_) | (refine IfB.ff rfl ?_) | (refine IfB.tt ?_ ?_; (focus (simp <;> fail))) | (refine IfB.ff ?_ ?_; (focus (simp <;> fail))) | (refine fits (wrap64 ?_ ?_) ?_; (focus omega); (focus omega)) | (refine Need.mk ?_ ?_; (focus omega)) | (refine InB.mk ?_ ?_ ?_; (focus omega); (focus omega)))
                subst e
                ((repeat ((conv => whnf); first | (refine Sure.mk (by kernel_rfl) ?_) | (refine IfB.tt rfl ?_) | (refine IfB.ff rfl ?_) | (refine IfB.tt ?_ ?_; (focus (simp <;> fail))) | (refine IfB.ff ?_ ?_; (focus (simp <;> fail))) | (refine fits (wrap64 ?_ ?_) ?_; (focus omega); (focus omega)) | (refine Need.mk ?_ ?_; (focus omega)) | (refine InB.mk ?_ ?_ ?_; (focus omega); (focus omega)))); (try (conv => whnf)); refine Choice.mk ⟨true, Choice.mk ⟨false, _, _, hI, ?_⟩⟩)
                repeat ((conv => whnf); first | (refine Sure.mk (by kernel_rfl) ?_) | (refine IfB.tt rfl ?_) | (refine IfB.ff rfl ?_) | (refine IfB.tt ?_ ?_; (focus (simp <;> fail))) | (refine IfB.ff ?_ ?_; (focus (simp <;> fail))) | (refine fits (wrap64 ?_ ?_) ?_; (focus omega); (focus omega)) | (refine Need.mk ?_ ?_; (focus omega)) | (refine InB.mk ?_ ?_ ?_; (focus omega); (focus omega)))
                ((repeat ((conv => whnf); first | (refine Sure.mk (by kernel_rfl) ?_) | (refine IfB.tt rfl ?_) | (refine IfB.ff rfl ?_) | (refine IfB.tt ?_ ?_; (focus (simp <;> fail))) | (refine IfB.ff ?_ ?_; (focus (simp <;> fail))) | (refine fits (wrap64 ?_ ?_) ?_; (focus omega); (focus omega)) | (refine Need.mk ?_ ?_; (focus omega)) | (refine InB.mk ?_ ?_ ?_; (focus omega); (focus omega)))); (try (conv => whnf)); refine RetN.fz ⟨[true, true], [], rfl, ?_, rfl⟩)
                rw [hQ hc, hR]; rfl
            · omega
        · have h0 : i = 0 := by omega
          repeat ((conv => whnf); first | (refine Sure.mk (by kernel_rfl) ?_) | (refine IfB.tt rfl ?_) | (refine IfB.ff rfl ?_) | (refine IfB.tt ?_ ?_; (focus (simp <;> fail))) | (refine IfB.ff ?_ ?_; (focus (simp <;> fail))) | (refine fits (wrap64 ?_ ?_) ?_; (focus omega); (focus omega)) | (refine Need.mk ?_ ?_; (focus omega)) | (refine InB.mk ?_ ?_ ?_; (focus omega); (focus omega)))
          ((repeat ((conv => whnf); first | (refine Sure.mk (by kernel_rfl) ?_) | (refine IfB.tt rfl ?_) | (refine IfB.ff rfl ?_) | (refine IfB.tt ?_ ?_; (focus (simp <;> fail))) | (refine IfB.ff ?_ ?_; (focus (simp <;> fail))) | (refine fits (wrap64 ?_ ?_) ?_; (focus omega); (focus omega)) | (refine Need.mk ?_ ?_; (focus omega)) | (refine InB.mk ?_ ?_ ?_; (focus omega); (focus omega)))); (try (conv => whnf)); first | refine IfB.dec (fun h6 => ?_) (fun h6 => ?_) | refine IfB.eq (fun h6 => ?_) (fun h6 => ?_) | refine IfB.ne (fun h6 => ?_) (fun h6 => ?_) | refine IfB.mk (fun h6 => ?_) (fun h6 => ?_))
          · repeat ((conv => whnf); first | (refine Sure.mk (by kernel_rfl) ?_) | (refine IfB.tt rfl ?_) | (refine IfB.ff rfl ?_) | (refine IfB.tt ?_ ?_; (focus (simp <;> fail))) | (refine IfB.ff ?_ ?_; (focus (simp <;> fail))) | (refine fits (wrap64 ?_ ?_) ?_; (focus omega); (focus omega)) | (refine Need.mk ?_ ?_; (focus omega)) | (refine InB.mk ?_ ?_ ?_; (focus omega); (focus omega)))
            ((repeat ((conv => whnf); first | (refine Sure.mk (by kernel_rfl) ?_) | (refine IfB.tt rfl ?_) | (refine IfB.ff rfl ?_) | (refine IfB.tt ?_ ?_; (focus (simp <;> fail))) | (refine IfB.ff ?_ ?_; (focus (simp <;> fail))) | (refine fits (wrap64 ?_ ?_) ?_; (focus omega); (focus omega)) | (refine Need.mk ?_ ?_; (focus omega)) | (refine InB.mk ?_ ?_ ?_; (focus omega); (focus omega)))); (try (conv => whnf)); refine idx_map (hlt) ?_)
            repeat ((conv => whnf); first | (refine Sure.mk (by kernel_rfl) ?_) | (refine IfB.tt rfl ?_) | (refine IfB.ff rfl ?_) | (refine IfB.tt ?_ ?_; (focus (simp <;> fail))) | (refine IfB.ff ?_ ?_; (focus (simp <;> fail))) | (refine fits (wrap64 ?_ ?_) ?_; (focus omega); (focus omega)) | (refine Need.mk ?_ ?_; (focus omega)) | (refine InB.mk ?_ ?_ ?_; (focus omega); (focus omega)))
            ((repeat ((conv => whnf); first | (refine Sure.mk (by kernel_rfl) ?_) | (refine IfB.tt rfl ?_) | (refine IfB.ff rfl ?_) | (refine IfB.tt ?_ ?_; (focus (simp <;> fail))) | (refine IfB.ff ?_ ?_; (focus (simp <;> fail))) | (refine fits (wrap64 ?_ ?_) ?_; (focus omega); (focus omega)) | (refine Need.mk ?_ ?_; (focus omega)) | (refine InB.mk ?_ ?_ ?_; (focus omega); (focus omega)))); (try (conv => whnf)); first | refine IfB.dec (fun h7 => ?_) (fun h7 => ?_) | refine IfB.eq (fun h7 => ?_) (fun h7 => ?_) | refine IfB.ne (fun h7 => ?_) (fun h7 => ?_) | refine IfB.mk (fun h7 => ?_) (fun h7 => ?_))
            · have hc : clashR l s = true := by
                simp only [clashR, ← e]
                simp [hlt]; right; omega
              repeat ((conv => whnf); first | (refine Sure.mk (by kernel_rfl) ?_) | (refine IfB.tt rfl ?_) | (refine IfB.ff rfl ?_) | (refine IfB.tt ?_ ?_; (focus (simp <;> fail))) | (refine IfB.ff ?_ ?_; (focus (simp <;> fail))) | (refine fits (wrap64 ?_ ?_) ?_; (focus omega); (focus omega)) | (refine Need.mk ?_ ?_; (focus omega)) | (refine InB.mk ?_ ?_ ?_; (focus omega); (focus omega)))
              ((repeat ((conv => whnf); first | (refine Sure.mk (by kernel_rfl) ?_) | (refine IfB.tt rfl ?_) | (refine IfB.ff rfl ?_) | (refine IfB.tt ?_ ?_; (focus (simp <;> fail))) | (refine IfB.ff ?_ ?_; (focus (simp <;> fail))) | (refine fits (wrap64 ?_ ?_) ?_; (focus omega); (focus omega)) | (refine Need.mk ?_ ?_; (focus omega)) | (refine InB.mk ?_ ?_ ?_; (focus omega); (focus omega)))); (try (conv => whnf)); refine RetN.fz ⟨[true, true], [], rfl, ?_, rfl⟩)
              rw [hP hc]; rfl
            · have hc : clashR l s = false := by
                subst h0
                simp only [clashR, ← e]
                simp [hlt]; omega
              repeat ((conv => whnf); first | (refine Sure.mk (by kernel_rfl) ?_) | (refine IfB.tt rfl ?_) | (refine IfB.ff rfl ?_) | (refine IfB.tt ?_ ?_; (focus (simp <;> fail))) | (refine IfB.ff ?_ ?_; (focus (simp <;> fail))) | (refine fits (wrap64 ?_ ?_) ?_; (focus omega); (focus omega)) | (refine Need.mk ?_ ?_; (focus omega)) | (refine InB.mk ?_ ?_ ?_; (focus omega); (focus omega)))
              subst e
              ((repeat ((conv => whnf); first | (refine Sure.mk (by kernel_rfl) ?_) | (refine IfB.tt rfl ?_) | (refine IfB.ff rfl ?_) | (refine IfB.tt ?_ ?_; (focus (simp <;> fail))) | (refine IfB.ff ?_ ?_; (focus (simp <;> fail))) | (refine fits (wrap64 ?_ ?_) ?_; (focus omega); (focus omega)) | (refine Need.mk ?_ ?_; (focus omega)) | (refine InB.mk ?_ ?_ ?_; (focus omega); (focus omega)))); (try (conv => whnf)); refine Choice.mk ⟨true, Choice.mk ⟨false, _, _, hI, ?_⟩⟩)
              repeat ((conv => whnf); first | (refine Sure.mk (by kernel_rfl) ?_) | (refine IfB.tt rfl ?_) | (refine IfB.ff rfl ?_) | (refine IfB.tt ?_ ?_; (focus (simp <;> fail))) | (refine IfB.ff ?_ ?_; (focus (simp <;> fail))) | (refine fits (wrap64 ?_ ?_) ?_; (focus omega); (focus omega)) | (refine Need.mk ?_ ?_; (focus omega)) | (refine InB.mk ?_ ?_ ?_; (focus omega); (focus omega)))
              ((repeat ((conv => whnf); first | (refine Sure.mk (by kernel_rfl) ?_) | (refine IfB.tt rfl ?_) | (refine IfB.ff rfl ?_) | (refine IfB.tt ?_ ?_; (focus (simp <;> fail))) | (refine IfB.ff ?_ ?_; (focus (simp <;> fail))) | (refine fits (wrap64 ?_ ?_) ?_; (focus omega); (focus omega)) | (refine Need.mk ?_ ?_; (focus omega)) | (refine InB.mk ?_ ?_ ?_; (focus omega); (focus omega)))); (try (conv => whnf)); refine RetN.fz ⟨[true, true], [], rfl, ?_, rfl⟩)
              rw [hQ hc, hR]; rfl
          · omega
    · have hlt : ¬ i < l.length := by omega
      have e : i = lowS s.a l := by omega
      repeat ((conv => whnf); first | (refine Sure.mk (by kernel_rfl) ?_) | (refine IfB.tt rfl ?_) | (refine IfB.ff rfl ?_) | (refine IfB.tt ?_ ?_; (focus (simp <;> fail))) | (refine IfB.ff ?_ ?_; (focus (simp <;> fail))) | (refine fits (wrap64 ?_ ?_) ?_; (focus omega); (focus omega)) | (refine Need.mk ?_ ?_; (focus omega)) | (refine InB.mk ?_ ?_ ?_; (focus omega); (focus omega)))
      ((repeat ((conv => whnf); first | (refine Sure.mk (by kernel_rfl) ?_) | (refine IfB.tt rfl ?_) | (refine IfB.ff rfl ?_) | (refine IfB.tt ?_ ?_; (focus (simp <;> fail))) | (refine IfB.ff ?_ ?_; (focus (simp <;> fail))) | (refine fits (wrap64 ?_ ?_) ?_; (focus omega); (focus omega)) | (refine Need.mk ?_ ?_; (focus omega)) | (refine InB.mk ?_ ?_ ?_; (focus omega); (focus omega)))); (try (conv => whnf)); first | refine IfB.dec (fun h4 => ?_) (fun h4 => ?_) | refine IfB.eq (fun h4 => ?_) (fun h4 => ?_) | refine IfB.ne (fun h4 => ?_) (fun h4 => ?_) | refine IfB.mk (fun h4 => ?_) (fun h4 => ?_))
      · have hp : i - 1 < l.length := by omega
        have hx := hb _ (List.getElem_mem hp)
        simp [oneB] at hx
        repeat ((conv => whnf); first | (refine Sure.mk (by kernel_rfl) ?_) | (refine IfB.tt rfl ?_) | (refine IfB.ff rfl ?_) | (refine IfB.tt ?_ ?_; (focus (simp <;> fail))) | (refine IfB.ff ?_ ?_; (focus (simp <;> fail))) | (refine fits (wrap64 ?_ ?_) ?_; (focus omega); (focus omega)) | (refine Need.mk ?_ ?_; (focus omega)) | (refine InB.mk ?_ ?_ ?_; (focus omega); (focus omega)))
        refine idx_map' (i - 1) (by omega) hp ?_
        repeat ((conv => whnf); first | (refine Sure.mk (by kernel_rfl) ?_) | (refine IfB.tt rfl ?_) | (refine IfB.ff rfl ?_) | (refine IfB.tt ?_ ?_; (focus (simp <;> fail))) | (refine IfB.ff ?_ ?_; (focus (simp <;> fail))) | (refine fits (wrap64 ?_ ?_) ?_; (focus omega); (focus omega)) | (refine Need.mk ?_ ?_; (focus omega)) | (refine InB.mk ?_ ?_ ?_; (focus omega); (focus omega)))
        refine idx_map' (i - 1) (by omega) hp ?_
        repeat ((conv => whnf); first | (refine Sure.mk (by kernel_rfl) ?_) | (refine IfB.tt rfl ?_) | (refine IfB.ff rfl ?_) | (refine IfB.tt ?_ ?_; (focus (simp <;> fail))) | (refine IfB.ff ?_ ?_; (focus (simp <;> fail))) | (refine fits (wrap64 ?_ ?_) ?_; (focus omega); (focus omega)) | (refine Need.mk ?_ ?_; (focus omega)) | (refine InB.mk ?_ ?_ ?_; (focus omega); (focus omega)))
        ((repeat ((conv => whnf); first | (refine Sure.mk (by kernel_rfl) ?_) | (refine IfB.tt rfl ?_) | (refine IfB.ff rfl ?_) | (refine IfB.tt ?_ ?_; (focus (simp <;> fail))) | (refine IfB.ff ?_ ?_; (focus (simp <;> fail))) | (refine fits (wrap64 ?_ ?_) ?_; (focus omega); (focus omega)) | (refine Need.mk ?_ ?_; (focus omega)) | (refine InB.mk ?_ ?_ ?_; (focus omega); (focus omega)))); (try (conv => whnf)); first | refine IfB.dec (fun h5 => ?_) (fun h5 => ?_) | refine IfB.eq (fun h5 => ?_) (fun h5 => ?_) | refine IfB.ne (fun h5 => ?_) (fun h5 => ?_) | refine IfB.mk (fun h5 => ?_) (fun h5 => ?_))
        · have hc : clashR l s = true := by
            simp only [clashR, ← e]
            rw [show i = i - 1 + 1 by omega]
            simp [hp]; left; omega
          repeat ((conv => whnf); first | (refine Sure.mk (by kernel_rfl) ?_) | (refine IfB.tt rfl ?_) | (refine IfB.ff rfl ?_) | (refine IfB.tt ?_ ?_; (focus (simp <;> fail))) | (refine IfB.ff ?_ ?_; (focus (simp <;> fail))) | (refine fits (wrap64 ?_ ?_) ?_; (focus omega); (focus omega)) | (refine Need.mk ?_ ?_; (focus omega)) | (refine InB.mk ?_ ?_ ?_; (focus omega); (focus omega)))
          ((repeat ((conv => whnf); first | (refine Sure.mk (by kernel_rfl) ?_) | (refine IfB.tt rfl ?_) | (refine IfB.ff rfl ?_) | (refine IfB.tt ?_ ?_; (focus (simp <;> fail))) | (refine IfB.ff ?_ ?_; (focus (simp <;> fail))) | (refine fits (wrap64 ?_ ?_) ?_; (focus omega); (focus omega)) | (refine Need.mk ?_ ?_; (focus omega)) | (refine InB.mk ?_ ?_ ?_; (focus omega); (focus omega)))); (try (conv => whnf)); refine RetN.fz ⟨[true, true], [], rfl, ?_, rfl⟩)
          rw [hP hc]; rfl
        · have hc : clashR l s = false := by
            simp only [clashR, ← e]
            rw [show i = i - 1 + 1 by omega]
            simp [hp, show i - 1 + 1 = i by omega, hlt]; omega
          repeat ((conv => whnf); first | (refine Sure.mk (by kernel_rfl) ?_) | (refine IfB.tt rfl ?_) | (refine IfB.ff rfl ?_) | (refine IfB.tt ?_ ?_; (focus (simp <;> fail))) | (refine IfB.ff ?_ ?_; (focus (simp <;> fail))) | (refine fits (wrap64 ?_ ?_) ?_; (focus omega); (focus omega)) | (refine Need.mk ?_ ?_; (focus omega)) | (refine InB.mk ?_ ?_ ?_; (focus omega); (focus omega)))
          ((repeat ((conv => whnf); first | (refine Sure.mk (by kernel_rfl) ?_) | (refine IfB.tt rfl ?_) | (refine IfB.ff rfl ?_) | (refine IfB.tt ?_ ?_; (focus (simp <;> fail))) | (refine IfB.ff ?_ ?_; (focus (simp <;> fail))) | (refine fits (wrap64 ?_ ?_) ?_; (focus omega); (focus omega)) | (refine Need.mk ?_ ?_; (focus omega)) | (refine InB.mk ?_ ?_ ?_; (focus omega); (focus omega)))); (try (conv => whnf)); first | refine IfB.dec (fun h6 => ?_) (fun h6 => ?_) | refine IfB.eq (fun h6 => ?_) (fun h6 => ?_) | refine IfB.ne (fun h6 => ?_) (fun h6 => ?_) | refine IfB.mk (fun h6 => ?_) (fun h6 => ?_))
          · omega
          · repeat ((conv => whnf); first | (refine Sure.mk (by kernel_rfl) ?_) | (refine IfB.tt rfl ?_) | (refine IfB.ff rfl ?_) | (refine IfB.tt ?_ ?_; (focus (simp <;> fail))) | (refine IfB.ff ?_ ?_; (focus (simp <;> fail))) | (refine fits (wrap64 ?_ ?_) ?_; (focus omega); (focus omega)) | (refine Need.mk ?_ ?_; (focus omega)) | (refine InB.mk ?_ ?_ ?_; (focus omega); (focus omega)))
            subst e
            ((repeat ((conv => whnf); first | (refine Sure.mk (by kernel_rfl) ?_) | (refine IfB.tt rfl ?_) | (refine IfB.ff rfl ?_) | (refine IfB.tt ?_ ?_; (focus (simp <;> fail))) | (refine IfB.ff ?_ ?_; (focus (simp <;> fail))) | (refine fits (wrap64 ?_ ?_) ?_; (focus omega); (focus omega)) | (refine Need.mk ?_ ?_; (focus omega)) | (refine InB.mk ?_ ?_ ?_; (focus omega); (focus omega)))); (try (conv => whnf)); refine Choice.mk ⟨true, Choice.mk ⟨false, _, _, hI, ?_⟩⟩)
            repeat ((conv => whnf); first | (refine Sure.mk (by kernel_rfl) ?_) | (refine IfB.tt rfl ?_) | (refine IfB.ff rfl ?_) | (refine IfB.tt ?_ ?_; (focus (simp <;> fail))) | (refine IfB.ff ?_ ?_; (focus (simp <;> fail))) | (refine fits (wrap64 ?_ ?_) ?_; (focus omega); (focus omega)) | (refine Need.mk ?_ ?_; (focus omega)) | (refine InB.mk ?_ ?_ ?_; (focus omega); (focus omega)))
            ((repeat ((conv => whnf); first | (refine Sure.mk (by kernel_rfl) ?_) | (refine IfB.tt rfl ?_) | (refine IfB.ff rfl ?_) | (refine IfB.tt ?_ ?_; (focus (simp <;> fail))) | (refine IfB.ff ?_ ?_; (focus (simp <;> fail))) | (refine fits (wrap64 ?_ ?_) ?_; (focus omega); (focus omega)) | (refine Need.mk ?_ ?_; (focus omega)) | (refine InB.mk ?_ ?_ ?_; (focus omega); (focus omega)))); (try (conv => whnf)); refine RetN.fz ⟨[true, true], [], rfl, ?_, rfl⟩)
            rw [hQ hc, hR]; rfl
      · have h0 : i = 0 := by omega
        have hc : clashR l s = false := by
          subst h0
          simp only [clashR, ← e]
          simp [hlt]
        repeat ((conv => whnf); first | (refine Sure.mk (by kernel_rfl) ?_) | (refine IfB.tt rfl ?_) | (refine IfB.ff rfl ?_) | (refine IfB.tt ?_ ?_; (focus (simp <;> fail))) | (refine IfB.ff ?_ ?_; (focus (simp <;> fail))) | (refine fits (wrap64 ?_ ?_) ?_; (focus omega); (focus omega)) | (refine Need.mk ?_ ?_; (focus omega)) | (refine InB.mk ?_ ?_ ?_; (focus omega); (focus omega)))
        ((repeat ((conv => whnf); first | (refine Sure.mk (by kernel_rfl) ?_) | (refine IfB.tt rfl ?_) | (refine IfB.ff rfl ?_) | (refine IfB.tt ?_ ?_; (focus (simp <;> fail))) | (refine IfB.ff ?_ ?_; (focus (simp <;> fail))) | (refine fits (wrap64 ?_ ?_) ?_; (focus omega); (focus omega)) | (refine Need.mk ?_ ?_; (focus omega)) | (refine InB.mk ?_ ?_ ?_; (focus omega); (focus omega)))); (try (conv => whnf)); first | refine IfB.dec (fun h6 => ?_) (fun h6 => ?_) | refine IfB.eq (fun h6 => ?_) (fun h6 => ?_) | refine IfB.ne (fun h6 => ?_) (fun h6 => ?_) | refine IfB.mk (fun h6 => ?_) (fun h6 => ?_))
        · omega
        · repeat ((conv => whnf); first | (refine Sure.mk (by kernel_rfl) ?_) | (refine IfB.tt rfl ?_) | (refine IfB.ff rfl ?_) | (refine IfB.tt ?_ ?_; (focus (simp <;> fail))) | (refine IfB.ff ?_ ?_; (focus (simp <;> fail))) | (refine fits (wrap64 ?_ ?_) ?_; (focus omega); (focus omega)) | (refine Need.mk ?_ ?_; (focus omega)) | (refine InB.mk ?_ ?_ ?_; (focus omega); (focus omega)))
          subst e
          ((repeat ((conv => whnf); first | (refine Sure.mk (by kernel_rfl) ?_) | (refine IfB.tt rfl ?_) | (refine IfB.ff rfl ?_) | (refine IfB.tt ?_ ?_; (focus (simp <;> fail))) | (refine IfB.ff ?_ ?_; (focus (simp <;> fail))) | (refine fits (wrap64 ?_ ?_) ?_; (focus omega); (focus omega)) | (refine Need.mk ?_ ?_; (focus omega)) | (refine InB.mk ?_ ?_ ?_; (focus omega); (focus omega)))); (try (conv => whnf)); refine Choice.mk ⟨true, Choice.mk ⟨false, _, _, hI, ?_⟩⟩)
          repeat ((conv => whnf); first | (refine Sure.mk (by kernel_rfl) ?_) | (refine IfB.tt rfl ?_) | (refine IfB.ff rfl ?_) | (refine IfB.tt ?_ ?_; (focus (simp <;> fail))) | (refine IfB.ff ?_ ?_; (focus (simp <;> fail))) | (refine fits (wrap64 ?_ ?_) ?_; (focus omega); (focus omega)) | (refine Need.mk ?_ ?_; (focus omega)) | (refine InB.mk ?_ ?_ ?_; (focus omega); (focus omega)))
          ((repeat ((conv => whnf); first | (refine Sure.mk (by kernel_rfl) ?_) | (refine IfB.tt rfl ?_) | (refine IfB.ff rfl ?_) | (refine IfB.tt ?_ ?_; (focus (simp <;> fail))) | (refine IfB.ff ?_ ?_; (focus (simp <;> fail))) | (refine fits (wrap64 ?_ ?_) ?_; (focus omega); (focus omega)) | (refine Need.mk ?_ ?_; (focus omega)) | (refine InB.mk ?_ ?_ ?_; (focus omega); (focus omega)))); (try (conv => whnf)); refine RetN.fz ⟨[true, true], [], rfl, ?_, rfl⟩)
          rw [hQ hc, hR]; rfl

theorem maySpan_told (x : Sp) : Told P T ref8_MaySpan [] [eS x] (.bool (oneB x)) [] := by
  refine told_of_ev (fn := ref8_MaySpan_fn) tabOk mixed (by kernel_rfl) (by kernel_rfl) (by kernel_rfl) (by kernel_rfl) ?_
  repeat' ((conv => whnf); first | (refine Sure.mk (by kernel_rfl) ?_) | (refine IfB.tt rfl ?_) | (refine IfB.ff rfl ?_) | (refine IfB.tt ?_ ?_; (focus (simp <;> fail))) | (refine IfB.ff ?_ ?_; (focus (simp <;> fail))) | (refine fits (wrap64 ?_ ?_) ?_; (focus omega); (focus omega)) | (refine Need.mk ?_ ?_; (focus omega)) | (refine InB.mk ?_ ?_ ?_; (focus omega); (focus omega)) | (refine IfB.dec (fun h => ?_) (fun h => ?_)) | (refine IfB.eq (fun h => ?_) (fun h => ?_)) | (refine IfB.ne (fun h => ?_) (fun h => ?_)))
  all_goals ((repeat ((conv => whnf); first | (refine Sure.mk (by kernel_rfl) ?_) | (refine IfB.tt rfl ?_) | (refine IfB.ff rfl ?_) | (refine IfB.tt ?_ ?_; (focus (simp <;> fail))) | (refine IfB.ff ?_ ?_; (focus (simp <;> fail))) | (refine fits (wrap64 ?_ ?_) ?_; (focus omega); (focus omega)) | (refine Need.mk ?_ ?_; (focus omega)) | (refine InB.mk ?_ ?_ ?_; (focus omega); (focus omega)))); (try (conv => whnf)); refine RetN.mk ⟨[], rfl, ?_, rfl⟩)
  all_goals ((try (conv => lhs; whnf)); (try simp [oneB, *]); (try omega))
def overB (x y : Sp) : Bool := decide (x.a < y.a + y.n ∧ y.a < x.a + x.n)
theorem over_told (x y : Sp) (hx : oneB x = true) (hy : oneB y = true) : Told P T ref8_Over [] [eS x, eS y] (.bool (overB x y)) [] := by
  simp [oneB] at hx hy
  refine told_of_ev (fn := ref8_Over_fn) tabOk mixed (by kernel_rfl) (by kernel_rfl) (by kernel_rfl) (by kernel_rfl) ?_
  repeat' ((conv => whnf); first | (refine Sure.mk (by kernel_rfl) ?_) | (refine IfB.tt rfl ?_) | (refine IfB.ff rfl ?_) | (refine IfB.tt ?_ ?_; (focus (simp <;> fail))) | (refine IfB.ff ?_ ?_; (focus (simp <;> fail))) | (refine fits (wrap64 ?_ ?_) ?_; (focus omega); (focus omega)) | (refine Need.mk ?_ ?_; (focus omega)) | (refine InB.mk ?_ ?_ ?_; (focus omega); (focus omega)) | (refine IfB.dec (fun h => ?_) (fun h => ?_)) | (refine IfB.eq (fun h => ?_) (fun h => ?_)) | (refine IfB.ne (fun h => ?_) (fun h => ?_)))
  all_goals ((repeat ((conv => whnf); first | (refine Sure.mk (by kernel_rfl) ?_) | (refine IfB.tt rfl ?_) | (refine IfB.ff rfl ?_) | (refine IfB.tt ?_ ?_; (focus (simp <;> fail))) | (refine IfB.ff ?_ ?_; (focus (simp <;> fail))) | (refine fits (wrap64 ?_ ?_) ?_; (focus omega); (focus omega)) | (refine Need.mk ?_ ?_; (focus omega)) | (refine InB.mk ?_ ?_ ?_; (focus omega); (focus omega)))); (try (conv => whnf)); refine RetN.mk ⟨[], rfl, ?_, rfl⟩)
  all_goals ((try (conv => lhs; whnf)); (try simp [overB, *]); (try omega))

