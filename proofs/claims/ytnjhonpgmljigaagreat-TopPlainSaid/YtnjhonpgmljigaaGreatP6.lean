/- Words and lemmas, part 6, for laws of this seat (a part of their proofs). -/
import Derived.Test.YtnjhonpgmljigaaGreatP5
import Derived.Test.YtnjhonpgmljigaaGreatNm
import Derived.Test.YtnjhonpgmljigaaGreatEvOpen
import Derived.Test.YtnjhonpgmljigaaGreatEvLib
import Derived.Test.YtnjhonpgmljigaaGreatEvGrid
import Derived.Test.YtnjhonpgmljigaaGreatEvTrim
set_option linter.unusedVariables false
set_option linter.unusedSimpArgs false
namespace Go.Ev.W
open Go.Ev Go.Ev.N

/-- What stands in the new row behind i. -/
def outB (l : List Bk) (b : Bk) (i : Nat) : List Bk := if i ≤ lowB b.a l then l.take i else l.take (lowB b.a l) ++ b :: (l.take i).drop (lowB b.a l)
theorem outB_lo {l : List Bk} {b : Bk} {i : Nat} (h : i < lowB b.a l) (hl : i < l.length) : outB l b (i + 1) = outB l b i ++ [l[i]] := by
  unfold outB; rw [if_pos (by omega), if_pos (by omega), List.take_succ_eq_append_getElem hl]
theorem outB_at {l : List Bk} {b : Bk} {i : Nat} (h : i = lowB b.a l) (hl : i < l.length) : outB l b (i + 1) = outB l b i ++ [b] ++ [l[i]] := by
  subst h
  unfold outB; rw [if_neg (by omega), if_pos (Nat.le_refl _), List.take_succ_eq_append_getElem hl]
  have : (l.take (lowB b.a l)).length = lowB b.a l := by rw [List.length_take]; omega
  rw [List.drop_append_of_le_length (by omega), List.drop_eq_nil_of_le (by omega)]
  simp
theorem outB_hi {l : List Bk} {b : Bk} {i : Nat} (h : lowB b.a l < i) (hl : i < l.length) : outB l b (i + 1) = outB l b i ++ [l[i]] := by
  unfold outB; rw [if_neg (by omega), if_neg (by omega), List.take_succ_eq_append_getElem hl, List.drop_append_of_le_length (by rw [List.length_take]; omega)]
  simp
theorem outB_len {l : List Bk} {b : Bk} {i : Nat} : (outB l b i).length ≤ i + 1 := by
  unfold outB; split <;> simp <;> omega
set_option maxHeartbeats 1000000 in
theorem put17_told (l : List Bk) (hl : l.length ≤ 1000000) (b : Bk) : Told P T ref17_put [] [lK l, eB b] (.ref 0) [.row t_api_Block ((putB l b).map eB)] := by
  have hml : (l.map eB).length = l.length := by simp
  have hle := lowB_le b.a l
  refine told_of_ev (fn := ref17_put_fn) tabOk mixed (by kernel_rfl) (by kernel_rfl) (by kernel_rfl) (by kernel_rfl) ?_
  (refine gw ?_; refine LoopN.mk ⟨[0,3,5,6,7], fun vs L => ∃ i : Nat, vs = [lK l, .ptr 0 0 0, .ref 1, .bool (decide (lowB b.a l < i)), i64 i] ∧ L = [.var (eB b), .row t_api_Block ((outB l b i).map eB)] ∧ i ≤ l.length, fun vs L => match vs with | [_, _, _, _, .int _ i] => l.length - i.toNat | _ => 0, [], [0, 2], rfl, ⟨0, by rw [decide_eq_false (by omega)]; rfl, by rw [show outB l b 0 = [] by simp [outB]]; rfl, by omega⟩, ?_⟩)
  rintro vs L ⟨i, rfl, rfl, hi⟩
  have hol := outB_len (l := l) (b := b) (i := i)
  have hmo : ((outB l b i).map eB).length = (outB l b i).length := by simp
  (refine gw ?_; first | refine IfB.dec (fun h1 => ?_) (fun h1 => ?_) | refine IfB.eq (fun h1 => ?_) (fun h1 => ?_) | refine IfB.ne (fun h1 => ?_) (fun h1 => ?_) | refine IfB.mk (fun h1 => ?_) (fun h1 => ?_))
  · have hlt : i < l.length := by omega
    rcases Nat.lt_trichotomy (lowB b.a l) i with h | h | h
    · rw [decide_eq_true h]
      refine gw ?_
      (refine gw ?_; refine idx_map (hlt) ?_)
      (refine gw ?_; refine Room.mk (by first | omega | (simp; omega) | (simp <;> fail)) ?_)
      (refine gw ?_; refine ⟨[], [0, 3], rfl, ⟨i + 1, by rw [decide_eq_true (show lowB b.a l < i + 1 by omega)]; rfl, show [Blk.var _, Blk.row _ _] = [Blk.var _, Blk.row _ _] by rw [outB_hi h hlt, List.map_append]; rfl, hlt⟩, (by omega : l.length - ((i : Int) + 1).toNat < l.length - (i : Int).toNat)⟩)
    · rw [decide_eq_false (show ¬ lowB b.a l < i by omega)]
      have hg := lowB_ge (y := b.a) (l := l) (by omega)
      have hg : b.a < l[i].a := by subst h; exact hg
      (refine gw ?_; refine idx_map (hlt) ?_)
      (refine gw ?_; first | refine IfB.dec (fun h2 => ?_) (fun h2 => ?_) | refine IfB.eq (fun h2 => ?_) (fun h2 => ?_) | refine IfB.ne (fun h2 => ?_) (fun h2 => ?_) | refine IfB.mk (fun h2 => ?_) (fun h2 => ?_))
      · (refine gw ?_; refine Room.mk (by first | omega | (simp; omega) | (simp <;> fail)) ?_)
        (refine gw ?_; refine idx_map (hlt) ?_)
        (refine gw ?_; refine Room.mk (by first | omega | (simp; omega) | (simp <;> fail)) ?_)
        (refine gw ?_; refine ⟨[], [0, 5], rfl, ⟨i + 1, by rw [decide_eq_true (show lowB b.a l < i + 1 by omega)]; rfl, show [Blk.var _, Blk.row _ _] = [Blk.var _, Blk.row _ _] by rw [outB_at h.symm hlt, List.map_append, List.map_append]; rfl, hlt⟩, (by omega : l.length - ((i : Int) + 1).toNat < l.length - (i : Int).toNat)⟩)
      · omega
    · rw [decide_eq_false (show ¬ lowB b.a l < i by omega)]
      have hg := lowB_lt (y := b.a) hlt h
      (refine gw ?_; refine idx_map (hlt) ?_)
      (refine gw ?_; first | refine IfB.dec (fun h2 => ?_) (fun h2 => ?_) | refine IfB.eq (fun h2 => ?_) (fun h2 => ?_) | refine IfB.ne (fun h2 => ?_) (fun h2 => ?_) | refine IfB.mk (fun h2 => ?_) (fun h2 => ?_))
      · omega
      · (refine gw ?_; refine idx_map (hlt) ?_)
        (refine gw ?_; refine Room.mk (by first | omega | (simp; omega) | (simp <;> fail)) ?_)
        (refine gw ?_; refine ⟨[], [0, 3], rfl, ⟨i + 1, by rw [decide_eq_false (show ¬ lowB b.a l < i + 1 by omega)]; rfl, show [Blk.var _, Blk.row _ _] = [Blk.var _, Blk.row _ _] by rw [outB_lo h hlt, List.map_append]; rfl, hlt⟩, (by omega : l.length - ((i : Int) + 1).toNat < l.length - (i : Int).toNat)⟩)
  · have e : i = l.length := by omega
    subst e
    rcases Nat.lt_or_ge (lowB b.a l) l.length with h | h
    · rw [decide_eq_true h]
      refine gw ?_
      ((try (conv => whnf)); refine RetN.mk ⟨[1], rfl, rfl, ?_⟩)
      have e : outB l b l.length = putB l b := by unfold outB putB; rw [if_neg (by omega), List.take_length]
      show [Blk.row t_api_Block ((outB l b l.length).map eB)] = _
      rw [e]
    · rw [decide_eq_false (show ¬ lowB b.a l < l.length by omega)]
      (refine gw ?_; refine Room.mk (by first | omega | (simp; omega) | (simp <;> fail)) ?_)
      (refine gw ?_)
      refine RetN.mk ⟨[3], rfl, rfl, ?_⟩
      have e : outB l b l.length ++ [b] = putB l b := by
        have e2 : lowB b.a l = l.length := by omega
        unfold outB putB; rw [if_pos (by omega), e2, List.take_length, List.drop_length]
      show [Blk.row t_api_Block ((outB l b l.length).map eB ++ [eB b])] = _
      rw [← e, List.map_append]; rfl

theorem refAdd_gen (a b : Nat) (h : a + b ≤ 2000000) : Told P T ref1_Add [] [i64 a, i64 b] (.tup [i64 (a + b : Nat), .bool true]) [] := by
  refine told_of_ev (fn := ref1_Add_fn) tabOk mixed (by kernel_rfl) (by kernel_rfl) (by kernel_rfl) (by kernel_rfl) ?_
  repeat' ((conv => whnf); first | (refine Sure.mk (by kernel_rfl) ?_) | (refine IfB.tt rfl ?_) | (refine IfB.ff rfl ?_) | (refine IfB.tt ?_ ?_; (focus (simp <;> fail))) | (refine IfB.ff ?_ ?_; (focus (simp <;> fail))) | (refine fits (wrap64 ?_ ?_) ?_; (focus omega); (focus omega)) | (refine fits (wrapU64 ?_ ?_) ?_; (focus omega); (focus omega)) | (refine Need.mk ?_ ?_; (focus omega)) | (refine InB.mk ?_ ?_ ?_; (focus omega); (focus omega)) | (refine IfB.dec (fun h => ?_) (fun h => ?_)) | (refine IfB.eq (fun h => ?_) (fun h => ?_)) | (refine IfB.ne (fun h => ?_) (fun h => ?_)))
  all_goals first | omega | (refine gw ?_; exact RetN.mk ⟨[], rfl, rfl, rfl⟩)
theorem pages_told {pg y n : Nat} (hp : 1 ≤ pg) (hn : 1 ≤ n) (hy : y + n ≤ 1000000) : Told P T ref8_Pages [] [i64 pg, i64 y, i64 n] (.tup [i64 (y / pg : Nat), i64 ((y + n - 1) / pg + 1 : Nat)]) [] := by
  have e1 : ((y : Nat) : Int).tdiv (pg : Nat) = ((y / pg : Nat) : Int) := by rw [Int.tdiv_eq_ediv_of_nonneg (by omega)]; omega
  have e0 : ((y : Nat) : Int) + (((n : Nat) : Int) - 1) = ((y + n - 1 : Nat) : Int) := by omega
  have e2 : (((y + n - 1 : Nat)) : Int).tdiv (pg : Nat) = (((y + n - 1) / pg : Nat) : Int) := by rw [Int.tdiv_eq_ediv_of_nonneg (by omega)]; omega
  have d1 := Nat.div_le_self y pg
  have d2 := Nat.div_le_self (y + n - 1) pg
  have ca := refAdd_gen y (n - 1) (by omega)
  rw [show y + (n - 1) = y + n - 1 by omega, show ((n - 1 : Nat) : Int) = (n : Int) - 1 by omega] at ca
  have d3 : (0 : Int) ≤ ((y / pg : Nat) : Int) := Int.natCast_nonneg _
  have d4 : (0 : Int) ≤ (((y + n - 1) / pg : Nat) : Int) := Int.natCast_nonneg _
  refine told_of_ev (fn := ref8_Pages_fn) tabOk mixed (by kernel_rfl) (by kernel_rfl) (by kernel_rfl) (by kernel_rfl) ?_
  (refine gw ?_; first | refine IfB.dec (fun h1 => ?_) (fun h1 => ?_) | refine IfB.eq (fun h1 => ?_) (fun h1 => ?_) | refine IfB.ne (fun h1 => ?_) (fun h1 => ?_) | refine IfB.mk (fun h1 => ?_) (fun h1 => ?_))
  · omega
  · (refine gw ?_; first | refine IfB.dec (fun h2 => ?_) (fun h2 => ?_) | refine IfB.eq (fun h2 => ?_) (fun h2 => ?_) | refine IfB.ne (fun h2 => ?_) (fun h2 => ?_) | refine IfB.mk (fun h2 => ?_) (fun h2 => ?_))
    · omega
    · (refine gw ?_; refine Choice.mk ⟨false, Choice.mk ⟨true, _, _, ca, ?_⟩⟩)
      (refine gw ?_)
      rw [e1, e2]
      (refine gw ?_; exact RetN.mk ⟨[], rfl, rfl, rfl⟩)
end Go.Ev.W
namespace Go.Ev.W
open Go.Ev Go.Ev.N

def anyK (l : List Bk) (pg i k : Nat) : Bool := (l.take k).any fun b => ovr (i * pg : Nat) pg b.a b.c
theorem anyK_succ {l : List Bk} {pg i k : Nat} (h : k < l.length) : anyK l pg i (k + 1) = (anyK l pg i k || ovr (i * pg : Nat) pg l[k].a l[k].c) := by
  unfold anyK; rw [List.take_succ_eq_append_getElem h, List.any_append]; simp
set_option maxHeartbeats 1000000 in
theorem met8_told {pg size : Nat} (hp : 1 ≤ pg) (hs : size ≤ 65536) {l : List Bk} (hl : l.length ≤ 1000000) (hb : ∀ x ∈ l, 0 ≤ x.a ∧ 1 ≤ x.c ∧ x.a + x.c ≤ size) : Told P T ref8_Met [] [i64 pg, i64 size, lK l] (lT (metF pg size l)) [] := by
  have hml : (l.map eB).length = l.length := by simp
  have e1 : ((size : Nat) : Int).tdiv (pg : Nat) = ((size / pg : Nat) : Int) := by rw [Int.tdiv_eq_ediv_of_nonneg (by omega)]; omega
  have d1 := Nat.div_le_self size pg
  have d2 : (0 : Int) ≤ ((size / pg : Nat) : Int) := Int.natCast_nonneg _
  have hmul := Nat.div_mul_le_self size pg
  obtain ⟨D, hD⟩ : ∃ D, size / pg = D := ⟨_, rfl⟩
  have hfin : metF pg size l = (List.range D).map fun i => anyK l pg i l.length := by
    unfold metF anyK; rw [hD]; simp only [List.take_length]
  rw [hfin]
  rw [hD] at e1 d1 d2 hmul
  have hlen : ∀ f : Nat → AV, (tabF D f).length = D := tabF_len D
  refine told_of_ev (fn := ref8_Met_fn) tabOk mixed (by kernel_rfl) (by kernel_rfl) (by kernel_rfl) (by kernel_rfl) ?_
  (refine gw ?_; first | refine IfB.dec (fun h1 => ?_) (fun h1 => ?_) | refine IfB.eq (fun h1 => ?_) (fun h1 => ?_) | refine IfB.ne (fun h1 => ?_) (fun h1 => ?_) | refine IfB.mk (fun h1 => ?_) (fun h1 => ?_))
  · omega
  · (refine gw ?_; first | refine IfB.dec (fun h2 => ?_) (fun h2 => ?_) | refine IfB.eq (fun h2 => ?_) (fun h2 => ?_) | refine IfB.ne (fun h2 => ?_) (fun h2 => ?_) | refine IfB.mk (fun h2 => ?_) (fun h2 => ?_))
    · omega
    · (refine gw ?_)
      rw [e1]
      (refine gw ?_; refine Room.mk (by first | omega | (simp; omega) | (simp <;> fail)) ?_)
      (refine gw ?_; refine LoopN.mk ⟨[0,2,7,8], fun vs L => ∃ i : Nat, vs = [i64 pg, lK l, .ref 0, i64 i] ∧ L = [.row t_bool (tabF D fun j => .bool (decide (j < i) && anyK l pg j l.length))] ∧ i ≤ D, fun vs L => match vs with | [_, _, _, .int _ i] => D - i.toNat | _ => 0, [], [1], rfl, ⟨0, rfl, ?_, by omega⟩, ?_⟩)
      · show [Blk.row t_bool (List.replicate D (AV.bool false))] = _
        rw [tabF_rep]
        refine congrArg (fun z => [Blk.row t_bool z]) (tabF_congr fun k _ => ?_)
        rw [decide_eq_false (show ¬ k < 0 by omega)]; rfl
      rintro vs L ⟨i, rfl, rfl, hi⟩
      have hl1 := hlen fun j => .bool (decide (j < i) && anyK l pg j l.length)
      (refine gw ?_; first | refine IfB.dec (fun g1 => ?_) (fun g1 => ?_) | refine IfB.eq (fun g1 => ?_) (fun g1 => ?_) | refine IfB.ne (fun g1 => ?_) (fun g1 => ?_) | refine IfB.mk (fun g1 => ?_) (fun g1 => ?_))
      · have hiD : i < D := by omega
        have hip : i * pg + pg ≤ D * pg := by rw [← Nat.succ_mul]; exact Nat.mul_le_mul_right _ hiD
        have eip : ((i : Nat) : Int) * ((pg : Nat) : Int) = ((i * pg : Nat) : Int) := by rw [Int.natCast_mul]
        (refine gw ?_; refine LoopN.mk ⟨[0,2,7,8,9], fun vs L => ∃ k : Nat, vs = [i64 pg, lK l, .ref 0, i64 i, i64 k] ∧ L = [.row t_bool (tabF D fun j => .bool (if j = i then anyK l pg i k else decide (j < i) && anyK l pg j l.length))] ∧ k ≤ l.length, fun vs L => match vs with | [_, _, _, _, .int _ i] => l.length - i.toNat | _ => 0, [], [0], rfl, ⟨0, rfl, ?_, by omega⟩, ?_⟩)
        · refine congrArg (fun z => [Blk.row t_bool z]) (tabF_congr fun j _ => ?_)
          by_cases e : j = i
          · subst e; rw [decide_eq_false (show ¬ j < j by omega), if_pos rfl]; simp [anyK]
          · rw [if_neg e]
        rintro vs L ⟨k, rfl, rfl, hk⟩
        have hl2 := hlen fun j => .bool (if j = i then anyK l pg i k else decide (j < i) && anyK l pg j l.length)
        have hget : (tabF D fun j => AV.bool (if j = i then anyK l pg i k else decide (j < i) && anyK l pg j l.length))[((i : Nat) : Int).toNat]? = some (.bool (anyK l pg i k)) := by
          rw [Int.toNat_natCast, tabF_get hiD, if_pos rfl]
        have hset : ∀ v : Bool, v = anyK l pg i (k + 1) → (tabF D fun j => AV.bool (if j = i then anyK l pg i k else decide (j < i) && anyK l pg j l.length)).set ((i : Nat) : Int).toNat (.bool v) = tabF D fun j => .bool (if j = i then anyK l pg i (k + 1) else decide (j < i) && anyK l pg j l.length) := fun v hv => by
          rw [Int.toNat_natCast]
          refine tabF_set hiD fun j hj => ?_
          by_cases e : j = i
          · rw [if_pos e, if_pos e, hv]
          · rw [if_neg e, if_neg e, if_neg e]
        (refine gw ?_; first | refine IfB.dec (fun g2 => ?_) (fun g2 => ?_) | refine IfB.eq (fun g2 => ?_) (fun g2 => ?_) | refine IfB.ne (fun g2 => ?_) (fun g2 => ?_) | refine IfB.mk (fun g2 => ?_) (fun g2 => ?_))
        · have hkl : k < l.length := by omega
          have hx := hb _ (List.getElem_mem hkl)
          have hsu := anyK_succ (pg := pg) (i := i) hkl
          refine gw ?_
          refine At.mk ⟨.bool (anyK l pg i k), hget, ?_⟩
          cases g3 : anyK l pg i k with
          | true =>
            rw [g3, Bool.true_or] at hsu
            rw [g3] at hset
            (refine gw ?_; refine InB.mk (by omega) (by rw [tabF_len]; omega) ?_)
            (refine gw ?_; refine ⟨[], [0], rfl, ⟨k + 1, rfl, by rw [← hset true hsu.symm]; rfl, hkl⟩, (by omega : l.length - ((k : Int) + 1).toNat < l.length - (k : Int).toNat)⟩)
          | false =>
            rw [g3, Bool.false_or] at hsu
            rw [g3] at hset
            (refine gw ?_)
            rw [eip]
            (refine gw ?_; refine idx_map (hkl) ?_)
            (refine gw ?_; refine idx_map (hkl) ?_)
            (refine gw ?_; refine Choice.mk ⟨false, Choice.mk ⟨true, _, _, ovr_told (i * pg : Nat) pg l[k].a l[k].c (by omega), ?_⟩⟩)
            (refine gw ?_; refine InB.mk (by omega) (by rw [tabF_len]; omega) ?_)
            (refine gw ?_; refine ⟨[], [0], rfl, ⟨k + 1, rfl, by rw [← hset _ hsu.symm]; rfl, hkl⟩, (by omega : l.length - ((k : Int) + 1).toNat < l.length - (k : Int).toNat)⟩)
        · have e : k = l.length := by omega
          subst e
          (refine gw ?_; refine ⟨[], [0], rfl, ⟨i + 1, rfl, ?_, hiD⟩, (by omega : D - ((i : Int) + 1).toNat < D - (i : Int).toNat)⟩)
          refine congrArg (fun z => [Blk.row t_bool z]) (tabF_congr fun j _ => ?_)
          by_cases e : j = i
          · subst e; rw [if_pos rfl, decide_eq_true (show j < j + 1 by omega)]; rfl
          · rw [if_neg e]
            have : decide (j < i) = decide (j < i + 1) := decide_eq_decide.2 (by omega)
            rw [this]
      · have e : i = D := by omega
        subst e
        (refine gw ?_; refine RetN.fz ⟨[true], [], rfl, ?_, rfl⟩)
        show AV.lst t_bool (tabF i fun j => AV.bool (decide (j < i) && anyK l pg j l.length)) = AV.lst t_bool (((List.range i).map fun j => anyK l pg j l.length).map AV.bool)
        rw [← tabF_of]
        congr 1
        exact tabF_congr fun j hj => by rw [decide_eq_true hj]; rfl
theorem cntB_succ {l : List Bool} {i : Nat} (h : i < l.length) : cntB (l.take (i + 1)) = cntB (l.take i) + if l[i] = true then 1 else 0 := by
  unfold cntB; rw [List.take_succ_eq_append_getElem h, List.filter_append]
  cases l[i] <;> simp
theorem cntB_le (l : List Bool) : cntB l ≤ l.length := List.length_filter_le _ _
theorem count8_told (l : List Bool) (hl : l.length ≤ 1000000) : Told P T ref8_Count [] [lT l] (i64 (cntB l : Nat)) [] := by
  have hml : (l.map AV.bool).length = l.length := by simp
  refine told_of_ev (fn := ref8_Count_fn) tabOk mixed (by kernel_rfl) (by kernel_rfl) (by kernel_rfl) (by kernel_rfl) ?_
  (refine gw ?_; refine LoopN.mk ⟨[0,3,4], fun vs L => ∃ i : Nat, vs = [lT l, i64 (cntB (l.take i) : Nat), i64 i] ∧ L = [] ∧ i ≤ l.length, fun vs L => match vs with | [_, _, .int _ i] => l.length - i.toNat | _ => 0, [], [], rfl, ⟨0, rfl, rfl, by omega⟩, ?_⟩)
  rintro vs L ⟨i, rfl, rfl, hi⟩
  (refine gw ?_; first | refine IfB.dec (fun h1 => ?_) (fun h1 => ?_) | refine IfB.eq (fun h1 => ?_) (fun h1 => ?_) | refine IfB.ne (fun h1 => ?_) (fun h1 => ?_) | refine IfB.mk (fun h1 => ?_) (fun h1 => ?_))
  · have hlt : i < l.length := by omega
    have hs := cntB_succ hlt
    have hle := cntB_le (l.take i)
    rw [List.length_take] at hle
    (refine gw ?_; refine idx_map (hlt) ?_)
    cases h2 : l[i] with
    | true =>
      rw [h2, if_pos rfl] at hs
      (refine gw ?_; refine ⟨[], [], rfl, ⟨i + 1, by rw [hs]; rfl, rfl, hlt⟩, (by omega : l.length - ((i : Int) + 1).toNat < l.length - (i : Int).toNat)⟩)
    | false =>
      rw [h2, if_neg (by simp), Nat.add_zero] at hs
      (refine gw ?_; refine ⟨[], [], rfl, ⟨i + 1, by rw [hs]; rfl, rfl, hlt⟩, (by omega : l.length - ((i : Int) + 1).toNat < l.length - (i : Int).toNat)⟩)
  · have e : i = l.length := by omega
    subst e
    rw [List.take_length]
    (refine gw ?_; exact RetN.mk ⟨[], rfl, rfl, rfl⟩)
end Go.Ev.W
namespace Go.Ev.W
open Go.Ev Go.Ev.N

theorem lT_get {l : List Bool} {i : Nat} (h : i < l.length) : l.getD i false = l[i] := by simp [List.getD_eq_getElem?_getD, h]
def isIn (f b i : Nat) : Bool := decide (f ≤ i ∧ i < b)
def needF (met : List Bool) (f b i : Nat) : Bool := met.getD i false || isIn f b i
def freshL (on : List Bool) (f b i : Nat) : List Nat := (List.range i).filter fun j => isIn f b j && !on.getD j false
theorem freshL_succ (on : List Bool) (f b i : Nat) : freshL on f b (i + 1) = freshL on f b i ++ if (isIn f b i && !on.getD i false) = true then [i] else [] := by
  unfold freshL; rw [List.range_succ, List.filter_append]; simp [List.filter_cons]
theorem freshL_len (on : List Bool) (f b i : Nat) : (freshL on f b i).length ≤ i := by
  unfold freshL
  have := List.length_filter_le (fun j => isIn f b j && !on.getD j false) (List.range i)
  simpa using this
theorem commitF_eq (on met : List Bool) (f b most : Nat) : commitF on met f b most =
    if cntB ((List.range on.length).map (needF met f b)) > most then ([], [], false)
    else (if cntB ((List.range on.length).map (needF on f b)) > most then (List.range on.length).map fun i => needF on f b i && needF met f b i else (List.range on.length).map (needF on f b), freshL on f b on.length, true) := by
  unfold commitF
  simp only
  have e1 : ((List.range on.length).map fun i => met.getD i false || decide (f ≤ i ∧ i < b)) = (List.range on.length).map (needF met f b) := rfl
  have e2 : ((List.range on.length).map fun i => on.getD i false || decide (f ≤ i ∧ i < b)) = (List.range on.length).map (needF on f b) := rfl
  rw [e1, e2]
  have e3 : ((List.range on.length).map fun i => ((List.range on.length).map (needF on f b)).getD i false && ((List.range on.length).map (needF met f b)).getD i false) = (List.range on.length).map fun i => needF on f b i && needF met f b i := by
    refine List.map_congr_left fun i hi => ?_
    have hi : i < on.length := by simpa using hi
    simp [List.getD_eq_getElem?_getD, hi]
  rw [e3]
  rfl
set_option maxHeartbeats 4000000 in
theorem commit8_told {on met : List Bool} (hN : met.length = on.length) (hl : on.length ≤ 65536) {f b most : Nat} (hf : f ≤ b) (hb : b ≤ on.length) (hm : most ≤ 65536) : Told P T ref8_Commit [] [lT on, lT met, i64 f, i64 b, i64 most] (.tup [lT (commitF on met f b most).1, .lst t_int ((commitF on met f b most).2.1.map fun n => i64 (n : Nat)), .bool (commitF on met f b most).2.2]) [] := by
  have hmo : (on.map AV.bool).length = on.length := by simp
  have hmm : (met.map AV.bool).length = met.length := by simp
  have e3 := commitF_eq on met f b most
  obtain ⟨D, hD⟩ : ∃ D, on.length = D := ⟨_, rfl⟩
  rw [hD] at hN hl hb hmo e3
  refine told_of_ev (fn := ref8_Commit_fn) tabOk mixed (by kernel_rfl) (by kernel_rfl) (by kernel_rfl) (by kernel_rfl) ?_
  (refine gw ?_; refine IfB.ff (by rw [hmm, hmo, hN]; simp) ?_)
  (refine gw ?_; first | refine IfB.dec (fun h2 => ?_) (fun h2 => ?_) | refine IfB.eq (fun h2 => ?_) (fun h2 => ?_) | refine IfB.ne (fun h2 => ?_) (fun h2 => ?_) | refine IfB.mk (fun h2 => ?_) (fun h2 => ?_))
  · omega
  · (refine gw ?_; first | refine IfB.dec (fun h3 => ?_) (fun h3 => ?_) | refine IfB.eq (fun h3 => ?_) (fun h3 => ?_) | refine IfB.ne (fun h3 => ?_) (fun h3 => ?_) | refine IfB.mk (fun h3 => ?_) (fun h3 => ?_))
    · omega
    · (refine gw ?_; refine Room.mk (by rw [hmo]; omega) ?_)
      (refine gw ?_; refine Room.mk (by rw [hmo]; omega) ?_)
      (refine gw ?_; refine LoopN.mk ⟨[0,1,2,3,4,13,14,15,16], fun vs L => ∃ i : Nat, vs = [lT on, lT met, i64 f, i64 b, i64 most, .ref 0, .ref 1, .ref 2, i64 i] ∧ L = [.row t_bool (tabF D fun j => .bool (decide (j < i) && needF met f b j)), .row t_bool (tabF D fun j => .bool (decide (j < i) && needF on f b j)), .row t_int ((freshL on f b i).map fun n => i64 (n : Nat))] ∧ i ≤ D, fun vs L => match vs with | [_, _, _, _, _, _, _, _, .int _ i] => D - i.toNat | _ => 0, [], [2,3,4], rfl, ⟨0, rfl, ?_, by omega⟩, ?_⟩)
      · show [Blk.row t_bool (List.replicate (((on.map AV.bool).length : Nat) : Int).toNat (AV.bool false)), Blk.row t_bool (List.replicate (((on.map AV.bool).length : Nat) : Int).toNat (AV.bool false)), Blk.row t_int []] = _
        rw [Int.toNat_natCast, hmo, tabF_rep]
        have e0 : ∀ g : Nat → Bool, (tabF D fun _ => AV.bool false) = tabF D fun j => AV.bool (decide (j < 0) && g j) := fun g => tabF_congr fun k _ => by
          rw [decide_eq_false (show ¬ k < 0 by omega)]; rfl
        rw [← e0, ← e0]; rfl
      rintro vs L ⟨i, rfl, rfl, hi⟩
      have hfl := freshL_len on f b i
      have hset : ∀ (g : Nat → Bool) (v : Bool), i < D → v = g i → (tabF D fun j => AV.bool (decide (j < i) && g j)).set ((i : Nat) : Int).toNat (.bool v) = tabF D fun j => AV.bool (decide (j < i + 1) && g j) := fun g v hiD hv => by
        rw [Int.toNat_natCast]
        refine tabF_set hiD fun j hj => ?_
        by_cases e : j = i
        · subst e; rw [if_pos rfl, decide_eq_true (show j < j + 1 by omega), hv]; rfl
        · rw [if_neg e]
          have : decide (j < i + 1) = decide (j < i) := decide_eq_decide.2 (by omega)
          rw [this]
      (refine gw ?_; first | refine IfB.dec (fun g1 => ?_) (fun g1 => ?_) | refine IfB.eq (fun g1 => ?_) (fun g1 => ?_) | refine IfB.ne (fun g1 => ?_) (fun g1 => ?_) | refine IfB.mk (fun g1 => ?_) (fun g1 => ?_))
      · have hiD : i < D := by omega
        have hio : i < on.length := by omega
        have him : i < met.length := by omega
        have ho := lT_get hio
        have hme := lT_get him
        have hfs := freshL_succ on f b i
        have n1 : ∀ th, isIn f b i = th → needF met f b i = (met[i] || th) := fun th h => by unfold needF; rw [hme, h]
        have n2 : ∀ th, isIn f b i = th → needF on f b i = (on[i] || th) := fun th h => by unfold needF; rw [ho, h]
        rw [ho] at hfs
        have hth : isIn f b i = true ∨ isIn f b i = false := by cases isIn f b i <;> simp
        have hth1 : isIn f b i = true → f ≤ i ∧ i < b := fun h => of_decide_eq_true h
        have hth0 : isIn f b i = false → ¬ (f ≤ i ∧ i < b) := fun h => of_decide_eq_false h
        have stepB : ∀ (v w : Bool) (z z' : List AV), needF met f b i = v → needF on f b i = w → z = z' → [Blk.row t_bool ((tabF D fun j => AV.bool (decide (j < i) && needF met f b j)).set ((i : Nat) : Int).toNat (.bool v)), Blk.row t_bool ((tabF D fun j => AV.bool (decide (j < i) && needF on f b j)).set ((i : Nat) : Int).toNat (.bool w)), Blk.row t_int z] = [Blk.row t_bool (tabF D fun j => AV.bool (decide (j < i + 1) && needF met f b j)), Blk.row t_bool (tabF D fun j => AV.bool (decide (j < i + 1) && needF on f b j)), Blk.row t_int z'] := fun v w z z' hv hw hz => by
          rw [hset (needF met f b) v hiD hv.symm, hset (needF on f b) w hiD hw.symm, hz]
        have hfm : ((freshL on f b i).map fun n => i64 (n : Nat)).length = (freshL on f b i).length := by simp
        rcases hth with hth | hth
        · obtain ⟨q1, q2⟩ := hth1 hth
          rw [hth, Bool.true_and] at hfs
          (refine gw ?_; refine IfB.tt (by simp; omega) ?_)
          (refine gw ?_)
          rw [decide_eq_true (show ((i : Nat) : Int) < ((b : Nat) : Int) by omega)]
          have n1 := n1 true hth
          have n2 := n2 true hth
          rw [Bool.or_true] at n1 n2
          (refine gw ?_; refine idx_map (him) ?_)
          rcases hmv : met[i] with _ | _
          all_goals
            (refine gw ?_; refine idx_map (hio) ?_)
            rcases hov : on[i] with _ | _
          all_goals
            rw [hov] at hfs
            (refine gw ?_; refine InB.mk (by omega) (by rw [tabF_len]; omega) ?_)
            (refine gw ?_; refine InB.mk (by omega) (by rw [tabF_len]; omega) ?_)
            (refine gw ?_; refine idx_map (hio) ?_)
            rw [hov]
          case' inl.false.false | inl.true.false =>
            have hz : (freshL on f b i).map (fun n => i64 (n : Nat)) ++ [i64 (i : Nat)] = (freshL on f b (i + 1)).map fun n => i64 (n : Nat) := by rw [hfs]; simp
            (refine gw ?_; refine Room.mk (by first | omega | (simp; omega) | (simp <;> fail)) ?_)
            (refine gw ?_; refine ⟨[], [0,1,4], rfl, ⟨i + 1, rfl, stepB true true _ _ n1 n2 hz, hiD⟩, (by omega : D - ((i : Int) + 1).toNat < D - (i : Int).toNat)⟩)
          case' inl.false.true | inl.true.true =>
            have hz : (freshL on f b i).map (fun n => i64 (n : Nat)) = (freshL on f b (i + 1)).map fun n => i64 (n : Nat) := by rw [hfs]; simp
            (refine gw ?_; refine ⟨[], [0,1,2], rfl, ⟨i + 1, rfl, stepB true true _ _ n1 n2 hz, hiD⟩, (by omega : D - ((i : Int) + 1).toNat < D - (i : Int).toNat)⟩)
        · have hq := hth0 hth
          rw [hth, Bool.false_and] at hfs
          have hz : (freshL on f b i).map (fun n => i64 (n : Nat)) = (freshL on f b (i + 1)).map fun n => i64 (n : Nat) := by rw [hfs]; simp
          have n1 := n1 false hth
          have n2 := n2 false hth
          rw [Bool.or_false] at n1 n2
          (refine gw ?_; first | refine IfB.dec (fun q1 => ?_) (fun q1 => ?_) | refine IfB.eq (fun q1 => ?_) (fun q1 => ?_) | refine IfB.ne (fun q1 => ?_) (fun q1 => ?_) | refine IfB.mk (fun q1 => ?_) (fun q1 => ?_))
          all_goals
            (refine gw ?_)
            try rw [decide_eq_false (show ¬ ((i : Nat) : Int) < ((b : Nat) : Int) by omega)]
            (refine gw ?_; refine idx_map (him) ?_)
            rcases hmv : met[i] with _ | _
          all_goals
            (refine gw ?_; refine idx_map (hio) ?_)
            rcases hov : on[i] with _ | _
          all_goals
            rw [hmv] at n1
            rw [hov] at n2
            (refine gw ?_; refine InB.mk (by omega) (by rw [tabF_len]; omega) ?_)
            (refine gw ?_; refine InB.mk (by omega) (by rw [tabF_len]; omega) ?_)
            (refine gw ?_; refine ⟨[], [0,1,2], rfl, ⟨i + 1, rfl, stepB _ _ _ _ n1 n2 hz, hiD⟩, (by omega : D - ((i : Int) + 1).toNat < D - (i : Int).toNat)⟩)
      · have e : i = D := by omega
        subst e
        have f1 : ∀ g : Nat → Bool, (tabF i fun j => AV.bool (decide (j < i) && g j)) = ((List.range i).map g).map AV.bool := fun g => by
          rw [← tabF_of]; exact tabF_congr fun j hj => by rw [decide_eq_true hj]; rfl
        rw [f1, f1]
        have c1 := count8_told ((List.range i).map (needF met f b)) (by simp; omega)
        have c2 := count8_told ((List.range i).map (needF on f b)) (by simp; omega)
        (refine gw ?_; refine Choice.mk ⟨false, Choice.mk ⟨true, _, _, c1, ?_⟩⟩)
        (refine gw ?_; first | refine IfB.dec (fun g2 => ?_) (fun g2 => ?_) | refine IfB.eq (fun g2 => ?_) (fun g2 => ?_) | refine IfB.ne (fun g2 => ?_) (fun g2 => ?_) | refine IfB.mk (fun g2 => ?_) (fun g2 => ?_))
        · rw [e3, if_pos (by omega)]
          (refine gw ?_; exact RetN.fz ⟨[true, true, true], [], rfl, rfl, rfl⟩)
        · rw [if_neg (by omega)] at e3
          (refine gw ?_; refine Choice.mk ⟨false, Choice.mk ⟨true, _, _, c2, ?_⟩⟩)
          (refine gw ?_; first | refine IfB.dec (fun g3 => ?_) (fun g3 => ?_) | refine IfB.eq (fun g3 => ?_) (fun g3 => ?_) | refine IfB.ne (fun g3 => ?_) (fun g3 => ?_) | refine IfB.mk (fun g3 => ?_) (fun g3 => ?_))
          · rw [if_pos (by omega)] at e3
            have hlA : ((List.range i).map (needF on f b)).length = i := by simp
            have hlN : ((List.range i).map (needF met f b)).length = i := by simp
            have hgA : ∀ j, j < i → ((List.range i).map (needF on f b)).getD j false = needF on f b j := fun j hj => by simp [List.getD_eq_getElem?_getD, hj]
            have hgN : ∀ j, j < i → ((List.range i).map (needF met f b)).getD j false = needF met f b j := fun j hj => by simp [List.getD_eq_getElem?_getD, hj]
            (refine gw ?_; refine LoopN.mk ⟨[0,13,14,15,18], fun vs L => ∃ k : Nat, vs = [lT on, .ref 0, .ref 1, .ref 2, i64 k] ∧ L = [.row t_bool (tabF i fun j => .bool (needF met f b j)), .row t_bool (tabF i fun j => .bool (needF on f b j && or (decide (k ≤ j)) (needF met f b j))), .row t_int ((freshL on f b i).map fun n => i64 (n : Nat))] ∧ k ≤ i, fun vs L => match vs with | [_, _, _, _, .int _ i] => on.length - i.toNat | _ => 0, [], [0,1,2], rfl, ⟨0, rfl, ?_, by omega⟩, ?_⟩)
            · have q1 : (tabF i fun j => AV.bool (needF on f b j && or (decide (0 ≤ j)) (needF met f b j))) = ((List.range i).map (needF on f b)).map AV.bool := by
                rw [← tabF_of]; exact tabF_congr fun j _ => by rw [decide_eq_true (Nat.zero_le j)]; simp
              have q2 : (tabF i fun j => AV.bool (needF met f b j)) = ((List.range i).map (needF met f b)).map AV.bool := tabF_of _ _ _
              show [Blk.row t_bool _, Blk.row t_bool _, Blk.row t_int _] = _
              rw [q1, q2]
            rintro vs L ⟨k, rfl, rfl, hk⟩
            (refine gw ?_; first | refine IfB.dec (fun g1 => ?_) (fun g1 => ?_) | refine IfB.eq (fun g1 => ?_) (fun g1 => ?_) | refine IfB.ne (fun g1 => ?_) (fun g1 => ?_) | refine IfB.mk (fun g1 => ?_) (fun g1 => ?_))
            · have hki : k < i := by omega
              have hA := tabF_get (f := fun j => AV.bool (needF on f b j && or (decide (k ≤ j)) (needF met f b j))) hki
              have hN := tabF_get (f := fun j => AV.bool (needF met f b j)) hki
              have hkk : ((k : Nat) : Int).toNat = k := Int.toNat_natCast _
              have hse : ∀ v : Bool, (needF on f b k && needF met f b k) = v → (tabF i fun j => AV.bool (needF on f b j && or (decide (k ≤ j)) (needF met f b j))).set ((k : Nat) : Int).toNat (.bool v) = tabF i fun j => AV.bool (needF on f b j && or (decide (k + 1 ≤ j)) (needF met f b j)) := fun v hv => by
                rw [Int.toNat_natCast]
                refine tabF_set hki fun j hj => ?_
                by_cases e : j = k
                · subst e; rw [if_pos rfl, decide_eq_false (show ¬ j + 1 ≤ j by omega), Bool.false_or, hv]
                · rw [if_neg e]
                  have : decide (k + 1 ≤ j) = decide (k ≤ j) := decide_eq_decide.2 (by omega)
                  rw [this]
              rw [decide_eq_true (show k ≤ k by omega), Bool.true_or, Bool.and_true] at hA
              have hA1 : (tabF i fun j => AV.bool (needF on f b j && or (decide (k ≤ j)) (needF met f b j)))[((k : Nat) : Int).toNat]? = some (.bool (needF on f b k)) := by rw [hkk]; exact hA
              have hN1 : (tabF i fun j => AV.bool (needF met f b j))[((k : Nat) : Int).toNat]? = some (.bool (needF met f b k)) := by rw [hkk]; exact hN
              (refine gw ?_; refine InB.mk (by omega) (by rw [tabF_len]; omega) ?_)
              refine gw ?_
              refine At.mk ⟨.bool (needF on f b k), hA1, ?_⟩
              rcases gA : needF on f b k with _ | _
              · rw [gA, Bool.false_and] at hse
                (refine gw ?_; refine InB.mk (by omega) (by rw [tabF_len]; omega) ?_)
                (refine gw ?_; refine ⟨[], [0,1,2], rfl, ⟨k + 1, rfl, by rw [← hse _ rfl]; rfl, hki⟩, (by omega : on.length - ((k : Int) + 1).toNat < on.length - (k : Int).toNat)⟩)
              · rw [gA, Bool.true_and] at hse
                (refine gw ?_; refine InB.mk (by omega) (by rw [tabF_len]; omega) ?_)
                refine gw ?_
                refine At.mk ⟨.bool (needF met f b k), hN1, ?_⟩
                (refine gw ?_; refine InB.mk (by omega) (by rw [tabF_len]; omega) ?_)
                (refine gw ?_; refine ⟨[], [0,1,2], rfl, ⟨k + 1, rfl, by rw [← hse _ rfl]; rfl, hki⟩, (by omega : on.length - ((k : Int) + 1).toNat < on.length - (k : Int).toNat)⟩)
            · have e : k = i := by omega
              subst e
              have q1 : (tabF k fun j => AV.bool (needF on f b j && or (decide (k ≤ j)) (needF met f b j))) = ((List.range k).map fun i => needF on f b i && needF met f b i).map AV.bool := by
                rw [← tabF_of]; exact tabF_congr fun j hj => by rw [decide_eq_false (show ¬ k ≤ j by omega)]; simp
              rw [q1, e3]
              (refine gw ?_; exact RetN.fz ⟨[true, true, true], [], rfl, rfl, rfl⟩)
          · rw [if_neg (by omega)] at e3
            rw [e3]
            (refine gw ?_; exact RetN.fz ⟨[true, true, true], [], rfl, rfl, rfl⟩)
end Go.Ev.W
namespace Go.Ev.W
open Go.Ev Go.Ev.N

set_option maxHeartbeats 4000000 in
theorem byte8_told (seed page k : Nat) : Told P T ref8_Byte [] [i64 seed, i64 page, i64 k] (u8 (byteF seed page k)) [] := by
  have t1 : ∀ n : Nat, ((n : Nat) : Int).tmod 256 = ((n % 256 : Nat) : Int) := fun n => (Int.ofNat_tmod n 256).symm
  refine told_of_ev (fn := ref8_Byte_fn) tabOk mixed (by kernel_rfl) (by kernel_rfl) (by kernel_rfl) (by kernel_rfl) ?_
  (refine gw ?_)
  rw [t1, t1]
  (refine gw ?_)
  rw [t1]
  refine gw ?_
  rw [show ((seed % 256 : Nat) : Int) + 31 * ((page % 256 : Nat) : Int) + 7 * ((k % 256 : Nat) : Int) + 1 = ((seed % 256 + 31 * (page % 256) + 7 * (k % 256) + 1 : Nat) : Int) by omega, t1]
  (refine gw ?_)
  refine fits (by rw [IntKind.wrap_u8]; omega) ?_
  (refine gw ?_; refine RetN.mk ⟨[], rfl, ?_, rfl⟩)
  rfl

set_option maxHeartbeats 4000000 in
theorem trim8_told {on met : List Bool} (hN : met.length = on.length) (hl : on.length ≤ 65536) : Told P T ref8_Trim [] [lT on, lT met] (.tup [lT (trimF on met).1, i64 ((trimF on met).2 : Nat)]) [] := by
  have hmo : (on.map AV.bool).length = on.length := by simp
  have hmm : (met.map AV.bool).length = met.length := by simp
  obtain ⟨D, hD⟩ : ∃ D, on.length = D := ⟨_, rfl⟩
  refine told_of_ev (fn := ref8_Trim_fn) tabOk mixed (by kernel_rfl) (by kernel_rfl) (by kernel_rfl) (by kernel_rfl) ?_
  (refine gw ?_; refine Room.mk (by rw [hmo]; omega) ?_)
  (refine gw ?_; refine LoopN.mk ⟨[0,1,6,7,8], fun vs L => ∃ i : Nat, vs = [lT on, lT met, .ref 0, i64 (((List.range i).filter fun i => on.getD i false && !met.getD i false).length : Nat), i64 i] ∧ L = [.row t_bool (tabF D fun j => .bool (decide (j < i) && (on.getD j false && met.getD j false)))] ∧ i ≤ D, fun vs L => match vs with | [_, _, _, _, .int _ i] => D - i.toNat | _ => 0, [], [1], rfl, ⟨0, rfl, ?_, by omega⟩, ?_⟩)
  · show [Blk.row t_bool (List.replicate (((on.map AV.bool).length : Nat) : Int).toNat (AV.bool false))] = _
    rw [Int.toNat_natCast, hmo, tabF_rep, hD]
    refine congrArg (fun z => [Blk.row t_bool z]) (tabF_congr fun k _ => ?_)
    rw [decide_eq_false (show ¬ k < 0 by omega)]; rfl
  rintro vs L ⟨i, rfl, rfl, hi⟩
  have hset : ∀ (v : Bool), i < D → v = (on.getD i false && met.getD i false) → (tabF D fun j => AV.bool (decide (j < i) && (on.getD j false && met.getD j false))).set ((i : Nat) : Int).toNat (.bool v) = tabF D fun j => AV.bool (decide (j < i + 1) && (on.getD j false && met.getD j false)) := fun v hiD hv => by
    rw [Int.toNat_natCast]
    refine tabF_set hiD fun j hj => ?_
    by_cases e : j = i
    · subst e; rw [if_pos rfl, decide_eq_true (show j < j + 1 by omega), hv]; rfl
    · rw [if_neg e]
      have : decide (j < i + 1) = decide (j < i) := decide_eq_decide.2 (by omega)
      rw [this]
  (refine gw ?_; first | refine IfB.dec (fun g1 => ?_) (fun g1 => ?_) | refine IfB.eq (fun g1 => ?_) (fun g1 => ?_) | refine IfB.ne (fun g1 => ?_) (fun g1 => ?_) | refine IfB.mk (fun g1 => ?_) (fun g1 => ?_))
  · have hiD : i < D := by omega
    have hio : i < on.length := by omega
    have him : i < met.length := by omega
    have ho := lT_get hio
    have hm := lT_get him
    have hs : (List.filter (fun i => on.getD i false && !met.getD i false) (List.range (i + 1))).length = (List.filter (fun i => on.getD i false && !met.getD i false) (List.range i)).length + if (on[i] && !met[i]) = true then 1 else 0 := by
      rw [List.range_succ, List.filter_append, List.length_append, ← ho, ← hm]; simp only [List.filter_cons, List.filter_nil]; split <;> rfl
    have hs2 : (List.filter (fun i => on.getD i false && !met.getD i false) (List.range i)).length ≤ i := by
      simpa using List.length_filter_le (fun i => on.getD i false && !met.getD i false) (List.range i)
    rw [ho, hm] at hset
    (refine gw ?_; refine idx_map (hio) ?_)
    rcases hov : on[i] with _ | _
    · rw [hov] at hs hset
      rw [Bool.false_and] at hs hset
      have hs : (List.filter (fun i => on.getD i false && !met.getD i false) (List.range (i + 1))).length = (List.filter (fun i => on.getD i false && !met.getD i false) (List.range i)).length := hs
      (refine gw ?_; refine InB.mk (by omega) (by rw [tabF_len]; omega) ?_)
      (refine gw ?_; refine idx_map (hio) ?_)
      rw [hov]
      (refine gw ?_; refine ⟨[], [0], rfl, ⟨i + 1, by rw [hs]; rfl, by rw [← hset false hiD rfl]; rfl, hiD⟩, (by omega : D - ((i : Int) + 1).toNat < D - (i : Int).toNat)⟩)
    · rw [hov] at hs hset
      rw [Bool.true_and] at hs hset
      (refine gw ?_; refine IfB.tt (by rw [hmm]; simp; omega) ?_)
      (refine gw ?_; refine idx_map (him) ?_)
      rcases hmv : met[i] with _ | _
      · rw [hmv] at hs hset
        have hs : (List.filter (fun i => on.getD i false && !met.getD i false) (List.range (i + 1))).length = (List.filter (fun i => on.getD i false && !met.getD i false) (List.range i)).length + 1 := hs
        have hg : ∀ g : Nat → Bool, g i = false → (tabF D fun j => AV.bool (decide (j < i + 1) && g j))[((i : Nat) : Int).toNat]? = some (.bool false) := fun g hg => by
          rw [Int.toNat_natCast, tabF_get hiD, hg, Bool.and_false]
        (refine gw ?_; refine InB.mk (by omega) (by rw [tabF_len]; omega) ?_)
        (refine gw ?_; refine idx_map (hio) ?_)
        rw [hov]
        (refine gw ?_)
        rw [hset (bif true then false else false) hiD rfl]
        (refine gw ?_; refine InB.mk (by omega) (by rw [tabF_len]; omega) ?_)
        refine gw ?_
        refine At.mk ⟨.bool false, hg _ (by rw [ho, hm, hov, hmv]; rfl), ?_⟩
        refine gw ?_
        (refine gw ?_; refine ⟨[], [0], rfl, ⟨i + 1, by rw [hs]; rfl, rfl, hiD⟩, (by omega : D - ((i : Int) + 1).toNat < D - (i : Int).toNat)⟩)
      · rw [hmv] at hs hset
        have hs : (List.filter (fun i => on.getD i false && !met.getD i false) (List.range (i + 1))).length = (List.filter (fun i => on.getD i false && !met.getD i false) (List.range i)).length := hs
        have hg : ∀ g : Nat → Bool, g i = true → (tabF D fun j => AV.bool (decide (j < i + 1) && g j))[((i : Nat) : Int).toNat]? = some (.bool true) := fun g hg => by
          rw [Int.toNat_natCast, tabF_get hiD, hg, decide_eq_true (show i < i + 1 by omega)]; rfl
        (refine gw ?_; refine InB.mk (by omega) (by rw [tabF_len]; omega) ?_)
        (refine gw ?_; refine idx_map (hio) ?_)
        rw [hov]
        (refine gw ?_)
        rw [hset (bif true then true else false) hiD rfl]
        (refine gw ?_; refine InB.mk (by omega) (by rw [tabF_len]; omega) ?_)
        refine gw ?_
        refine At.mk ⟨.bool true, hg _ (by rw [ho, hm, hov, hmv]; rfl), ?_⟩
        (refine gw ?_; refine ⟨[], [0], rfl, ⟨i + 1, by rw [hs]; rfl, rfl, hiD⟩, (by omega : D - ((i : Int) + 1).toNat < D - (i : Int).toNat)⟩)
  · have e : i = D := by omega
    subst e
    have f1 : ∀ g : Nat → Bool, (tabF i fun j => AV.bool (decide (j < i) && g j)) = ((List.range i).map g).map AV.bool := fun g => by
      rw [← tabF_of]; exact tabF_congr fun j hj => by rw [decide_eq_true hj]; rfl
    rw [f1]
    unfold trimF
    rw [hD]
    (refine gw ?_; exact RetN.fz ⟨[true, true], [], rfl, rfl, rfl⟩)
end Go.Ev.W
namespace Go.Ev.W
open Go.Ev Go.Ev.N

def fAt (mem : List Nat) (seed page size j : Nat) : Nat := if j / size = page then byteF seed page (j % size) else mem.getD j 0
theorem fillF_eq (mem : List Nat) (seed page size : Nat) : fillF mem seed page size = (List.range mem.length).map (fAt mem seed page size) := rfl
theorem lU_tab (mem : List Nat) : mem.map u8 = tabF mem.length fun k => u8 (mem.getD k 0) := tabF_map mem u8 0
set_option maxHeartbeats 4000000 in
theorem fill8_told {mem : List Nat} (hl : mem.length ≤ 65536) {seed page size : Nat} (hs : 0 < size) : Told P T ref8_Fill [] [lU mem, i64 seed, i64 page, i64 size] (lU (fillF mem seed page size)) [] := by
  obtain ⟨D, hD⟩ : ∃ D, mem.length = D := ⟨_, rfl⟩
  have hmu : (mem.map u8).length = D := by simp [hD]
  have hml : (mem.map u8).length = mem.length := by simp
  refine told_of_ev (fn := ref8_Fill_fn) tabOk mixed (by kernel_rfl) (by kernel_rfl) (by kernel_rfl) (by kernel_rfl) ?_
  (refine gw ?_; refine Room.mk (by first | omega | (simp; omega) | (simp <;> fail)) ?_)
  (refine gw ?_; refine LoopN.mk ⟨[1,2,3,9,10], fun vs L => ∃ k : Nat, vs = [i64 seed, i64 page, i64 size, .ref 0, i64 k] ∧ L = [.row t_uint8 (tabF D fun j => u8 (if j < k then fAt mem seed page size j else mem.getD j 0))] ∧ k ≤ D, fun vs L => match vs with | [_, _, _, _, .int _ i] => D - i.toNat | _ => 0, [], [2], rfl, ⟨0, rfl, ?_, by omega⟩, ?_⟩)
  · show [Blk.row t_uint8 (mem.map u8)] = _
    rw [lU_tab, hD]
    exact congrArg (fun z => [Blk.row t_uint8 z]) (tabF_congr fun k _ => rfl)
  rintro vs L ⟨k, rfl, rfl, hk⟩
  have hset : k < D → ∀ v : Nat, fAt mem seed page size k = v → (tabF D fun j => u8 (if j < k then fAt mem seed page size j else mem.getD j 0)).set ((k : Nat) : Int).toNat (u8 v) = tabF D fun j => u8 (if j < k + 1 then fAt mem seed page size j else mem.getD j 0) := fun hkD v hv => by
    rw [Int.toNat_natCast]
    refine tabF_set hkD fun j hj => ?_
    by_cases e : j = k
    · subst e; rw [if_pos rfl, if_pos (by omega), hv]
    · rw [if_neg e]
      by_cases e2 : j < k
      · rw [if_pos e2, if_pos (by omega)]
      · rw [if_neg e2, if_neg (by omega)]
  have hskip : k < D → fAt mem seed page size k = mem.getD k 0 → (tabF D fun j => u8 (if j < k then fAt mem seed page size j else mem.getD j 0)) = tabF D fun j => u8 (if j < k + 1 then fAt mem seed page size j else mem.getD j 0) := fun hkD hv => by
    refine tabF_congr fun j hj => ?_
    by_cases e : j = k
    · subst e; rw [if_neg (by omega), if_pos (by omega), hv]
    · by_cases e2 : j < k
      · rw [if_pos e2, if_pos (by omega)]
      · rw [if_neg e2, if_neg (by omega)]
  have hb := tabF_len D (fun j => u8 (if j < k then fAt mem seed page size j else mem.getD j 0))
  (refine gw ?_)
  rw [hb]
  (refine gw ?_; first | refine IfB.dec (fun g1 => ?_) (fun g1 => ?_) | refine IfB.eq (fun g1 => ?_) (fun g1 => ?_) | refine IfB.ne (fun g1 => ?_) (fun g1 => ?_) | refine IfB.mk (fun g1 => ?_) (fun g1 => ?_))
  · have hkD : k < D := by omega
    have d1 : ((k : Nat) : Int).tdiv ((size : Nat) : Int) = ((k / size : Nat) : Int) := (Int.ofNat_tdiv k size).symm
    have d2 : ((k : Nat) : Int).tmod ((size : Nat) : Int) = ((k % size : Nat) : Int) := (Int.ofNat_tmod k size).symm
    (refine gw ?_; refine IfB.tt (by simp; omega) ?_)
    (refine gw ?_)
    rw [d1]
    have hd := Nat.div_le_self k size
    have hr := Nat.mod_le k size
    have hf1 : k / size = page → fAt mem seed page size k = byteF seed page (k % size) := fun hp => by unfold fAt; rw [if_pos hp]
    have hf2 : ¬ k / size = page → fAt mem seed page size k = mem.getD k 0 := fun hp => by unfold fAt; rw [if_neg hp]
    generalize k / size = d at *
    generalize k % size = r at *
    by_cases hp : d = page
    · have hf := hf1 hp
      (refine gw ?_; refine IfB.tt (by simp [hp]) ?_)
      (refine gw ?_)
      rw [d2]
      (refine gw ?_; refine Choice.mk ⟨false, Choice.mk ⟨true, _, _, byte8_told seed page r, ?_⟩⟩)
      (refine gw ?_; refine ⟨[], [0], rfl, ⟨k + 1, rfl, by rw [← hset hkD _ hf]; rfl, hkD⟩, (by omega : D - ((k : Int) + 1).toNat < D - (k : Int).toNat)⟩)
    · have hf := hf2 hp
      (refine gw ?_; refine IfB.ff (by simp; omega) ?_)
      (refine gw ?_; refine ⟨[], [0], rfl, ⟨k + 1, rfl, by rw [← hskip hkD hf]; rfl, hkD⟩, (by omega : D - ((k : Int) + 1).toNat < D - (k : Int).toNat)⟩)
  · have e : k = D := by omega
    subst e
    have f1 : (tabF k fun j => u8 (if j < k then fAt mem seed page size j else mem.getD j 0)) = (fillF mem seed page size).map u8 := by
      rw [fillF_eq, hD, ← tabF_of]; exact tabF_congr fun j hj => by rw [if_pos hj]
    rw [f1]
    (refine gw ?_; exact RetN.fz ⟨[true], [], rfl, rfl, rfl⟩)

theorem there8_told {mem : List Nat} (hl : mem.length ≤ 65536) {a n : Nat} (h : a + n ≤ mem.length) : Told P T ref8_there [] [lU mem, i64 a, i64 n] (.bool true) [] := by
  have hmu : (mem.map u8).length = mem.length := by simp
  refine told_of_ev (fn := ref8_there_fn) tabOk mixed (by kernel_rfl) (by kernel_rfl) (by kernel_rfl) (by kernel_rfl) ?_
  (refine gw ?_; refine IfB.tt (by simp; omega) ?_)
  (refine gw ?_; refine RetN.mk ⟨[], rfl, ?_, rfl⟩)
  rw [hmu]
  refine congrArg AV.bool (decide_eq_true ?_)
  omega
end Go.Ev.W
namespace Go.Ev.W
open Go.Ev Go.Ev.N

theorem totalB_le {H : Nat} : ∀ {l : List Bk} {lo : Int}, (l.Pairwise fun x y => x.a + x.c ≤ y.a) → (∀ x ∈ l, lo ≤ x.a ∧ 1 ≤ x.c ∧ x.a + x.c ≤ H) → lo ≤ H → totalB l ≤ H - lo
  | [], lo, _, _, h => by simp [totalB]; omega
  | x :: l, lo, hp, hb, h => by
    have hx := hb x (by simp)
    rw [List.pairwise_cons] at hp
    have := totalB_le (l := l) (lo := x.a + x.c) hp.2 (fun y hy => ⟨hp.1 y hy, (hb y (by simp [hy])).2⟩) hx.2.2
    have e : totalB (x :: l) = x.c + totalB l := by simp only [totalB, List.map_cons, List.sum_cons]
    rw [e]; omega
theorem ApB.tot {H : Nat} {l : List Bk} (h : ApB H l) : totalB l ≤ H := by
  have := totalB_le (lo := 0) h.p (fun x hx => ⟨(h.b x hx).1, (h.b x hx).2.1, (h.b x hx).2.2⟩) (by omega)
  omega
theorem ApB.len {H : Nat} {l : List Bk} (h : ApB H l) : l.length ≤ H := by have := h.tot; have := totalB_nonneg h; omega
theorem totalB_succ {l : List Bk} {i : Nat} (h : i < l.length) : totalB (l.take (i + 1)) = totalB (l.take i) + l[i].c := by
  unfold totalB; rw [List.take_succ_eq_append_getElem h, List.map_append, List.sum_append]; simp
theorem totalB_take {H : Nat} {l : List Bk} (h : ApB H l) (i : Nat) : 0 ≤ totalB (l.take i) ∧ totalB (l.take i) ≤ H := by
  have h' := h.sub (List.take_sublist i l)
  have := h'.tot; have := totalB_nonneg h'
  exact ⟨by omega, by omega⟩
theorem fillF_len (mem : List Nat) (a b c : Nat) : (fillF mem a b c).length = mem.length := by simp [fillF]
theorem fills_len (sd pg : Nat) : ∀ (fs : List Nat) (mem : List Nat), (fs.foldl (fun mem p => fillF mem sd p pg) mem).length = mem.length
  | [], _ => rfl
  | f :: fs, mem => by rw [List.foldl_cons, fills_len sd pg fs, fillF_len]
theorem fills_succ (sd pg : Nat) {fs : List Nat} (mem : List Nat) {i : Nat} (h : i < fs.length) : (fs.take (i + 1)).foldl (fun mem p => fillF mem sd p pg) mem = fillF ((fs.take i).foldl (fun mem p => fillF mem sd p pg) mem) sd fs[i] pg := by
  rw [List.take_succ_eq_append_getElem h, List.foldl_append]; rfl

theorem Cf.Ok.pgH {c : Cf} (h : c.Ok) : ∃ k, c.H = c.Pg * k := by
  obtain ⟨e, he⟩ := h.p
  obtain ⟨q, hq⟩ := h.m
  have hd : ∃ r, max c.N c.Pg = c.Pg * r := by
    rcases Nat.le_total c.N c.Pg with h1 | h1
    · exact ⟨1, by rw [Nat.max_eq_right h1]; omega⟩
    · rw [Nat.max_eq_left h1]
      have hg := h.gpos
      have hn := h.n
      rw [hn, he] at h1 ⊢
      have h2 := Nat.le_of_mul_le_mul_left h1 (by omega)
      have h3 := (Nat.pow_le_pow_iff_right (by omega : 1 < 2)).1 h2
      exact ⟨2 ^ (c.L - e), by rw [Nat.mul_assoc, ← Nat.pow_add]; congr 2; omega⟩
  obtain ⟨r, hr⟩ := hd
  have h1 : c.M / 2 = c.Pg * r * q := by rw [hq, hr, show 2 * (c.Pg * r) * q = 2 * (c.Pg * r * q) by rw [Nat.mul_assoc 2]]; omega
  refine ⟨r * q * 2 + c.L * (r * q), ?_⟩
  rw [h.h, h1, hq, hr, Nat.mul_add]
  have e1 : 2 * (c.Pg * r) * q = c.Pg * (r * q * 2) := by simp only [Nat.mul_assoc, Nat.mul_comm, Nat.mul_left_comm]
  have e2 : c.L * (c.Pg * r * q) = c.Pg * (c.L * (r * q)) := by simp only [Nat.mul_assoc, Nat.mul_comm, Nat.mul_left_comm]
  rw [e1, e2]
theorem Cf.Ok.pgpos {c : Cf} (h : c.Ok) : 1 ≤ c.Pg := by
  obtain ⟨e, he⟩ := h.p
  have := h.gpos
  have := Nat.one_le_two_pow (n := e)
  rw [he]; exact Nat.mul_pos (by omega) (by omega)
theorem Cf.Ok.pages {c : Cf} (h : c.Ok) {y n : Nat} (hn : 1 ≤ n) (hy : y + n ≤ c.H) : y / c.Pg ≤ (y + n - 1) / c.Pg + 1 ∧ (y + n - 1) / c.Pg + 1 ≤ c.H / c.Pg := by
  have hp := h.pgpos
  obtain ⟨k, hk⟩ := h.pgH
  refine ⟨?_, ?_⟩
  · have := Nat.div_le_div_right (c := c.Pg) (show y ≤ y + n - 1 by omega); omega
  · rw [hk, Nat.mul_div_cancel_left _ (by omega)]
    refine Nat.div_lt_of_lt_mul ?_
    rw [← hk]; omega

def eMx (c : Cf) (bs : List Bk) (live peak mark : Int) (on : List Bool) (mem : List Nat) : AV := .agg [i64 c.G, i64 c.N, i64 c.M, i64 c.L, i64 c.Pg, i64 c.P, i64 c.H, i64 c.Sd, lK bs, i64 live, i64 peak, i64 mark, lT on, lU mem]
def mo0 : AV := .agg [i64 0, i64 0, i64 0, i64 0, i64 0, i64 0, i64 0, i64 0, .lst t_api_Block [], i64 0, i64 0, i64 0, .lst t_bool [], .lst t_uint8 []]
set_option maxHeartbeats 8000000 in
theorem place17_told {m : Mo} (hm : MoOk m) {l : List Bk} (ha : ApB m.c.H l) {n : Nat} (hn : 1 ≤ n) (hn2 : n ≤ m.c.N) {q : Int} : Told P T ref17_place [] [eM m, lK l, i64 n, i64 q] (.tup [eM (placeF m l n q).1, i64 (placeF m l n q).2.1, i64 (placeF m l n q).2.2]) [] := by
  have hH := hm.c.h2
  have hNM := hm.c.nM
  have hMH : m.c.M ≤ m.c.H := by have := hm.c.h; omega
  have hlen := ha.len
  have hpg := hm.c.pgpos
  obtain ⟨R, hR⟩ : ∃ R, lowF m.c l n = R := ⟨_, rfl⟩
  have c1 := lowest17_told hm.c ha hn (by omega)
  have hsp := lowF_spec (c := m.c) (l := l) hn
  rw [hR] at c1 hsp
  unfold placeF
  simp only []
  rw [hR]
  obtain ⟨y, ok⟩ := R
  refine told_of_ev (fn := ref17_place_fn) tabOk mixed (by kernel_rfl) (by kernel_rfl) (by kernel_rfl) (by kernel_rfl) ?_
  (refine gw ?_; refine Choice.mk ⟨false, Choice.mk ⟨true, _, _, c1, ?_⟩⟩)
  cases ok with
  | false =>
    rw [if_pos rfl]
    (refine gw ?_; exact RetN.mk ⟨[], rfl, rfl, rfl⟩)
  | true =>
    obtain ⟨j, h1, h2, h3, h4⟩ := hsp rfl
    simp only at h1 h2 h3 h4 ⊢
    rw [← h1] at h2
    rw [if_neg (by simp)]
    have hpa := hm.c.pages hn h2
    have hml : (metF m.c.Pg m.c.H l).length = m.on.length := by rw [hm.o]; simp [metF]
    have hol : m.on.length ≤ 65536 := by have := hm.o; have := Nat.div_le_self m.c.H m.c.Pg; omega
    have c2 := pages_told (pg := m.c.Pg) (y := y) (n := n) hpg hn (by omega)
    have c3 := met8_told (pg := m.c.Pg) (size := m.c.H) hpg hH (l := l) (by omega) ha.b
    have c4 := commit8_told (on := m.on) hml hol (f := y / m.c.Pg) (b := (y + n - 1) / m.c.Pg + 1) (most := m.c.P) hpa.1 (by rw [hm.o]; exact hpa.2) hm.c.b
    obtain ⟨C, hC⟩ : ∃ C, commitF m.on (metF m.c.Pg m.c.H l) (y / m.c.Pg) ((y + n - 1) / m.c.Pg + 1) m.c.P = C := ⟨_, rfl⟩
    rw [hC] at c4 ⊢
    obtain ⟨on', fr, ok'⟩ := C
    (refine gw ?_; refine Choice.mk ⟨false, Choice.mk ⟨true, _, _, c2, ?_⟩⟩)
    (refine gw ?_; refine Choice.mk ⟨false, Choice.mk ⟨false, _, _, c3, ?_⟩⟩)
    (refine gw ?_; refine Choice.mk ⟨false, Choice.mk ⟨false, _, _, c4, ?_⟩⟩)
    cases ok' with
    | false =>
      rw [if_pos rfl]
      (refine gw ?_; exact RetN.mk ⟨[], rfl, rfl, rfl⟩)
    | true =>
      rw [if_neg (by simp)]
      have hput := putB_ok ha (b := ⟨y, n, q⟩) h3 (by simp; omega)
      have c5 := put17_told l (by omega) ⟨y, n, q⟩
      obtain ⟨bs, hbs⟩ : ∃ bs, putB l ⟨y, n, q⟩ = bs := ⟨_, rfl⟩
      rw [hbs] at hput c5
      simp only
      rw [hbs]
      have hfl : fr.length ≤ 65536 := by
        have : fr = (commitF m.on (metF m.c.Pg m.c.H l) (y / m.c.Pg) ((y + n - 1) / m.c.Pg + 1) m.c.P).2.1 := by rw [hC]
        rw [this, commitF_eq]; split
        · simp
        · exact Nat.le_trans (freshL_len _ _ _ _) hol
      have hfm : (fr.map fun n => i64 (n : Nat)).length = fr.length := by simp
      have hmem := hm.mm
      (refine gw ?_; refine LoopN.mk ⟨[1,2,3,4,8,11,16,17,18], fun vs L => ∃ k : Nat, vs = [lK l, i64 n, i64 q, .ptr 0 0 0, .ptr 1 0 0, i64 y, .lst t_int (fr.map fun n => i64 (n : Nat)), .ptr 2 0 0, i64 k] ∧ L = [.var (eM m), .var mo0, .var (eM { m with on := on', mem := (fr.take k).foldl (fun mem p => fillF mem m.c.Sd p m.c.Pg) m.mem })] ∧ k ≤ fr.length, fun vs L => match vs with | [_, _, _, _, _, _, _, _, .int _ i] => fr.length - i.toNat | _ => 0, [9008,9012,9013], [0,1,5], rfl, ⟨0, rfl, rfl, by omega⟩, ?_⟩)
      rintro vs L ⟨k, rfl, rfl, hk⟩
      have hfk := fills_len m.c.Sd m.c.Pg (fr.take k) m.mem
      (refine gw ?_; first | refine IfB.dec (fun g1 => ?_) (fun g1 => ?_) | refine IfB.eq (fun g1 => ?_) (fun g1 => ?_) | refine IfB.ne (fun g1 => ?_) (fun g1 => ?_) | refine IfB.mk (fun g1 => ?_) (fun g1 => ?_))
      · have hkf : k < fr.length := by omega
        have hsu := fills_succ m.c.Sd m.c.Pg m.mem hkf
        have c6 := fill8_told (mem := (fr.take k).foldl (fun mem p => fillF mem m.c.Sd p m.c.Pg) m.mem) (by rw [hfk]; omega) (seed := m.c.Sd) (page := fr[k]) (size := m.c.Pg) hpg
        (refine gw ?_; refine idx_map (hkf) ?_)
        (refine gw ?_; refine Choice.mk ⟨false, Choice.mk ⟨false, _, _, c6, ?_⟩⟩)
        (refine gw ?_; refine ⟨[], [0,1,2], rfl, ⟨k + 1, rfl, by rw [hsu]; rfl, hkf⟩, (by omega : fr.length - ((k : Int) + 1).toNat < fr.length - (k : Int).toNat)⟩)
      · have e : k = fr.length := by omega
        subst e
        rw [List.take_length]
        (refine gw ?_; refine Choice.mk ⟨false, Choice.mk ⟨false, _, _, c5, ?_⟩⟩)
        have hbl := hput.1.len
        have hbm : (bs.map eB).length = bs.length := by simp
        (refine gw ?_; refine LoopN.mk ⟨[2,8,11,17,19], fun vs L => ∃ k : Nat, vs = [i64 n, .ptr 0 0 0, i64 y, .ptr 1 0 0, i64 k] ∧ L = [.var mo0, .var (eMx m.c bs (totalB (bs.take k)) m.peak m.mark on' (fr.foldl (fun mem p => fillF mem m.c.Sd p m.c.Pg) m.mem))] ∧ k ≤ bs.length, fun vs L => match vs with | [_, _, _, _, .int _ i] => bs.length - i.toNat | _ => 0, [18008], [1,2], rfl, ⟨0, rfl, rfl, by omega⟩, ?_⟩)
        rintro vs L ⟨k, rfl, rfl, hk⟩
        have ht1 := totalB_take hput.1 k
        have ht2 := totalB_take hput.1 (k + 1)
        (refine gw ?_; first | refine IfB.dec (fun g2 => ?_) (fun g2 => ?_) | refine IfB.eq (fun g2 => ?_) (fun g2 => ?_) | refine IfB.ne (fun g2 => ?_) (fun g2 => ?_) | refine IfB.mk (fun g2 => ?_) (fun g2 => ?_))
        · have hkb : k < bs.length := by omega
          have hsu := totalB_succ hkb
          rw [hsu] at ht2
          (refine gw ?_; refine idx_map (hkb) ?_)
          (refine gw ?_; refine ⟨[], [0,1], rfl, ⟨k + 1, rfl, by rw [hsu]; rfl, hkb⟩, (by omega : bs.length - ((k : Int) + 1).toNat < bs.length - (k : Int).toNat)⟩)
        · have e : k = bs.length := by omega
          subst e
          rw [List.take_length]
          have htot := ht1
          rw [List.take_length] at htot
          have hmark := hm.k
          have hpk := hm.p
          have emax : ∀ a b : Int, max a b = if b > a then b else a := fun a b => by split <;> omega
          (refine gw ?_; refine RetN.mk ⟨[], rfl, ?_, rfl⟩)
          rw [emax, emax]
          rfl
end Go.Ev.W
