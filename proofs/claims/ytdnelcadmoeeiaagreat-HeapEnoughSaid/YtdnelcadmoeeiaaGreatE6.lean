/- Words and lemmas, part 6, for laws of this seat (a part of their proofs). -/
import Derived.Test.YtdnelcadmoeeiaaGreatE1
import Derived.Test.YtdnelcadmoeeiaaGreatE5
import Derived.Test.YtdnelcadmoeeiaaGreatNm
import Derived.Test.YtdnelcadmoeeiaaGreatEvOpen
import Derived.Test.YtdnelcadmoeeiaaGreatEvLib
import Derived.Test.YtdnelcadmoeeiaaGreatEvGrid
import Derived.Test.YtdnelcadmoeeiaaGreatEvTrim
set_option linter.unusedVariables false
set_option linter.unusedSimpArgs false
namespace Go.Ev.W
open Go.Ev Go.Ev.N

set_option maxHeartbeats 4000000 in
theorem byte8_told (seed page k : Nat) : Told P T ref8_Byte [] [i64 seed, i64 page, i64 k] (u8 (byteF seed page k)) [] := by
  have t1 : ∀ n : Nat, ((n : Nat) : Int).tmod 256 = ((n % 256 : Nat) : Int) := fun n => (Int.ofNat_tmod n 256).symm
  refine told_of_ev (fn := ref8_Byte_fn) tabOk mixed (by kernel_rfl) (by kernel_rfl) (by kernel_rfl) (by kernel_rfl) ?_
  (refine gw ?_)
  rw [t1, t1]
  (refine gw ?_)
  rw [t1]
  refine gw ?_
  rw [show ((seed % 256 : Nat) : Int) + 31 * ((page % 256 : Nat) : Int) + 7 * ((k % 256 : Nat) : Int) + 1 = ((seed % 256 + 31 * (page % 256) + 7 * (k % 256) + 1 : Nat) : Int) by omega, t1]
  (refine gw ?_)
  refine fits (by rw [IntKind.wrap_u8]; omega) ?_
  (refine gw ?_; refine RetN.mk ⟨[], rfl, ?_, rfl⟩)
  rfl

set_option maxHeartbeats 4000000 in
theorem trim8_told {on met : List Bool} (hN : met.length = on.length) (hl : on.length ≤ 65536) : Told P T ref8_Trim [] [lT on, lT met] (.tup [lT (trimF on met).1, i64 ((trimF on met).2 : Nat)]) [] := by
  have hmo : (on.map AV.bool).length = on.length := by simp
  have hmm : (met.map AV.bool).length = met.length := by simp
  obtain ⟨D, hD⟩ : ∃ D, on.length = D := ⟨_, rfl⟩
  refine told_of_ev (fn := ref8_Trim_fn) tabOk mixed (by kernel_rfl) (by kernel_rfl) (by kernel_rfl) (by kernel_rfl) ?_
  (refine gw ?_; refine Room.mk (by rw [hmo]; omega) ?_)
  (refine gw ?_; refine LoopN.mk ⟨[0,1,6,7,8], fun vs L => ∃ i : Nat, vs = [lT on, lT met, .ref 0, i64 (((List.range i).filter fun i => on.getD i false && !met.getD i false).length : Nat), i64 i] ∧ L = [.row t_bool (tabF D fun j => .bool (decide (j < i) && (on.getD j false && met.getD j false)))] ∧ i ≤ D, fun vs L => match vs with | [_, _, _, _, .int _ i] => D - i.toNat | _ => 0, [], [1], rfl, ⟨0, rfl, ?_, by omega⟩, ?_⟩)
  · show [Blk.row t_bool (List.replicate (((on.map AV.bool).length : Nat) : Int).toNat (AV.bool false))] = _
    rw [Int.toNat_natCast, hmo, tabF_rep, hD]
    refine congrArg (fun z => [Blk.row t_bool z]) (tabF_congr fun k _ => ?_)
    rw [decide_eq_false (show ¬ k < 0 by omega)]; rfl
  rintro vs L ⟨i, rfl, rfl, hi⟩
  have hset : ∀ (v : Bool), i < D → v = (on.getD i false && met.getD i false) → (tabF D fun j => AV.bool (decide (j < i) && (on.getD j false && met.getD j false))).set ((i : Nat) : Int).toNat (.bool v) = tabF D fun j => AV.bool (decide (j < i + 1) && (on.getD j false && met.getD j false)) := fun v hiD hv => by
    rw [Int.toNat_natCast]
    refine tabF_set hiD fun j hj => ?_
    by_cases e : j = i
    · subst e; rw [if_pos rfl, decide_eq_true (show j < j + 1 by omega), hv]; rfl
    · rw [if_neg e]
      have : decide (j < i + 1) = decide (j < i) := decide_eq_decide.2 (by omega)
      rw [this]
  (refine gw ?_; first | refine IfB.dec (fun g1 => ?_) (fun g1 => ?_) | refine IfB.eq (fun g1 => ?_) (fun g1 => ?_) | refine IfB.ne (fun g1 => ?_) (fun g1 => ?_) | refine IfB.mk (fun g1 => ?_) (fun g1 => ?_))
  · have hiD : i < D := by omega
    have hio : i < on.length := by omega
    have him : i < met.length := by omega
    have ho := lT_get hio
    have hm := lT_get him
    have hs : (List.filter (fun i => on.getD i false && !met.getD i false) (List.range (i + 1))).length = (List.filter (fun i => on.getD i false && !met.getD i false) (List.range i)).length + if (on[i] && !met[i]) = true then 1 else 0 := by
      rw [List.range_succ, List.filter_append, List.length_append, ← ho, ← hm]; simp only [List.filter_cons, List.filter_nil]; split <;> rfl
    have hs2 : (List.filter (fun i => on.getD i false && !met.getD i false) (List.range i)).length ≤ i := by
      simpa using List.length_filter_le (fun i => on.getD i false && !met.getD i false) (List.range i)
    rw [ho, hm] at hset
    (refine gw ?_; refine idx_map (hio) ?_)
    rcases hov : on[i] with _ | _
    · rw [hov] at hs hset
      rw [Bool.false_and] at hs hset
      have hs : (List.filter (fun i => on.getD i false && !met.getD i false) (List.range (i + 1))).length = (List.filter (fun i => on.getD i false && !met.getD i false) (List.range i)).length := hs
      (refine gw ?_; refine InB.mk (by omega) (by rw [tabF_len]; omega) ?_)
      (refine gw ?_; refine idx_map (hio) ?_)
      rw [hov]
      (refine gw ?_; refine ⟨[], [0], rfl, ⟨i + 1, by rw [hs]; rfl, by rw [← hset false hiD rfl]; rfl, hiD⟩, (by omega : D - ((i : Int) + 1).toNat < D - (i : Int).toNat)⟩)
    · rw [hov] at hs hset
      rw [Bool.true_and] at hs hset
      (refine gw ?_; refine IfB.tt (by rw [hmm]; simp; omega) ?_)
      (refine gw ?_; refine idx_map (him) ?_)
      rcases hmv : met[i] with _ | _
      · rw [hmv] at hs hset
        have hs : (List.filter (fun i => on.getD i false && !met.getD i false) (List.range (i + 1))).length = (List.filter (fun i => on.getD i false && !met.getD i false) (List.range i)).length + 1 := hs
        have hg : ∀ g : Nat → Bool, g i = false → (tabF D fun j => AV.bool (decide (j < i + 1) && g j))[((i : Nat) : Int).toNat]? = some (.bool false) := fun g hg => by
          rw [Int.toNat_natCast, tabF_get hiD, hg, Bool.and_false]
        (refine gw ?_; refine InB.mk (by omega) (by rw [tabF_len]; omega) ?_)
        (refine gw ?_; refine idx_map (hio) ?_)
        rw [hov]
        (refine gw ?_)
        rw [hset (bif true then false else false) hiD rfl]
        (refine gw ?_; refine InB.mk (by omega) (by rw [tabF_len]; omega) ?_)
        refine gw ?_
        refine At.mk ⟨.bool false, hg _ (by rw [ho, hm, hov, hmv]; rfl), ?_⟩
        refine gw ?_
        (refine gw ?_; refine ⟨[], [0], rfl, ⟨i + 1, by rw [hs]; rfl, rfl, hiD⟩, (by omega : D - ((i : Int) + 1).toNat < D - (i : Int).toNat)⟩)
      · rw [hmv] at hs hset
        have hs : (List.filter (fun i => on.getD i false && !met.getD i false) (List.range (i + 1))).length = (List.filter (fun i => on.getD i false && !met.getD i false) (List.range i)).length := hs
        have hg : ∀ g : Nat → Bool, g i = true → (tabF D fun j => AV.bool (decide (j < i + 1) && g j))[((i : Nat) : Int).toNat]? = some (.bool true) := fun g hg => by
          rw [Int.toNat_natCast, tabF_get hiD, hg, decide_eq_true (show i < i + 1 by omega)]; rfl
        (refine gw ?_; refine InB.mk (by omega) (by rw [tabF_len]; omega) ?_)
        (refine gw ?_; refine idx_map (hio) ?_)
        rw [hov]
        (refine gw ?_)
        rw [hset (bif true then true else false) hiD rfl]
        (refine gw ?_; refine InB.mk (by omega) (by rw [tabF_len]; omega) ?_)
        refine gw ?_
        refine At.mk ⟨.bool true, hg _ (by rw [ho, hm, hov, hmv]; rfl), ?_⟩
        (refine gw ?_; refine ⟨[], [0], rfl, ⟨i + 1, by rw [hs]; rfl, rfl, hiD⟩, (by omega : D - ((i : Int) + 1).toNat < D - (i : Int).toNat)⟩)
  · have e : i = D := by omega
    subst e
    have f1 : ∀ g : Nat → Bool, (tabF i fun j => AV.bool (decide (j < i) && g j)) = ((List.range i).map g).map AV.bool := fun g => by
      rw [← tabF_of]; exact tabF_congr fun j hj => by rw [decide_eq_true hj]; rfl
    rw [f1]
    unfold trimF
    rw [hD]
    (refine gw ?_; exact RetN.fz ⟨[true, true], [], rfl, rfl, rfl⟩)
end Go.Ev.W
namespace Go.Ev.W
open Go.Ev Go.Ev.N

def fAt (mem : List Nat) (seed page size j : Nat) : Nat := if j / size = page then byteF seed page (j % size) else mem.getD j 0
theorem fillF_eq (mem : List Nat) (seed page size : Nat) : fillF mem seed page size = (List.range mem.length).map (fAt mem seed page size) := rfl
theorem lU_tab (mem : List Nat) : mem.map u8 = tabF mem.length fun k => u8 (mem.getD k 0) := tabF_map mem u8 0
set_option maxHeartbeats 4000000 in
theorem fill8_told {mem : List Nat} (hl : mem.length ≤ 65536) {seed page size : Nat} (hs : 0 < size) : Told P T ref8_Fill [] [lU mem, i64 seed, i64 page, i64 size] (lU (fillF mem seed page size)) [] := by
  obtain ⟨D, hD⟩ : ∃ D, mem.length = D := ⟨_, rfl⟩
  have hmu : (mem.map u8).length = D := by simp [hD]
  have hml : (mem.map u8).length = mem.length := by simp
  refine told_of_ev (fn := ref8_Fill_fn) tabOk mixed (by kernel_rfl) (by kernel_rfl) (by kernel_rfl) (by kernel_rfl) ?_
  (refine gw ?_; refine Room.mk (by first | omega | (simp; omega) | (simp <;> fail)) ?_)
  (refine gw ?_; refine LoopN.mk ⟨[1,2,3,9,10], fun vs L => ∃ k : Nat, vs = [i64 seed, i64 page, i64 size, .ref 0, i64 k] ∧ L = [.row t_uint8 (tabF D fun j => u8 (if j < k then fAt mem seed page size j else mem.getD j 0))] ∧ k ≤ D, fun vs L => match vs with | [_, _, _, _, .int _ i] => D - i.toNat | _ => 0, [], [2], rfl, ⟨0, rfl, ?_, by omega⟩, ?_⟩)
  · show [Blk.row t_uint8 (mem.map u8)] = _
    rw [lU_tab, hD]
    exact congrArg (fun z => [Blk.row t_uint8 z]) (tabF_congr fun k _ => rfl)
  rintro vs L ⟨k, rfl, rfl, hk⟩
  have hset : k < D → ∀ v : Nat, fAt mem seed page size k = v → (tabF D fun j => u8 (if j < k then fAt mem seed page size j else mem.getD j 0)).set ((k : Nat) : Int).toNat (u8 v) = tabF D fun j => u8 (if j < k + 1 then fAt mem seed page size j else mem.getD j 0) := fun hkD v hv => by
    rw [Int.toNat_natCast]
    refine tabF_set hkD fun j hj => ?_
    by_cases e : j = k
    · subst e; rw [if_pos rfl, if_pos (by omega), hv]
    · rw [if_neg e]
      by_cases e2 : j < k
      · rw [if_pos e2, if_pos (by omega)]
      · rw [if_neg e2, if_neg (by omega)]
  have hskip : k < D → fAt mem seed page size k = mem.getD k 0 → (tabF D fun j => u8 (if j < k then fAt mem seed page size j else mem.getD j 0)) = tabF D fun j => u8 (if j < k + 1 then fAt mem seed page size j else mem.getD j 0) := fun hkD hv => by
    refine tabF_congr fun j hj => ?_
    by_cases e : j = k
    · subst e; rw [if_neg (by omega), if_pos (by omega), hv]
    · by_cases e2 : j < k
      · rw [if_pos e2, if_pos (by omega)]
      · rw [if_neg e2, if_neg (by omega)]
  have hb := tabF_len D (fun j => u8 (if j < k then fAt mem seed page size j else mem.getD j 0))
  (refine gw ?_)
  rw [hb]
  (refine gw ?_; first | refine IfB.dec (fun g1 => ?_) (fun g1 => ?_) | refine IfB.eq (fun g1 => ?_) (fun g1 => ?_) | refine IfB.ne (fun g1 => ?_) (fun g1 => ?_) | refine IfB.mk (fun g1 => ?_) (fun g1 => ?_))
  · have hkD : k < D := by omega
    have d1 : ((k : Nat) : Int).tdiv ((size : Nat) : Int) = ((k / size : Nat) : Int) := (Int.ofNat_tdiv k size).symm
    have d2 : ((k : Nat) : Int).tmod ((size : Nat) : Int) = ((k % size : Nat) : Int) := (Int.ofNat_tmod k size).symm
    (refine gw ?_; refine IfB.tt (by simp; omega) ?_)
    (refine gw ?_)
    rw [d1]
    have hd := Nat.div_le_self k size
    have hr := Nat.mod_le k size
    have hf1 : k / size = page → fAt mem seed page size k = byteF seed page (k % size) := fun hp => by unfold fAt; rw [if_pos hp]
    have hf2 : ¬ k / size = page → fAt mem seed page size k = mem.getD k 0 := fun hp => by unfold fAt; rw [if_neg hp]
    generalize k / size = d at *
    generalize k % size = r at *
    by_cases hp : d = page
    · have hf := hf1 hp
      (refine gw ?_; refine IfB.tt (by simp [hp]) ?_)
      (refine gw ?_)
      rw [d2]
      (refine gw ?_; refine Choice.mk ⟨false, Choice.mk ⟨true, _, _, byte8_told seed page r, ?_⟩⟩)
      (refine gw ?_; refine ⟨[], [0], rfl, ⟨k + 1, rfl, by rw [← hset hkD _ hf]; rfl, hkD⟩, (by omega : D - ((k : Int) + 1).toNat < D - (k : Int).toNat)⟩)
    · have hf := hf2 hp
      (refine gw ?_; refine IfB.ff (by simp; omega) ?_)
      (refine gw ?_; refine ⟨[], [0], rfl, ⟨k + 1, rfl, by rw [← hskip hkD hf]; rfl, hkD⟩, (by omega : D - ((k : Int) + 1).toNat < D - (k : Int).toNat)⟩)
  · have e : k = D := by omega
    subst e
    have f1 : (tabF k fun j => u8 (if j < k then fAt mem seed page size j else mem.getD j 0)) = (fillF mem seed page size).map u8 := by
      rw [fillF_eq, hD, ← tabF_of]; exact tabF_congr fun j hj => by rw [if_pos hj]
    rw [f1]
    (refine gw ?_; exact RetN.fz ⟨[true], [], rfl, rfl, rfl⟩)

theorem there8_told {mem : List Nat} (hl : mem.length ≤ 65536) {a n : Nat} (h : a + n ≤ mem.length) : Told P T ref8_there [] [lU mem, i64 a, i64 n] (.bool true) [] := by
  have hmu : (mem.map u8).length = mem.length := by simp
  refine told_of_ev (fn := ref8_there_fn) tabOk mixed (by kernel_rfl) (by kernel_rfl) (by kernel_rfl) (by kernel_rfl) ?_
  (refine gw ?_; refine IfB.tt (by simp; omega) ?_)
  (refine gw ?_; refine RetN.mk ⟨[], rfl, ?_, rfl⟩)
  rw [hmu]
  refine congrArg AV.bool (decide_eq_true ?_)
  omega
end Go.Ev.W
namespace Go.Ev.W
open Go.Ev Go.Ev.N

theorem totalB_le {H : Nat} : ∀ {l : List Bk} {lo : Int}, (l.Pairwise fun x y => x.a + x.c ≤ y.a) → (∀ x ∈ l, lo ≤ x.a ∧ 1 ≤ x.c ∧ x.a + x.c ≤ H) → lo ≤ H → totalB l ≤ H - lo
  | [], lo, _, _, h => by simp [totalB]; omega
  | x :: l, lo, hp, hb, h => by
    have hx := hb x (by simp)
    rw [List.pairwise_cons] at hp
    have := totalB_le (l := l) (lo := x.a + x.c) hp.2 (fun y hy => ⟨hp.1 y hy, (hb y (by simp [hy])).2⟩) hx.2.2
    have e : totalB (x :: l) = x.c + totalB l := by simp only [totalB, List.map_cons, List.sum_cons]
    rw [e]; omega
theorem ApB.tot {H : Nat} {l : List Bk} (h : ApB H l) : totalB l ≤ H := by
  have := totalB_le (lo := 0) h.p (fun x hx => ⟨(h.b x hx).1, (h.b x hx).2.1, (h.b x hx).2.2⟩) (by omega)
  omega
theorem ApB.len {H : Nat} {l : List Bk} (h : ApB H l) : l.length ≤ H := by have := h.tot; have := totalB_nonneg h; omega
theorem totalB_succ {l : List Bk} {i : Nat} (h : i < l.length) : totalB (l.take (i + 1)) = totalB (l.take i) + l[i].c := by
  unfold totalB; rw [List.take_succ_eq_append_getElem h, List.map_append, List.sum_append]; simp
theorem totalB_take {H : Nat} {l : List Bk} (h : ApB H l) (i : Nat) : 0 ≤ totalB (l.take i) ∧ totalB (l.take i) ≤ H := by
  have h' := h.sub (List.take_sublist i l)
  have := h'.tot; have := totalB_nonneg h'
  exact ⟨by omega, by omega⟩
theorem fillF_len (mem : List Nat) (a b c : Nat) : (fillF mem a b c).length = mem.length := by simp [fillF]
theorem fills_len (sd pg : Nat) : ∀ (fs : List Nat) (mem : List Nat), (fs.foldl (fun mem p => fillF mem sd p pg) mem).length = mem.length
  | [], _ => rfl
  | f :: fs, mem => by rw [List.foldl_cons, fills_len sd pg fs, fillF_len]
theorem fills_succ (sd pg : Nat) {fs : List Nat} (mem : List Nat) {i : Nat} (h : i < fs.length) : (fs.take (i + 1)).foldl (fun mem p => fillF mem sd p pg) mem = fillF ((fs.take i).foldl (fun mem p => fillF mem sd p pg) mem) sd fs[i] pg := by
  rw [List.take_succ_eq_append_getElem h, List.foldl_append]; rfl

theorem Cf.Ok.pgH {c : Cf} (h : c.Ok) : ∃ k, c.H = c.Pg * k := by
  obtain ⟨e, he⟩ := h.p
  obtain ⟨q, hq⟩ := h.m
  have hd : ∃ r, max c.N c.Pg = c.Pg * r := by
    rcases Nat.le_total c.N c.Pg with h1 | h1
    · exact ⟨1, by rw [Nat.max_eq_right h1]; omega⟩
    · rw [Nat.max_eq_left h1]
      have hg := h.gpos
      have hn := h.n
      rw [hn, he] at h1 ⊢
      have h2 := Nat.le_of_mul_le_mul_left h1 (by omega)
      have h3 := (Nat.pow_le_pow_iff_right (by omega : 1 < 2)).1 h2
      exact ⟨2 ^ (c.L - e), by rw [Nat.mul_assoc, ← Nat.pow_add]; congr 2; omega⟩
  obtain ⟨r, hr⟩ := hd
  have h1 : c.M / 2 = c.Pg * r * q := by rw [hq, hr, show 2 * (c.Pg * r) * q = 2 * (c.Pg * r * q) by rw [Nat.mul_assoc 2]]; omega
  refine ⟨r * q * 2 + c.L * (r * q), ?_⟩
  rw [h.h, h1, hq, hr, Nat.mul_add]
  have e1 : 2 * (c.Pg * r) * q = c.Pg * (r * q * 2) := by simp only [Nat.mul_assoc, Nat.mul_comm, Nat.mul_left_comm]
  have e2 : c.L * (c.Pg * r * q) = c.Pg * (c.L * (r * q)) := by simp only [Nat.mul_assoc, Nat.mul_comm, Nat.mul_left_comm]
  rw [e1, e2]
theorem Cf.Ok.pgpos {c : Cf} (h : c.Ok) : 1 ≤ c.Pg := by
  obtain ⟨e, he⟩ := h.p
  have := h.gpos
  have := Nat.one_le_two_pow (n := e)
  rw [he]; exact Nat.mul_pos (by omega) (by omega)
theorem Cf.Ok.pages {c : Cf} (h : c.Ok) {y n : Nat} (hn : 1 ≤ n) (hy : y + n ≤ c.H) : y / c.Pg ≤ (y + n - 1) / c.Pg + 1 ∧ (y + n - 1) / c.Pg + 1 ≤ c.H / c.Pg := by
  have hp := h.pgpos
  obtain ⟨k, hk⟩ := h.pgH
  refine ⟨?_, ?_⟩
  · have := Nat.div_le_div_right (c := c.Pg) (show y ≤ y + n - 1 by omega); omega
  · rw [hk, Nat.mul_div_cancel_left _ (by omega)]
    refine Nat.div_lt_of_lt_mul ?_
    rw [← hk]; omega

def eMx (c : Cf) (bs : List Bk) (live peak mark : Int) (on : List Bool) (mem : List Nat) : AV := .agg [i64 c.G, i64 c.N, i64 c.M, i64 c.L, i64 c.Pg, i64 c.P, i64 c.H, i64 c.Sd, lK bs, i64 live, i64 peak, i64 mark, lT on, lU mem]
def mo0 : AV := .agg [i64 0, i64 0, i64 0, i64 0, i64 0, i64 0, i64 0, i64 0, .lst t_api_Block [], i64 0, i64 0, i64 0, .lst t_bool [], .lst t_uint8 []]
set_option maxHeartbeats 8000000 in
theorem place17_told {m : Mo} (hm : MoOk m) {l : List Bk} (ha : ApB m.c.H l) {n : Nat} (hn : 1 ≤ n) (hn2 : n ≤ m.c.N) {q : Int} : Told P T ref17_place [] [eM m, lK l, i64 n, i64 q] (.tup [eM (placeF m l n q).1, i64 (placeF m l n q).2.1, i64 (placeF m l n q).2.2]) [] := by
  have hH := hm.c.h2
  have hNM := hm.c.nM
  have hMH : m.c.M ≤ m.c.H := by have := hm.c.h; omega
  have hlen := ha.len
  have hpg := hm.c.pgpos
  obtain ⟨R, hR⟩ : ∃ R, lowF m.c l n = R := ⟨_, rfl⟩
  have c1 := lowest17_told hm.c ha hn (by omega)
  have hsp := lowF_spec (c := m.c) (l := l) hn
  rw [hR] at c1 hsp
  unfold placeF
  simp only []
  rw [hR]
  obtain ⟨y, ok⟩ := R
  refine told_of_ev (fn := ref17_place_fn) tabOk mixed (by kernel_rfl) (by kernel_rfl) (by kernel_rfl) (by kernel_rfl) ?_
  (refine gw ?_; refine Choice.mk ⟨false, Choice.mk ⟨true, _, _, c1, ?_⟩⟩)
  cases ok with
  | false =>
    rw [if_pos rfl]
    (refine gw ?_; exact RetN.mk ⟨[], rfl, rfl, rfl⟩)
  | true =>
    obtain ⟨j, h1, h2, h3, h4⟩ := hsp rfl
    simp only at h1 h2 h3 h4 ⊢
    rw [← h1] at h2
    rw [if_neg (by simp)]
    have hpa := hm.c.pages hn h2
    have hml : (metF m.c.Pg m.c.H l).length = m.on.length := by rw [hm.o]; simp [metF]
    have hol : m.on.length ≤ 65536 := by have := hm.o; have := Nat.div_le_self m.c.H m.c.Pg; omega
    have c2 := pages_told (pg := m.c.Pg) (y := y) (n := n) hpg hn (by omega)
    have c3 := met8_told (pg := m.c.Pg) (size := m.c.H) hpg hH (l := l) (by omega) ha.b
    have c4 := commit8_told (on := m.on) hml hol (f := y / m.c.Pg) (b := (y + n - 1) / m.c.Pg + 1) (most := m.c.P) hpa.1 (by rw [hm.o]; exact hpa.2) hm.c.b
    obtain ⟨C, hC⟩ : ∃ C, commitF m.on (metF m.c.Pg m.c.H l) (y / m.c.Pg) ((y + n - 1) / m.c.Pg + 1) m.c.P = C := ⟨_, rfl⟩
    rw [hC] at c4 ⊢
    obtain ⟨on', fr, ok'⟩ := C
    (refine gw ?_; refine Choice.mk ⟨false, Choice.mk ⟨true, _, _, c2, ?_⟩⟩)
    (refine gw ?_; refine Choice.mk ⟨false, Choice.mk ⟨false, _, _, c3, ?_⟩⟩)
    (refine gw ?_; refine Choice.mk ⟨false, Choice.mk ⟨false, _, _, c4, ?_⟩⟩)
    cases ok' with
    | false =>
      rw [if_pos rfl]
      (refine gw ?_; exact RetN.mk ⟨[], rfl, rfl, rfl⟩)
    | true =>
      rw [if_neg (by simp)]
      have hput := putB_ok ha (b := ⟨y, n, q⟩) h3 (by simp; omega)
      have c5 := put17_told l (by omega) ⟨y, n, q⟩
      obtain ⟨bs, hbs⟩ : ∃ bs, putB l ⟨y, n, q⟩ = bs := ⟨_, rfl⟩
      rw [hbs] at hput c5
      simp only
      rw [hbs]
      have hfl : fr.length ≤ 65536 := by
        have : fr = (commitF m.on (metF m.c.Pg m.c.H l) (y / m.c.Pg) ((y + n - 1) / m.c.Pg + 1) m.c.P).2.1 := by rw [hC]
        rw [this, commitF_eq]; split
        · simp
        · exact Nat.le_trans (freshL_len _ _ _ _) hol
      have hfm : (fr.map fun n => i64 (n : Nat)).length = fr.length := by simp
      have hmem := hm.mm
      (refine gw ?_; refine LoopN.mk ⟨[1,2,3,4,8,11,16,17,18], fun vs L => ∃ k : Nat, vs = [lK l, i64 n, i64 q, .ptr 0 0 0, .ptr 1 0 0, i64 y, .lst t_int (fr.map fun n => i64 (n : Nat)), .ptr 2 0 0, i64 k] ∧ L = [.var (eM m), .var mo0, .var (eM { m with on := on', mem := (fr.take k).foldl (fun mem p => fillF mem m.c.Sd p m.c.Pg) m.mem })] ∧ k ≤ fr.length, fun vs L => match vs with | [_, _, _, _, _, _, _, _, .int _ i] => fr.length - i.toNat | _ => 0, [9008,9012,9013], [0,1,5], rfl, ⟨0, rfl, rfl, by omega⟩, ?_⟩)
      rintro vs L ⟨k, rfl, rfl, hk⟩
      have hfk := fills_len m.c.Sd m.c.Pg (fr.take k) m.mem
      (refine gw ?_; first | refine IfB.dec (fun g1 => ?_) (fun g1 => ?_) | refine IfB.eq (fun g1 => ?_) (fun g1 => ?_) | refine IfB.ne (fun g1 => ?_) (fun g1 => ?_) | refine IfB.mk (fun g1 => ?_) (fun g1 => ?_))
      · have hkf : k < fr.length := by omega
        have hsu := fills_succ m.c.Sd m.c.Pg m.mem hkf
        have c6 := fill8_told (mem := (fr.take k).foldl (fun mem p => fillF mem m.c.Sd p m.c.Pg) m.mem) (by rw [hfk]; omega) (seed := m.c.Sd) (page := fr[k]) (size := m.c.Pg) hpg
        (refine gw ?_; refine idx_map (hkf) ?_)
        (refine gw ?_; refine Choice.mk ⟨false, Choice.mk ⟨false, _, _, c6, ?_⟩⟩)
        (refine gw ?_; refine ⟨[], [0,1,2], rfl, ⟨k + 1, rfl, by rw [hsu]; rfl, hkf⟩, (by omega : fr.length - ((k : Int) + 1).toNat < fr.length - (k : Int).toNat)⟩)
      · have e : k = fr.length := by omega
        subst e
        rw [List.take_length]
        (refine gw ?_; refine Choice.mk ⟨false, Choice.mk ⟨false, _, _, c5, ?_⟩⟩)
        have hbl := hput.1.len
        have hbm : (bs.map eB).length = bs.length := by simp
        (refine gw ?_; refine LoopN.mk ⟨[2,8,11,17,19], fun vs L => ∃ k : Nat, vs = [i64 n, .ptr 0 0 0, i64 y, .ptr 1 0 0, i64 k] ∧ L = [.var mo0, .var (eMx m.c bs (totalB (bs.take k)) m.peak m.mark on' (fr.foldl (fun mem p => fillF mem m.c.Sd p m.c.Pg) m.mem))] ∧ k ≤ bs.length, fun vs L => match vs with | [_, _, _, _, .int _ i] => bs.length - i.toNat | _ => 0, [18008], [1,2], rfl, ⟨0, rfl, rfl, by omega⟩, ?_⟩)
        rintro vs L ⟨k, rfl, rfl, hk⟩
        have ht1 := totalB_take hput.1 k
        have ht2 := totalB_take hput.1 (k + 1)
        (refine gw ?_; first | refine IfB.dec (fun g2 => ?_) (fun g2 => ?_) | refine IfB.eq (fun g2 => ?_) (fun g2 => ?_) | refine IfB.ne (fun g2 => ?_) (fun g2 => ?_) | refine IfB.mk (fun g2 => ?_) (fun g2 => ?_))
        · have hkb : k < bs.length := by omega
          have hsu := totalB_succ hkb
          rw [hsu] at ht2
          (refine gw ?_; refine idx_map (hkb) ?_)
          (refine gw ?_; refine ⟨[], [0,1], rfl, ⟨k + 1, rfl, by rw [hsu]; rfl, hkb⟩, (by omega : bs.length - ((k : Int) + 1).toNat < bs.length - (k : Int).toNat)⟩)
        · have e : k = bs.length := by omega
          subst e
          rw [List.take_length]
          have htot := ht1
          rw [List.take_length] at htot
          have hmark := hm.k
          have hpk := hm.p
          have emax : ∀ a b : Int, max a b = if b > a then b else a := fun a b => by split <;> omega
          (refine gw ?_; refine RetN.mk ⟨[], rfl, ?_, rfl⟩)
          rw [emax, emax]
          rfl
end Go.Ev.W
namespace Go.Ev.X
open Go.Ev Go.Ev.N

structure O where
  k : Int
  p : Int
  s : Int
  a : Int
  n : Int
  b : Int
  deriving DecidableEq

def encO (o : O) : AV := .agg [.int .i64 o.k, .int .i64 o.p, .int .i64 o.s, .int .i64 o.a, .int .i64 o.n, .int .u8 o.b]

end Go.Ev.X
namespace Go.Ev.W
open Go.Ev Go.Ev.N

def SzB (c : Cf) (x : Bk) : Prop := ∃ k, k ≤ c.L ∧ x.c = ((c.G * 2 ^ k : Nat) : Int) ∧ x.a % x.c = 0 ∧ 0 ≤ x.q ∧ x.q ≤ x.c
theorem cnt_mono {n : Nat} {f g : Nat → Bool} (h : ∀ i, f i = true → g i = true) : cntB ((List.range n).map f) ≤ cntB ((List.range n).map g) := by
  unfold cntB
  rw [List.filter_map, List.filter_map, List.length_map, List.length_map, ← List.countP_eq_length_filter, ← List.countP_eq_length_filter]
  exact List.countP_mono_left fun i _ hi => h i hi
theorem commitF_ok {on met : List Bool} {f b most : Nat} (h : (commitF on met f b most).2.2 = true) : (commitF on met f b most).1.length = on.length ∧ cntB (commitF on met f b most).1 ≤ most := by
  rw [commitF_eq] at h ⊢
  split at h
  · simp at h
  · rename_i h1
    rw [if_neg h1]
    refine ⟨?_, ?_⟩
    · simp only; split <;> simp
    · simp only
      split
      · have := cnt_mono (n := on.length) (f := fun i => needF on f b i && needF met f b i) (g := needF met f b) fun i hi => by rw [Bool.and_eq_true] at hi; exact hi.2
        omega
      · omega
theorem fillF_b {mem : List Nat} (h : IsB mem) (a b c : Nat) : IsB (fillF mem a b c) := fun x hx => by
  obtain ⟨i, hi, rfl⟩ := List.mem_map.1 hx
  split
  · exact Nat.mod_lt _ (by omega)
  · have hi : i < mem.length := by simpa using hi
    rw [List.getD_eq_getElem?_getD, List.getElem?_eq_getElem hi]
    exact h _ (List.getElem_mem hi)
theorem fills_b (sd pg : Nat) : ∀ (fs : List Nat) (mem : List Nat), IsB mem → IsB (fs.foldl (fun mem p => fillF mem sd p pg) mem)
  | [], _, h => h
  | f :: fs, mem, h => fills_b sd pg fs _ (fillF_b h _ _ _)
/-- A block has been put. -/
structure Put (m : Mo) (l : List Bk) (n : Nat) (q : Int) (m' : Mo) (y : Int) : Prop where
  ok : MoOk m'
  c : m'.c = m.c
  y0 : 0 ≤ y
  yH : y + n ≤ m.c.H
  f : freeAt l n y = true
  bs : m'.bs = putB l ⟨y, n, q⟩
  li : m'.live = totalB l + n
  ml : m'.mem.length = m.mem.length
  low : ∃ j : Nat, y = ((j * n : Nat) : Int) ∧ ∀ i, i < j → freeAt l n ((i * n : Nat) : Int) = false
theorem placeF_ok {m : Mo} (hm : MoOk m) {l : List Bk} (ha : ApB m.c.H l) (hz : ∀ x ∈ l, SzB m.c x) {n : Nat} {q : Int} (hn : ∃ k, k ≤ m.c.L ∧ n = m.c.G * 2 ^ k) (hq : 0 ≤ q ∧ q ≤ n) (ht : totalB l + n ≤ m.c.M) (hk : ∀ x ∈ l, x.a + x.c ≤ m.mark) (h : (placeF m l n q).2.2 = 0) : Put m l n q (placeF m l n q).1 (placeF m l n q).2.1 := by
  obtain ⟨k, hkL, hkn⟩ := hn
  have hn1 : 1 ≤ n := by rw [hkn]; exact Nat.mul_pos hm.c.gpos (Nat.two_pow_pos _)
  have hsp := lowF_spec (c := m.c) (l := l) hn1
  have hco := commitF_ok (on := m.on) (met := metF m.c.Pg m.c.H l) (f := (lowF m.c l n).1 / m.c.Pg) (b := ((lowF m.c l n).1 + n - 1) / m.c.Pg + 1) (most := m.c.P)
  unfold placeF at h ⊢
  simp only at h ⊢
  split at h
  · simp at h
  · rename_i h1
    rw [if_neg h1]
    split at h
    · simp at h
    · rename_i h2
      rw [if_neg h2]
      have h1' : (lowF m.c l n).2 = true := by simpa using h1
      have h2' := hco (by simpa using h2)
      obtain ⟨j, e1, e2, e3, e4⟩ := hsp h1'
      rw [← e1] at e2
      generalize (lowF m.c l n).1 = y at *
      have hput := putB_ok ha (b := ⟨y, n, q⟩) e3 (by simp; omega)
      obtain ⟨p1, p2, p3, p4⟩ := hput
      have p3 : totalB (putB l ⟨y, n, q⟩) = totalB l + n := p3
      have htb := totalB_nonneg ha
      have hMH : m.c.M ≤ m.c.H := by have := hm.c.h; omega
      refine ⟨?_, rfl, by simp, by simp; omega, e3, rfl, p3, fills_len _ _ _ _, ⟨j, by rw [← e1], e4⟩⟩
      refine ⟨hm.c, p1, fun x hx => ?_, rfl, by rw [p3]; exact ht, ⟨by simp only; omega, ?_⟩, ⟨fun x hx => ?_, ?_, ?_⟩, by rw [h2'.1]; exact hm.o, h2'.2, by rw [fills_len]; exact hm.mm, fills_b _ _ _ _ hm.b⟩
      · rcases (p2 x).1 hx with rfl | hx
        · refine ⟨k, hkL, by rw [← hkn], ?_, hq⟩
          show ((y : Nat) : Int) % ((n : Nat) : Int) = 0
          rw [e1, Int.natCast_mul]
          exact Int.mul_emod_left _ _
        · exact hz x hx
      · have := hm.p
        simp only
        rw [p3]; omega
      · rcases (p2 x).1 hx with rfl | hx
        · simp only; omega
        · have := hk x hx
          simp only; omega
      · have := hm.k; simp only; omega
      · have := hm.k; simp only; omega

theorem newF_ok {c : Cf} (hc : c.Ok) {live s a : Int} (h : (newF c live s a).2 = 0) : (∃ k, k ≤ c.L ∧ (newF c live s a).1 = c.G * 2 ^ k) ∧ 0 ≤ s ∧ s ≤ (newF c live s a).1 ∧ live + (newF c live s a).1 ≤ c.M := by
  have hb := (chargeF_bd hc s a).2
  unfold newF at h ⊢
  split at h
  · rename_i h1; exact absurd h h1
  · rename_i h1
    rw [if_neg h1]
    split at h
    · simp at h
    · rename_i h2
      rw [if_neg h2]
      obtain ⟨k, h3, h4, h5, h6⟩ := hb (by simpa using h1)
      exact ⟨⟨k, h3, h4⟩, h5, h6, by simp only; omega⟩
theorem prodF_ok {c : Cf} {n s : Int} (h : (prodF c n s).2 = 0) : 0 ≤ n ∧ 0 ≤ s ∧ n * s ≤ c.N ∧ ((prodF c n s).1 : Int) = n * s := by
  unfold prodF at h ⊢
  split at h
  · simp at h
  · rename_i h1
    rw [if_neg h1]
    split at h
    · rename_i h2
      rw [if_pos h2]
      have := Int.mul_nonneg (show 0 ≤ n by omega) (show 0 ≤ s by omega)
      exact ⟨by omega, by omega, h2, by simp only; omega⟩
    · simp at h
theorem manyF_ok {c : Cf} (hc : c.Ok) {live n s : Int} (h : (manyF c live n s).2 = 0) : (∃ k, k ≤ c.L ∧ (manyF c live n s).1 = c.G * 2 ^ k) ∧ 0 ≤ n * s ∧ n * s ≤ (manyF c live n s).1 ∧ live + (manyF c live n s).1 ≤ c.M ∧ n * s ≤ c.N := by
  unfold manyF at h ⊢
  split at h
  · rename_i h1; exact absurd h h1
  · rename_i h1
    rw [if_neg h1]
    obtain ⟨a1, a2, a3, a4⟩ := prodF_ok (by simpa using h1)
    have b := newF_ok hc h
    rw [a4] at b ⊢
    exact ⟨b.1, b.2.1, b.2.2.1, b.2.2.2, a3⟩

def zeroF (mem : List Nat) (a n : Nat) : List Nat := (List.range mem.length).map fun j => if a ≤ j ∧ j < a + n then 0 else mem.getD j 0
theorem zeroF_len (mem : List Nat) (a n : Nat) : (zeroF mem a n).length = mem.length := by simp [zeroF]
theorem zeroF_b {mem : List Nat} (h : IsB mem) (a n : Nat) : IsB (zeroF mem a n) := fun x hx => by
  obtain ⟨i, hi, rfl⟩ := List.mem_map.1 hx
  split
  · omega
  · have hi : i < mem.length := by simpa using hi
    rw [List.getD_eq_getElem?_getD, List.getElem?_eq_getElem hi]
    exact h _ (List.getElem_mem hi)
/-- An operation's words. -/
structure OpOk (o : X.O) : Prop where
  k : -9223372036854775808 ≤ o.k ∧ o.k ≤ 9223372036854775807
  p : -9223372036854775808 ≤ o.p ∧ o.p ≤ 9223372036854775807
  s : -9223372036854775808 ≤ o.s ∧ o.s ≤ 9223372036854775807
  a : -9223372036854775808 ≤ o.a ∧ o.a ≤ 9223372036854775807
  n : -9223372036854775808 ≤ o.n ∧ o.n ≤ 9223372036854775807
  b : 0 ≤ o.b ∧ o.b < 256
def giveF (m : Mo) (o : X.O) : Mo × An :=
  let ce := if o.k = 2 then manyF m.c m.live o.n o.s else newF m.c m.live o.s (if o.k = 3 then o.a else 1)
  if ce.2 ≠ 0 then (m, anE ce.2)
  else
    let p := placeF m m.bs ce.1 (if o.k = 2 then o.n * o.s else o.s)
    if p.2.2 ≠ 0 then (m, anE p.2.2)
    else (if o.k = 2 then { p.1 with mem := zeroF p.1.mem p.2.1.toNat ce.1 } else p.1, { an0 with at' := p.2.1 })
def dropB (l : List Bk) (i : Nat) : List Bk := l.take i ++ l.drop (i + 1)
def bk0 : Bk := ⟨0, 0, 0⟩
def ofB (m : Mo) (o : X.O) (i : Nat) : Mo × An :=
  let b := m.bs.getD i bk0
  if o.k = 4 then
    let ce := newF m.c (m.live - b.c) o.s 1
    if ce.2 ≠ 0 then (m, anE ce.2)
    else
      let p := placeF m (dropB m.bs i) ce.1 o.s
      if p.2.2 ≠ 0 then (m, anE p.2.2)
      else
        let n := min (ce.1 : Int) b.c
        ({ p.1 with mem := p.1.mem.take p.2.1.toNat ++ (m.mem.take (b.a + n).toNat).drop b.a.toNat ++ p.1.mem.drop (p.2.1 + n).toNat }, { an0 with at' := p.2.1 })
  else if o.k = 5 then ({ m with bs := dropB m.bs i, live := m.live - b.c }, an0)
  else if o.k = 6 then (m, { an0 with n := b.c })
  else if o.n < 0 ∨ o.n ≥ b.c then (m, anE 9)
  else if o.k = 7 then (m, { an0 with b := m.mem.getD (b.a + o.n).toNat 0 })
  else ({ m with mem := m.mem.set (b.a + o.n).toNat o.b.toNat }, an0)
def doF (m : Mo) (o : X.O) : Mo × An :=
  if o.k = 1 ∨ o.k = 3 ∨ o.k = 2 then giveF m o
  else if o.k = 9 then ({ m with on := (trimF m.on (metF m.c.Pg m.c.H m.bs)).1 }, { an0 with n := (trimF m.on (metF m.c.Pg m.c.H m.bs)).2 })
  else if o.k = 10 then (m, { an0 with live := m.live, peak := m.peak, mark := m.mark, pg := cntB m.on })
  else if o.k = 4 ∨ o.k = 5 ∨ o.k = 6 ∨ o.k = 7 ∨ o.k = 8 then
    match findB m.bs o.p with
    | none => (m, anE 8)
    | some i => ofB m o i
  else (m, anE 2)
end Go.Ev.W
namespace Go.Ev.W
open Go.Ev Go.Ev.N

theorem wrong17_told (m : Mo) (e : Nat) : Told P T ref17_wrong [] [eM m, i64 e] (.tup [eM m, eA (anE e)]) [] := by
  refine told_of_ev (fn := ref17_wrong_fn) tabOk mixed (by kernel_rfl) (by kernel_rfl) (by kernel_rfl) (by kernel_rfl) ?_
  (refine gw ?_; exact RetN.mk ⟨[], rfl, rfl, rfl⟩)

def zAt (mem : List Nat) (a n j : Nat) : Nat := if a ≤ j ∧ j < a + n then 0 else mem.getD j 0
set_option maxHeartbeats 4000000 in
theorem zero8_told {mem : List Nat} (hl : mem.length ≤ 65536) {a n : Nat} (h : a + n ≤ mem.length) : Told P T ref8_Zero [] [lU mem, i64 a, i64 n] (.tup [lU (zeroF mem a n), .bool true]) [] := by
  obtain ⟨D, hD⟩ : ∃ D, mem.length = D := ⟨_, rfl⟩
  have hmu : (mem.map u8).length = D := by simp [hD]
  have hml : (mem.map u8).length = mem.length := by simp
  refine told_of_ev (fn := ref8_Zero_fn) tabOk mixed (by kernel_rfl) (by kernel_rfl) (by kernel_rfl) (by kernel_rfl) ?_
  (refine gw ?_; refine Choice.mk ⟨false, Choice.mk ⟨true, _, _, there8_told hl h, ?_⟩⟩)
  (refine gw ?_; refine Room.mk (by first | omega | (simp; omega) | (simp <;> fail)) ?_)
  (refine gw ?_; refine LoopN.mk ⟨[1,2,8,9], fun vs L => ∃ k : Nat, vs = [i64 a, i64 n, .ref 0, i64 k] ∧ L = [.row t_uint8 (tabF D fun j => u8 (zAt mem a k j))] ∧ k ≤ n, fun vs L => match vs with | [_, _, _, .int _ i] => n - i.toNat | _ => 0, [], [2], rfl, ⟨0, rfl, ?_, by omega⟩, ?_⟩)
  · show [Blk.row t_uint8 (mem.map u8)] = _
    rw [lU_tab, hD]
    exact congrArg (fun z => [Blk.row t_uint8 z]) (tabF_congr fun k _ => by unfold zAt; rw [if_neg (by omega)])
  rintro vs L ⟨k, rfl, rfl, hk⟩
  have hb := tabF_len D (fun j => u8 (zAt mem a k j))
  (refine gw ?_; first | refine IfB.dec (fun g1 => ?_) (fun g1 => ?_) | refine IfB.eq (fun g1 => ?_) (fun g1 => ?_) | refine IfB.ne (fun g1 => ?_) (fun g1 => ?_) | refine IfB.mk (fun g1 => ?_) (fun g1 => ?_))
  · have hset : (tabF D fun j => u8 (zAt mem a k j)).set ((a : Nat) + (k : Nat) : Int).toNat (u8 0) = tabF D fun j => u8 (zAt mem a (k + 1) j) := by
      rw [show ((a : Nat) + (k : Nat) : Int).toNat = a + k by omega]
      refine tabF_set (by omega) fun j hj => ?_
      unfold zAt
      by_cases e : j = a + k
      · rw [if_pos e, if_pos (by omega)]
      · rw [if_neg e]
        by_cases e2 : a ≤ j ∧ j < a + k
        · rw [if_pos e2, if_pos (by omega)]
        · rw [if_neg e2, if_neg (by omega)]
    (refine gw ?_; refine ⟨[], [0], rfl, ⟨k + 1, rfl, by rw [← hset]; rfl, by omega⟩, (by omega : n - ((k : Int) + 1).toNat < n - (k : Int).toNat)⟩)
  · have e : k = n := by omega
    subst e
    have f1 : (tabF D fun j => u8 (zAt mem a k j)) = (zeroF mem a k).map u8 := by
      unfold zeroF; rw [hD, ← tabF_of]; rfl
    rw [f1]
    (refine gw ?_; exact RetN.fz ⟨[true, true], [], rfl, rfl, rfl⟩)

set_option maxRecDepth 20000 in
set_option maxHeartbeats 8000000 in
theorem give17_told {m : Mo} (hm : MoOk m) {o : X.O} (ho : OpOk o) : Told P T ref17_give [] [eM m, X.encO o] (.tup [eM (giveF m o).1, eA (giveF m o).2]) [] := by
  have hH := hm.c.h2
  have hNM := hm.c.nM
  have hMH : m.c.M ≤ m.c.H := by have := hm.c.h; omega
  have htb := totalB_nonneg hm.a
  have hlive : 0 ≤ m.live ∧ m.live ≤ 65536 := by have := hm.l; have := hm.lM; omega
  have hnr := ho.n
  have hsr := ho.s
  have har := ho.a
  have hpl : ∀ ch, (∃ k, k ≤ m.c.L ∧ ch = m.c.G * 2 ^ k) → 1 ≤ ch ∧ ch ≤ m.c.N := fun ch ⟨k, h1, h2⟩ => by
    rw [h2, hm.c.n]
    exact ⟨Nat.mul_pos hm.c.gpos (Nat.two_pow_pos _), Nat.mul_le_mul_left _ (Nat.pow_le_pow_right (by omega) h1)⟩
  unfold giveF
  simp only []
  refine told_of_ev (fn := ref17_give_fn) tabOk mixed (by kernel_rfl) (by kernel_rfl) (by kernel_rfl) (by kernel_rfl) ?_
  by_cases hk : o.k = 2
  · simp only [if_pos hk]
    (refine gw ?_; refine IfB.ff (by simp [hk]) ?_)
    have c0 := refNew_told hm.c m.live o.s 1 (by omega) (by omega)
    (refine gw ?_; refine Choice.mk ⟨false, Choice.mk ⟨true, _, _, c0, ?_⟩⟩)
    (refine gw ?_; refine IfB.tt (by simp [hk]) ?_)
    have c1 := refMany_told hm.c m.live o.n o.s (by omega) (by omega) (by omega)
    have n1 := manyF_ok hm.c (live := m.live) (n := o.n) (s := o.s)
    obtain ⟨C, hC⟩ : ∃ C, manyF m.c m.live o.n o.s = C := ⟨_, rfl⟩
    rw [hC] at c1 n1 ⊢
    obtain ⟨ch, e⟩ := C
    (refine gw ?_; refine Choice.mk ⟨false, Choice.mk ⟨true, _, _, c1, ?_⟩⟩)
    by_cases he0 : e = 0
    · have hq := n1 he0
      have hq1 := hq.2.1
      have hq4 := hq.2.2.2.2
      have hNb : m.c.N ≤ 65536 := by omega
      subst he0
      obtain ⟨hch, hq1, hq2, hq3, hq4⟩ := n1 rfl
      obtain ⟨hc1, hc2⟩ := hpl ch hch
      have c2 := place17_told hm hm.a hc1 hc2 (q := (o.n * o.s))
      have n2 := placeF_ok hm hm.a hm.z hch ⟨hq1, hq2⟩ (by rw [← hm.l]; exact hq3) hm.k.1
      obtain ⟨C2, hC2⟩ : ∃ C2, placeF m m.bs ch (o.n * o.s) = C2 := ⟨_, rfl⟩
      rw [hC2] at c2 n2
      simp only [ne_eq, not_true_eq_false, if_false]
      rw [hC2]
      obtain ⟨m2, y2, e2⟩ := C2
      (refine gw ?_; refine Choice.mk ⟨false, Choice.mk ⟨false, _, _, c2, ?_⟩⟩)
      by_cases he2 : e2 = 0
      · subst he2
        have n3 : Put m m.bs ch ((o.n * o.s)) m2 y2 := n2 rfl
        simp only [ne_eq, not_true_eq_false, if_false]
        (refine gw ?_; refine IfB.tt (by simp [hk]) ?_)
        have hy := n3.y0
        have hy2 := n3.yH
        have hml := n3.ml
        have hmm := hm.mm
        have c4 := zero8_told (mem := m2.mem) (by omega) (a := y2.toNat) (n := ch) (by omega)
        rw [Int.toNat_of_nonneg hy] at c4
        (refine gw ?_; refine Choice.mk ⟨false, Choice.mk ⟨false, _, _, c4, ?_⟩⟩)
        (refine gw ?_; exact RetN.mk ⟨[], rfl, rfl, rfl⟩)
      · have he2' : ¬ ((e2 : Nat) : Int) = 0 := by omega
        simp only [ne_eq, he2, not_false_eq_true, if_true]
        (refine gw ?_; refine IfB.tt (by simpa using he2) ?_)
        (refine gw ?_; refine Choice.mk ⟨false, Choice.mk ⟨false, _, _, wrong17_told m e2, ?_⟩⟩)
        (refine gw ?_; exact RetN.mk ⟨[], rfl, rfl, rfl⟩)
    · (refine gw ?_)
      refine ⟨?_⟩
      simp only [ne_eq, he0, not_false_eq_true, if_true]
      (refine gw ?_; refine IfB.tt (by simpa using he0) ?_)
      (refine gw ?_; refine Choice.mk ⟨false, Choice.mk ⟨false, _, _, wrong17_told m e, ?_⟩⟩)
      (refine gw ?_; exact RetN.mk ⟨[], rfl, rfl, rfl⟩)
  · simp only [if_neg hk]
    by_cases hk3 : o.k = 3
    · simp only [if_pos hk3]
      (refine gw ?_; refine IfB.tt (by simp [hk3]) ?_)
      have c1 := refNew_told hm.c m.live o.s o.a (by omega) (by omega)
      have n1 := newF_ok hm.c (live := m.live) (s := o.s) (a := o.a)
      obtain ⟨C, hC⟩ : ∃ C, newF m.c m.live o.s o.a = C := ⟨_, rfl⟩
      rw [hC] at c1 n1 ⊢
      obtain ⟨ch, e⟩ := C
      (refine gw ?_; refine Choice.mk ⟨false, Choice.mk ⟨true, _, _, c1, ?_⟩⟩)
      (refine gw ?_; refine IfB.ff (by simp [hk]) ?_)
      by_cases he : e = 0
      · subst he
        obtain ⟨hch, hq1, hq2, hq3⟩ := n1 rfl
        obtain ⟨hc1, hc2⟩ := hpl ch hch
        have c2 := place17_told hm hm.a hc1 hc2 (q := o.s)
        have n2 := placeF_ok hm hm.a hm.z hch ⟨hq1, hq2⟩ (by rw [← hm.l]; exact hq3) hm.k.1
        obtain ⟨C2, hC2⟩ : ∃ C2, placeF m m.bs ch o.s = C2 := ⟨_, rfl⟩
        rw [hC2] at c2 n2
        simp only [ne_eq, not_true_eq_false, if_false]
        rw [hC2]
        obtain ⟨m2, y2, e2⟩ := C2
        (refine gw ?_; refine Choice.mk ⟨false, Choice.mk ⟨false, _, _, c2, ?_⟩⟩)
        by_cases he2 : e2 = 0
        · subst he2
          have n3 : Put m m.bs ch (o.s) m2 y2 := n2 rfl
          simp only [ne_eq, not_true_eq_false, if_false]
          (refine gw ?_; refine IfB.ff (by simp [hk]) ?_)
          (refine gw ?_; exact RetN.mk ⟨[], rfl, rfl, rfl⟩)
        · have he2' : ¬ ((e2 : Nat) : Int) = 0 := by omega
          simp only [ne_eq, he2, not_false_eq_true, if_true]
          (refine gw ?_; refine IfB.tt (by simpa using he2) ?_)
          (refine gw ?_; refine Choice.mk ⟨false, Choice.mk ⟨false, _, _, wrong17_told m e2, ?_⟩⟩)
          (refine gw ?_; exact RetN.mk ⟨[], rfl, rfl, rfl⟩)
      · simp only [ne_eq, he, not_false_eq_true, if_true]
        (refine gw ?_; refine IfB.tt (by simpa using he) ?_)
        (refine gw ?_; refine Choice.mk ⟨false, Choice.mk ⟨false, _, _, wrong17_told m e, ?_⟩⟩)
        (refine gw ?_; exact RetN.mk ⟨[], rfl, rfl, rfl⟩)
    · simp only [if_neg hk3]
      (refine gw ?_; refine IfB.ff (by simp [hk3]) ?_)
      have c1 := refNew_told hm.c m.live o.s 1 (by omega) (by omega)
      have n1 := newF_ok hm.c (live := m.live) (s := o.s) (a := 1)
      obtain ⟨C, hC⟩ : ∃ C, newF m.c m.live o.s 1 = C := ⟨_, rfl⟩
      rw [hC] at c1 n1 ⊢
      obtain ⟨ch, e⟩ := C
      (refine gw ?_; refine Choice.mk ⟨false, Choice.mk ⟨true, _, _, c1, ?_⟩⟩)
      (refine gw ?_; refine IfB.ff (by simp [hk]) ?_)
      by_cases he : e = 0
      · subst he
        obtain ⟨hch, hq1, hq2, hq3⟩ := n1 rfl
        obtain ⟨hc1, hc2⟩ := hpl ch hch
        have c2 := place17_told hm hm.a hc1 hc2 (q := o.s)
        have n2 := placeF_ok hm hm.a hm.z hch ⟨hq1, hq2⟩ (by rw [← hm.l]; exact hq3) hm.k.1
        obtain ⟨C2, hC2⟩ : ∃ C2, placeF m m.bs ch o.s = C2 := ⟨_, rfl⟩
        rw [hC2] at c2 n2
        simp only [ne_eq, not_true_eq_false, if_false]
        rw [hC2]
        obtain ⟨m2, y2, e2⟩ := C2
        (refine gw ?_; refine Choice.mk ⟨false, Choice.mk ⟨false, _, _, c2, ?_⟩⟩)
        by_cases he2 : e2 = 0
        · subst he2
          have n3 : Put m m.bs ch (o.s) m2 y2 := n2 rfl
          simp only [ne_eq, not_true_eq_false, if_false]
          (refine gw ?_; refine IfB.ff (by simp [hk]) ?_)
          (refine gw ?_; exact RetN.mk ⟨[], rfl, rfl, rfl⟩)
        · have he2' : ¬ ((e2 : Nat) : Int) = 0 := by omega
          simp only [ne_eq, he2, not_false_eq_true, if_true]
          (refine gw ?_; refine IfB.tt (by simpa using he2) ?_)
          (refine gw ?_; refine Choice.mk ⟨false, Choice.mk ⟨false, _, _, wrong17_told m e2, ?_⟩⟩)
          (refine gw ?_; exact RetN.mk ⟨[], rfl, rfl, rfl⟩)
      · simp only [ne_eq, he, not_false_eq_true, if_true]
        (refine gw ?_; refine IfB.tt (by simpa using he) ?_)
        (refine gw ?_; refine Choice.mk ⟨false, Choice.mk ⟨false, _, _, wrong17_told m e, ?_⟩⟩)
        (refine gw ?_; exact RetN.mk ⟨[], rfl, rfl, rfl⟩)
end Go.Ev.W
namespace Go.Ev.W
open Go.Ev Go.Ev.N

theorem dropB_sub (l : List Bk) (i : Nat) : (dropB l i).Sublist l := by
  unfold dropB
  have h := List.take_append_drop i l
  conv => rhs; rw [← h]
  refine List.Sublist.append (List.Sublist.refl _) ?_
  rw [show i + 1 = i + 1 by rfl, ← List.drop_drop]
  exact List.drop_sublist _ _
theorem dropB_tot {l : List Bk} {i : Nat} (h : i < l.length) : totalB (dropB l i) = totalB l - l[i].c := by
  have e : l = l.take i ++ (l[i] :: l.drop (i + 1)) := by rw [← List.drop_eq_getElem_cons h, List.take_append_drop]
  have e2 : totalB l = totalB (l.take i ++ (l[i] :: l.drop (i + 1))) := by rw [← e]
  rw [e2]
  unfold dropB totalB
  simp only [List.map_append, List.sum_append, List.map_cons, List.sum_cons]
  omega
set_option maxRecDepth 20000 in
set_option maxHeartbeats 8000000 in
theorem of17_told {m : Mo} (hm : MoOk m) {o : X.O} (ho : OpOk o) {i : Nat} (hi : i < m.bs.length) (hk : o.k = 4 ∨ o.k = 5 ∨ o.k = 6 ∨ o.k = 7 ∨ o.k = 8) : Told P T ref17_of [] [eM m, X.encO o, i64 i] (.tup [eM (ofB m o i).1, eA (ofB m o i).2]) [] := by
  have hH := hm.c.h2
  have hNM := hm.c.nM
  have hMH : m.c.M ≤ m.c.H := by have := hm.c.h; omega
  have htb := totalB_nonneg hm.a
  have hlen := hm.a.len
  have hlive : 0 ≤ m.live ∧ m.live ≤ 65536 := by have := hm.l; have := hm.lM; omega
  have hml : (m.bs.map eB).length = m.bs.length := by simp
  have hmu : (m.mem.map u8).length = m.c.H := by rw [List.length_map]; exact hm.mm
  have hmm := hm.mm
  have hnr := ho.n
  have hsr := ho.s
  have hb := hm.a.b _ (List.getElem_mem hi)
  have hpl : ∀ ch, (∃ k, k ≤ m.c.L ∧ ch = m.c.G * 2 ^ k) → 1 ≤ ch ∧ ch ≤ m.c.N := fun ch ⟨k, h1, h2⟩ => by
    rw [h2, hm.c.n]
    exact ⟨Nat.mul_pos hm.c.gpos (Nat.two_pow_pos _), Nat.mul_le_mul_left _ (Nat.pow_le_pow_right (by omega) h1)⟩
  have hdt := dropB_tot hi
  have hds := dropB_sub m.bs i
  have hg : m.bs.getD i bk0 = m.bs[i] := by simp [List.getD_eq_getElem?_getD, hi]
  unfold ofB
  simp only []
  rw [hg]
  have hdm : (dropB m.bs i).map eB = (m.bs.map eB).take i ++ (m.bs.map eB).drop (i + 1) := by unfold dropB; rw [List.map_append, List.map_take, List.map_drop]
  refine told_of_ev (fn := ref17_of_fn) tabOk mixed (by kernel_rfl) (by kernel_rfl) (by kernel_rfl) (by kernel_rfl) ?_
  (refine gw ?_; refine idx_map (hi) ?_)
  (refine gw ?_; refine Cut.mk (by first | omega | (simp; omega) | (simp <;> fail)) (by first | omega | (simp; omega) | (simp <;> fail)) (by first | omega | (simp; omega) | (simp <;> fail)) ?_)
  (refine gw ?_; refine Room.mk (by first | omega | (simp; omega) | (simp <;> fail)) ?_)
  (refine gw ?_; refine Cut.mk (by first | omega | (simp; omega) | (simp <;> fail)) (by first | omega | (simp; omega) | (simp <;> fail)) (by first | omega | (simp; omega) | (simp <;> fail)) ?_)
  (refine gw ?_; refine Room.mk (by first | omega | (simp; omega) | (simp <;> fail)) ?_)
  have hbad : ¬ (o.n < 0 ∨ o.n ≥ m.bs[i].c) → ∃ j : Nat, m.bs[i].a + o.n = ((j : Nat) : Int) ∧ j < m.mem.length := fun h => ⟨(m.bs[i].a + o.n).toNat, by omega, by rw [hm.mm]; omega⟩
  rcases hk with hk | hk | hk | hk | hk
  · rw [if_pos hk]
    (refine gw ?_; refine IfB.tt (by simp [hk]) ?_)
    have hl1 : -1000000 ≤ m.live ∧ m.live ≤ 1000000 := by omega
    have hl2 : -1000000 ≤ m.bs[i].c ∧ m.bs[i].c ≤ 1000000 := by omega
    have c1 := refAnew_told hm.c m.live m.bs[i].c o.s hl1 hl2
    have n1 := newF_ok hm.c (live := m.live - m.bs[i].c) (s := o.s) (a := 1)
    obtain ⟨C, hC⟩ : ∃ C, newF m.c (m.live - m.bs[i].c) o.s 1 = C := ⟨_, rfl⟩
    rw [hC] at c1 n1 ⊢
    obtain ⟨ch, e⟩ := C
    (refine gw ?_; refine Choice.mk ⟨false, Choice.mk ⟨true, _, _, c1, ?_⟩⟩)
    by_cases he : e = 0
    · subst he
      obtain ⟨hch, hq1, hq2, hq3⟩ := n1 rfl
      obtain ⟨hc1, hc2⟩ := hpl ch hch
      have had := hm.a.sub hds
      have c2 := place17_told hm had hc1 hc2 (q := o.s)
      rw [show lK (dropB m.bs i) = .lst t_api_Block ((m.bs.map eB).take i ++ (m.bs.map eB).drop (i + 1)) by unfold lK; rw [hdm]] at c2
      have n2 := placeF_ok hm had (fun x hx => hm.z x (hds.subset hx)) hch ⟨hq1, hq2⟩ (by rw [hdt, ← hm.l]; exact hq3) (fun x hx => hm.k.1 x (hds.subset hx))
      obtain ⟨C2, hC2⟩ : ∃ C2, placeF m (dropB m.bs i) ch o.s = C2 := ⟨_, rfl⟩
      rw [hC2] at c2 n2
      simp only [ne_eq, not_true_eq_false, if_false]
      rw [hC2]
      obtain ⟨m2, y2, e2⟩ := C2
      (refine gw ?_; refine Choice.mk ⟨false, Choice.mk ⟨false, _, _, c2, ?_⟩⟩)
      by_cases he2 : e2 = 0
      · subst he2
        have n3 : Put m (dropB m.bs i) ch o.s m2 y2 := n2 rfl
        simp only [ne_eq, not_true_eq_false, if_false]
        have hy := n3.y0
        have hy2 := n3.yH
        have hml2 := n3.ml
        have hu2 : (m2.mem.map u8).length = m.c.H := by rw [List.length_map]; omega
        have emin : ∀ a b : Int, min a b = if b < a then b else a := fun a b => by split <;> omega
        obtain ⟨y, rfl⟩ : ∃ y : Nat, y2 = ((y : Nat) : Int) := ⟨y2.toNat, by omega⟩
        rw [emin]
        obtain ⟨N, hN, hN1, hN2⟩ : ∃ N : Nat, (if m.bs[i].c < (ch : Int) then m.bs[i].c else (ch : Int)) = ((N : Nat) : Int) ∧ N ≤ ch ∧ ((N : Nat) : Int) ≤ m.bs[i].c := ⟨(if m.bs[i].c < (ch : Int) then m.bs[i].c else (ch : Int)).toNat, by split <;> omega, by split <;> omega, by split <;> omega⟩
        rw [hN]
        (refine gw ?_; refine Cut.mk (by first | omega | (simp; omega) | (simp <;> fail)) (by first | omega | (simp; omega) | (simp <;> fail)) (by first | omega | (simp; omega) | (simp <;> fail)) ?_)
        (refine gw ?_; refine Room.mk (by first | omega | (simp; omega) | (simp <;> fail)) ?_)
        (refine gw ?_)
        rw [hN]
        (refine gw ?_; refine Cut.mk (by first | omega | (simp; omega) | (simp <;> fail)) (by first | omega | (simp; omega) | (simp <;> fail)) (by first | omega | (simp; omega) | (simp <;> fail)) ?_)
        (refine gw ?_; refine Room.mk (by first | omega | (simp; omega) | (simp <;> fail)) ?_)
        (refine gw ?_; refine Cut.mk (by first | omega | (simp; omega) | (simp <;> fail)) (by first | omega | (simp; omega) | (simp <;> fail)) (by first | omega | (simp; omega) | (simp <;> fail)) ?_)
        (refine gw ?_; refine Room.mk (by first | omega | (simp; omega) | (simp <;> fail)) ?_)
        have hse : lU (m2.mem.take ((y : Nat) : Int).toNat ++ (m.mem.take (m.bs[i].a + ((N : Nat) : Int)).toNat).drop m.bs[i].a.toNat ++ m2.mem.drop (((y : Nat) : Int) + ((N : Nat) : Int)).toNat) = .lst t_uint8 ([] ++ (m2.mem.map u8).take ((y : Nat) : Int).toNat ++ ((m.mem.map u8).take (m.bs[i].a + ((N : Nat) : Int)).toNat).drop m.bs[i].a.toNat ++ (m2.mem.map u8).drop (((y : Nat) : Int) + ((N : Nat) : Int)).toNat) := by
          unfold lU
          simp only [List.map_append, List.map_take, List.map_drop, List.nil_append]
        have hE : eM { m2 with mem := m2.mem.take ((y : Nat) : Int).toNat ++ (m.mem.take (m.bs[i].a + ((N : Nat) : Int)).toNat).drop m.bs[i].a.toNat ++ m2.mem.drop (((y : Nat) : Int) + ((N : Nat) : Int)).toNat } = .agg [i64 m2.c.G, i64 m2.c.N, i64 m2.c.M, i64 m2.c.L, i64 m2.c.Pg, i64 m2.c.P, i64 m2.c.H, i64 m2.c.Sd, lK m2.bs, i64 m2.live, i64 m2.peak, i64 m2.mark, lT m2.on, .lst t_uint8 ([] ++ (m2.mem.map u8).take ((y : Nat) : Int).toNat ++ ((m.mem.map u8).take (m.bs[i].a + ((N : Nat) : Int)).toNat).drop m.bs[i].a.toNat ++ (m2.mem.map u8).drop (((y : Nat) : Int) + ((N : Nat) : Int)).toNat)] := by rw [← hse]; rfl
        (refine gw ?_; refine RetN.fz ⟨[true, true], [], rfl, ?_, rfl⟩)
        refine Eq.trans ?_ (congrArg (fun z => AV.tup [z, eA { an0 with at' := ((y : Nat) : Int) }]) hE.symm)
        rfl
      · have he2' : ¬ ((e2 : Nat) : Int) = 0 := by omega
        simp only [ne_eq, he2, not_false_eq_true, if_true]
        (refine gw ?_; refine IfB.tt (by simpa using he2) ?_)
        (refine gw ?_; refine Choice.mk ⟨false, Choice.mk ⟨false, _, _, wrong17_told m e2, ?_⟩⟩)
        (refine gw ?_; exact RetN.mk ⟨[], rfl, rfl, rfl⟩)
    · simp only [ne_eq, he, not_false_eq_true, if_true]
      (refine gw ?_; refine IfB.tt (by simpa using he) ?_)
      (refine gw ?_; refine Choice.mk ⟨false, Choice.mk ⟨false, _, _, wrong17_told m e, ?_⟩⟩)
      (refine gw ?_; exact RetN.mk ⟨[], rfl, rfl, rfl⟩)
  · rw [if_neg (by omega), if_pos hk]
    (refine gw ?_; refine IfB.ff (by simp [hk]) ?_)
    (refine gw ?_; refine IfB.tt (by simp [hk]) ?_)
    (refine gw ?_; refine RetN.fz ⟨[true, true], [], rfl, ?_, rfl⟩)
    unfold eM
    simp only []
    rw [show lK (dropB m.bs i) = .lst t_api_Block ((m.bs.map eB).take i ++ (m.bs.map eB).drop (i + 1)) by unfold lK; rw [hdm]]
    rfl
  · rw [if_neg (by omega), if_neg (by omega), if_pos hk]
    (refine gw ?_; refine IfB.ff (by simp [hk]) ?_)
    (refine gw ?_; refine IfB.ff (by simp [hk]) ?_)
    (refine gw ?_; refine IfB.tt (by simp [hk]) ?_)
    (refine gw ?_; exact RetN.mk ⟨[], rfl, rfl, rfl⟩)
  · rw [if_neg (by omega), if_neg (by omega), if_neg (by omega)]
    (refine gw ?_; refine IfB.ff (by simp [hk]) ?_)
    (refine gw ?_; refine IfB.ff (by simp [hk]) ?_)
    (refine gw ?_; refine IfB.ff (by simp [hk]) ?_)
    by_cases hr : o.n < 0 ∨ o.n ≥ m.bs[i].c
    · rw [if_pos hr]
      (refine gw ?_; first | refine IfB.dec (fun g1 => ?_) (fun g1 => ?_) | refine IfB.eq (fun g1 => ?_) (fun g1 => ?_) | refine IfB.ne (fun g1 => ?_) (fun g1 => ?_) | refine IfB.mk (fun g1 => ?_) (fun g1 => ?_))
      · (refine gw ?_; refine Choice.mk ⟨false, Choice.mk ⟨false, _, _, wrong17_told m 9, ?_⟩⟩)
        (refine gw ?_; exact RetN.mk ⟨[], rfl, rfl, rfl⟩)
      · (refine gw ?_; refine IfB.tt (by simp; omega) ?_)
        (refine gw ?_; refine Choice.mk ⟨false, Choice.mk ⟨false, _, _, wrong17_told m 9, ?_⟩⟩)
        (refine gw ?_; exact RetN.mk ⟨[], rfl, rfl, rfl⟩)
    · rw [if_neg hr, if_pos hk]
      (refine gw ?_; refine IfB.ff (by simp; omega) ?_)
      (refine gw ?_; refine IfB.ff (by simp; omega) ?_)
      (refine gw ?_; refine IfB.tt (by simp [hk]) ?_)
      obtain ⟨j, hj1, hj2⟩ := hbad hr
      have hgj : m.mem.getD ((j : Nat) : Int).toNat 0 = m.mem[j] := by simp [List.getD_eq_getElem?_getD, hj2]
      rw [hj1, hgj]
      (refine gw ?_)
      rw [hj1]
      (refine gw ?_; refine idx_map (hj2) ?_)
      (refine gw ?_; exact RetN.mk ⟨[], rfl, rfl, rfl⟩)
  · rw [if_neg (by omega), if_neg (by omega), if_neg (by omega)]
    (refine gw ?_; refine IfB.ff (by simp [hk]) ?_)
    (refine gw ?_; refine IfB.ff (by simp [hk]) ?_)
    (refine gw ?_; refine IfB.ff (by simp [hk]) ?_)
    by_cases hr : o.n < 0 ∨ o.n ≥ m.bs[i].c
    · rw [if_pos hr]
      (refine gw ?_; first | refine IfB.dec (fun g1 => ?_) (fun g1 => ?_) | refine IfB.eq (fun g1 => ?_) (fun g1 => ?_) | refine IfB.ne (fun g1 => ?_) (fun g1 => ?_) | refine IfB.mk (fun g1 => ?_) (fun g1 => ?_))
      · (refine gw ?_; refine Choice.mk ⟨false, Choice.mk ⟨false, _, _, wrong17_told m 9, ?_⟩⟩)
        (refine gw ?_; exact RetN.mk ⟨[], rfl, rfl, rfl⟩)
      · (refine gw ?_; refine IfB.tt (by simp; omega) ?_)
        (refine gw ?_; refine Choice.mk ⟨false, Choice.mk ⟨false, _, _, wrong17_told m 9, ?_⟩⟩)
        (refine gw ?_; exact RetN.mk ⟨[], rfl, rfl, rfl⟩)
    · rw [if_neg hr, if_neg (by omega)]
      (refine gw ?_; refine IfB.ff (by simp; omega) ?_)
      (refine gw ?_; refine IfB.ff (by simp; omega) ?_)
      (refine gw ?_; refine IfB.ff (by simp [hk]) ?_)
      obtain ⟨j, hj1, hj2⟩ := hbad hr
      have hmr : (m.mem.map u8).length ≤ 65536 := by omega
      (refine gw ?_; refine Room.mk (by first | omega | (simp; omega) | (simp <;> fail)) ?_)
      (refine gw ?_)
      rw [hj1]
      (refine gw ?_; refine InB.mk (by first | omega | (simp; omega) | (simp <;> fail)) (by first | omega | (simp; omega) | (simp <;> fail)) ?_)
      (refine gw ?_; refine RetN.fz ⟨[true, true], [], rfl, ?_, rfl⟩)
      have hbr := ho.b
      have hse : lU (m.mem.set ((j : Nat) : Int).toNat o.b.toNat) = .lst t_uint8 ((m.mem.map u8).set ((j : Nat) : Int).toNat (.int .u8 o.b)) := by
        unfold lU
        rw [List.map_set]
        have : u8 o.b.toNat = .int .u8 o.b := by unfold u8; rw [Int.toNat_of_nonneg hbr.1]
        rw [this]
      have hE : eM { m with mem := m.mem.set ((j : Nat) : Int).toNat o.b.toNat } = .agg [i64 m.c.G, i64 m.c.N, i64 m.c.M, i64 m.c.L, i64 m.c.Pg, i64 m.c.P, i64 m.c.H, i64 m.c.Sd, lK m.bs, i64 m.live, i64 m.peak, i64 m.mark, lT m.on, .lst t_uint8 ((m.mem.map u8).set ((j : Nat) : Int).toNat (.int .u8 o.b))] := by rw [← hse]; rfl
      refine Eq.trans ?_ (congrArg (fun z => AV.tup [z, eA an0]) hE.symm)
      rfl
end Go.Ev.W
