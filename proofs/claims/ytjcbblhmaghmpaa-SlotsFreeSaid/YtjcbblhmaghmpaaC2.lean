/- Words and lemmas, part 2, for laws of this seat (a part of their proofs). -/
import Derived.Test.YtjcbblhmaghmpaaC1
set_option linter.unusedVariables false
set_option linter.unusedSimpArgs false
namespace Go.Ev.W
open Go.Ev Go.Ev.N

theorem rMadeNo_told {n : Int} (h : n < 1 ∨ n > 65536) (bs : List AV) : Told P T ref3_Made [] [i64 n, .lst t_bool bs] (eT 0 []) [] := by
  by_cases h1 : n < 1
  · refine told_of_ev (fn := ref3_Made_fn) tabOk mixed (by kernel_rfl) (by kernel_rfl) (by kernel_rfl) (by kernel_rfl) ?_
    (refine gw ?_; refine IfB.tt (by simp; omega) ?_)
    (refine gw ?_)
    exact RetN.fz ⟨[true], [], rfl, rfl, rfl⟩
  · refine told_of_ev (fn := ref3_Made_fn) tabOk mixed (by kernel_rfl) (by kernel_rfl) (by kernel_rfl) (by kernel_rfl) ?_
    (refine gw ?_; refine IfB.ff (by simp; omega) ?_)
    (refine gw ?_; refine IfB.tt (by simp; omega) ?_)
    (refine gw ?_)
    exact RetN.fz ⟨[true], [], rfl, rfl, rfl⟩
/-- Picks.Tree: a round. -/
def trS (n : Nat) (a : Pk × (Nat → Bool)) : Pk × (Nat → Bool) :=
  let p := a.1
  let p1 := p.next 16
  let p2 := p1.next 200
  let p3 := p2.next 5
  (p3.next 3, setZ a.2 ((p.num 16 : Int) * (max (n / 16) 1 : Nat)) ((p1.num 200 : Int) + (p2.num 5 : Int) * 64) (decide (0 < p3.num 3)))
def trI (n : Nat) (a : Pk × (Nat → Bool)) : Nat → Pk × (Nat → Bool)
  | 0 => a
  | k + 1 => trI n (trS n a) k
theorem trS_ok {n : Nat} {a : Pk × (Nat → Bool)} (h : a.1.Ok) : (trS n a).1.Ok := (((h.next 16).next 200).next 5).next 3
theorem trI_ok {n : Nat} : ∀ (k : Nat) {a : Pk × (Nat → Bool)}, a.1.Ok → (trI n a k).1.Ok
  | 0, _, h => h
  | k + 1, _, h => trI_ok k (trS_ok h)
def treeP (n : Nat) (p : Pk) : Pk × (Nat → Bool) := trI n (p.next 5, fun _ => false) (p.num 5)
theorem max_nat (a b : Nat) : max (a : Int) (b : Int) = ((max a b : Nat) : Int) := by omega
set_option maxHeartbeats 2000000 in
theorem pTree_told {n : Nat} (hn : 1 ≤ n) (hn2 : n ≤ 65536) (p : Pk) (ok : p.Ok) : Told P T mk_Picks_Tree [pkB p] [.ptr 0 0 0, i64 n] (eTr n (treeP n p).2) [pkB (treeP n p).1] := by
  have c1 := rMade_told hn hn2 fun _ => false
  have hb : bitR n (fun _ => false) = List.replicate n (.bool false) := by
    apply List.ext_getElem (by simp [bitR_len])
    intro k h1 h2
    simp [bitR]
  have hmax : max (n : Int) 0 = n := by omega
  have hdv : ((n : Nat) : Int).tdiv 16 = ((n / 16 : Nat) : Int) := (Int.ofNat_tdiv n 16).symm
  rw [hb] at c1
  have c2 := num_told p ok 5 (by omega)
  have k1 := ok.next 5
  have hn5 := p.num_lt (m := 5) (by omega)
  unfold treeP
  generalize p.num 5 = c at *
  generalize p.next 5 = q at *
  have hif : (if (0 : Int) > (n : Int) then (0 : Int) else (n : Int)).toNat = n := by rw [if_neg (by omega)]; omega
  refine told_of_ev (fn := mk_Picks_Tree_fn) tabOk mixed (by kernel_rfl) (by kernel_rfl) (by kernel_rfl) (by kernel_rfl) ?_
  (refine gw ?_)
  rw [hif]
  refine Room.mk (by omega) ?_
  (refine gw ?_; refine Choice.mk ⟨false, Choice.mk ⟨false, _, _, c1, ?_⟩⟩)
  (refine gw ?_; refine Choice.mk ⟨true, Choice.mk ⟨false, _, _, c2, ?_⟩⟩)
  (refine gw ?_; refine LoopN.mk ⟨[0,1,4,5,6], fun vs L => ∃ (k : Nat) (a : Pk × (Nat → Bool)), vs = [.ptr 0 0 0, i64 n, .ptr 1 0 0, .ptr 2 0 0, i64 k] ∧ L = [pkB a.1, .var (.agg [i64 0, .und]), .var (eTr n a.2)] ∧ a.1.Ok ∧ k < 5 ∧ trI n a k = trI n (q, fun _ => false) c, fun vs L => match vs with | [_, _, _, _, .int _ i] => i.toNat | _ => 0, [], [1,4], rfl, ⟨c, (q, fun _ => false), rfl, rfl, k1, hn5, rfl⟩, ?_⟩)
  rintro vs L ⟨k, ⟨p, b⟩, rfl, rfl, h1, h2, h3⟩
  by_cases hk : 0 < k
  · obtain ⟨k, rfl⟩ : ∃ j, k = j + 1 := ⟨k - 1, by omega⟩
    have j1 := h1.next 16
    have j2 := j1.next 200
    have j3 := j2.next 5
    have j4 := j3.next 3
    have d1 := num_told p h1 16 (by omega)
    have d2 := num_told _ j1 200 (by omega)
    have d3 := num_told _ j2 5 (by omega)
    have d4 := num_told _ j3 3 (by omega)
    have b1 := p.num_lt (m := 16) (by omega)
    have b2 := (p.next 16).num_lt (m := 200) (by omega)
    have b3 := ((p.next 16).next 200).num_lt (m := 5) (by omega)
    have b4 := (((p.next 16).next 200).next 5).num_lt (m := 3) (by omega)
    have hS : trS n (p, b) = ((((p.next 16).next 200).next 5).next 3, setZ b ((p.num 16 : Int) * (max (n / 16) 1 : Nat)) (((p.next 16).num 200 : Int) + (((p.next 16).next 200).num 5 : Int) * 64) (decide (0 < (((p.next 16).next 200).next 5).num 3))) := rfl
    have hI : trI n (trS n (p, b)) k = trI n (q, fun _ => false) c := h3
    rw [hS] at hI
    generalize p.num 16 = n1 at *
    generalize p.next 16 = p1 at *
    generalize p1.num 200 = n2 at *
    generalize p1.next 200 = p2 at *
    generalize p2.num 5 = n3 at *
    generalize p2.next 5 = p3 at *
    generalize p3.num 3 = n4 at *
    generalize p3.next 3 = p4 at *
    have hmx : (if (1 : Int) > ((n / 16 : Nat) : Int) then (1 : Int) else ((n / 16 : Nat) : Int)) = ((max (n / 16) 1 : Nat) : Int) := by split <;> omega
    have hmul : (n1 : Int) * ((max (n / 16) 1 : Nat) : Int) ≤ 15 * 5000 := by
      have : n1 * max (n / 16) 1 ≤ 15 * 5000 := Nat.mul_le_mul (by omega) (by omega)
      rw [← Int.natCast_mul]; omega
    have hmul0 : 0 ≤ (n1 : Int) * ((max (n / 16) 1 : Nat) : Int) := by rw [← Int.natCast_mul]; omega
    have hon : decide ((n4 : Int) > 0) = decide (0 < n4) := decide_eq_decide.2 (by omega)
    generalize hMM : ((n1 : Int) * ((max (n / 16) 1 : Nat) : Int)) = MM at *
    have d5 := rSetTree_told hn hn2 b MM ((n2 : Int) + (n3 : Int) * 64) (by omega) (decide (0 < n4))
    (refine gw ?_; refine Choice.mk ⟨true, Choice.mk ⟨false, _, _, d1, ?_⟩⟩)
    (refine gw ?_)
    rw [hdv, hmx, hMM]
    (refine gw ?_; refine Choice.mk ⟨true, Choice.mk ⟨false, _, _, d2, ?_⟩⟩)
    (refine gw ?_; refine Choice.mk ⟨true, Choice.mk ⟨false, _, _, d3, ?_⟩⟩)
    (refine gw ?_; refine Choice.mk ⟨true, Choice.mk ⟨false, _, _, d4, ?_⟩⟩)
    (refine gw ?_)
    rw [hon]
    (refine gw ?_; refine Choice.mk ⟨false, Choice.mk ⟨false, _, _, d5, ?_⟩⟩)
    (refine gw ?_)
    rw [show ((k + 1 : Nat) : Int) - 1 = (k : Int) by omega]
    (refine gw ?_; refine ⟨[], [1,2], rfl, ⟨k, (p4, setZ b MM ((n2 : Int) + (n3 : Int) * 64) (decide (0 < n4))), rfl, rfl, j4, by omega, hI⟩, (by omega : ((k : Int)).toNat < ((k + 1 : Nat) : Int).toNat)⟩)
  · have e : k = 0 := by omega
    subst e
    have h3 : (p, b) = trI n (q, fun _ => false) c := h3
    rw [← h3]
    (refine gw ?_)
    exact RetN.fz ⟨[true], [], rfl, rfl, rfl⟩
theorem hasT_nat {n : Nat} {b : Nat → Bool} {x : Nat} (h : x < n) : hasT n b x = b x := by unfold hasT; rw [decide_eq_true (by omega)]; rfl
theorem bitR_off (n : Nat) : bitR n offB = List.replicate n (.bool false) := by
  apply List.ext_getElem (by simp [bitR_len])
  intro k h1 h2
  simp [bitR, offB]
theorem firI_spec {n : Nat} {b : Nat → Bool} {f : Nat} (hf : f < n) : (firI n b f = none ∧ ∀ x, f ≤ x → x < n → b x = true) ∨ ∃ i, firI n b f = some i ∧ f ≤ i ∧ i < n ∧ b i = false ∧ ∀ x, f ≤ x → x < i → b x = true := by
  have key : ∀ c, c ≤ n → f ≤ c → (∀ x, f ≤ x → x < c → b x = true) ∨ ∃ i, f ≤ i ∧ i < c ∧ b i = false ∧ ∀ x, f ≤ x → x < i → b x = true := by
    intro c
    induction c with
    | zero => intro _ _; exact .inl fun x _ h => by omega
    | succ c ih =>
      intro h1 h2
      by_cases hc : f ≤ c
      · rcases ih (by omega) hc with h | ⟨i, i1, i2, i3, i4⟩
        · cases hb : b c with
          | true =>
            refine .inl fun x e1 e2 => ?_
            by_cases e : x = c
            · rw [e]; exact hb
            · exact h x e1 (by omega)
          | false => exact .inr ⟨c, hc, by omega, hb, h⟩
        · exact .inr ⟨i, i1, by omega, i3, i4⟩
      · exact .inl fun x e1 e2 => by omega
  have hu : firI n b f = firZ n b f := by
    unfold firI
    rw [if_neg (by omega), Int.toNat_natCast]
  rw [hu]
  rcases key n (Nat.le_refl _) (by omega) with h | ⟨i, i1, i2, i3, i4⟩
  · exact .inl ⟨firZ_none h, h⟩
  · exact .inr ⟨i, firZ_some i2 i1 i3 i4, i1, i2, i3, i4⟩
end Go.Ev.W
namespace Go.Ev.W
open Go.Ev Go.Ev.N

/-- Bits of a level above: of two, is one set? -/
def upB (b : Nat → Bool) : Nat → Nat → Bool
  | 0 => b
  | k + 1 => fun i => upB b k (2 * i) || upB b k (2 * i + 1)
theorem upB_true {b : Nat → Bool} : ∀ {k i : Nat}, upB b k i = true ↔ ∃ x, x / 2 ^ k = i ∧ b x = true
  | 0, i => ⟨fun h => ⟨i, by simp, h⟩, fun ⟨x, h1, h2⟩ => by
      have : x = i := by simpa using h1
      rw [← this]; exact h2⟩
  | k + 1, i => by
    have ih := @upB_true b k
    show (upB b k (2 * i) || upB b k (2 * i + 1)) = true ↔ _
    rw [Bool.or_eq_true, ih, ih]
    have hdd : ∀ x, x / 2 ^ (k + 1) = x / 2 ^ k / 2 := fun x => by rw [Nat.pow_succ, Nat.div_div_eq_div_mul]
    constructor
    · rintro (⟨x, h1, h2⟩ | ⟨x, h1, h2⟩)
      · exact ⟨x, by rw [hdd, h1]; omega, h2⟩
      · exact ⟨x, by rw [hdd, h1]; omega, h2⟩
    · rintro ⟨x, h1, h2⟩
      rw [hdd] at h1
      generalize hq : x / 2 ^ k = q at *
      by_cases e : q = 2 * i
      · exact .inl ⟨x, by rw [hq, e], h2⟩
      · exact .inr ⟨x, by rw [hq]; omega, h2⟩
theorem upB_congr {b c : Nat → Bool} {k i : Nat} (h : ∀ x, x / 2 ^ k = i → b x = c x) : upB b k i = upB c k i := by
  apply Bool.eq_iff_iff.2
  rw [upB_true, upB_true]
  exact ⟨fun ⟨x, h1, h2⟩ => ⟨x, h1, by rw [← h x h1]; exact h2⟩, fun ⟨x, h1, h2⟩ => ⟨x, h1, by rw [h x h1]; exact h2⟩⟩
theorem upB_false {b : Nat → Bool} {k i : Nat} (h : ∀ x, x / 2 ^ k = i → b x = false) : upB b k i = false := by
  cases e : upB b k i with
  | false => rfl
  | true =>
    obtain ⟨x, h1, h2⟩ := upB_true.1 e
    rw [h x h1] at h2; exact absurd h2 (by decide)
theorem sz_half (g k : Nat) : g / 2 ^ (k + 1) = g / 2 ^ k / 2 := by rw [Nat.pow_succ, Nat.div_div_eq_div_mul]
/-- Places of so many granules and classes. -/
structure SlOk (g c : Nat) : Prop where
  c1 : 1 ≤ c
  c17 : c ≤ 17
  g1 : 1 ≤ g
  g2 : g ≤ 65536
  dv : g % 2 ^ (c - 1) = 0
theorem SlOk.sz {g c : Nat} (h : SlOk g c) {k : Nat} (hk : k < c) : 1 ≤ g / 2 ^ k ∧ g / 2 ^ k ≤ 65536 ∧ g / 2 ^ k * 2 ^ k = g := by
  have hd : 2 ^ (c - 1) ∣ g := Nat.dvd_of_mod_eq_zero h.dv
  have hd2 : 2 ^ k ∣ g := Nat.dvd_trans (Nat.pow_dvd_pow 2 (by omega)) hd
  have hm := Nat.div_mul_cancel hd2
  have hp : 0 < 2 ^ k := Nat.pow_pos (by omega)
  refine ⟨?_, Nat.le_trans (Nat.div_le_self _ _) h.g2, hm⟩
  have := Nat.le_of_dvd (by have := h.g1; omega) hd2
  exact (Nat.one_le_div_iff hp).2 this
theorem SlOk.half {g c : Nat} (h : SlOk g c) {k : Nat} (hk : k + 1 < c) : g / 2 ^ k = 2 * (g / 2 ^ (k + 1)) := by
  have h1 := (h.sz (k := k) (by omega)).2.2
  have h2 := (h.sz (k := k + 1) hk).2.2
  have hp : 0 < 2 ^ k := Nat.pow_pos (by omega)
  have : g / 2 ^ k * 2 ^ k = 2 * (g / 2 ^ (k + 1)) * 2 ^ k := by
    rw [h1, Nat.mul_comm 2 _, Nat.mul_assoc, Nat.mul_comm 2 _, ← Nat.pow_succ, h2]
  exact Nat.eq_of_mul_eq_mul_right hp this
def tS (g : Nat) (b : Nat → Bool) (k : Nat) : AV := eTr (g / 2 ^ k) (upB b k)
def tL (g c : Nat) (b : Nat → Bool) : List AV := (List.range c).map (tS g b)
def eS (g c : Nat) (b : Nat → Bool) : AV := .agg [.lst t_api_Tree (tL g c b)]
theorem tL_len (g c : Nat) (b : Nat → Bool) : (tL g c b).length = c := by simp [tL]
theorem tL_at {g c k : Nat} {b : Nat → Bool} (h : k < c) {Q : AV → Prop} (q : Q (tS g b k)) : At (tL g c b) ((k : Nat) : Int).toNat Q := by
  unfold tL
  refine at_map (k := k) (by simpa using h) ?_
  rw [List.getElem_range]; exact q
theorem tL_idx {g c k : Nat} {b : Nat → Bool} (h : k < c) {Q : AV → Prop} (q : Q (tS g b k)) : Idx (tL g c b) ((k : Nat) : Int) Q := by
  unfold tL
  refine idx_map (k := k) (by simpa using h) ?_
  rw [List.getElem_range]; exact q
theorem tL_suc (g c : Nat) (b : Nat → Bool) : tL g (c + 1) b = tL g c b ++ [tS g b c] := by unfold tL; rw [List.range_succ, List.map_append]; rfl
theorem eTr_congr {n : Nat} {b c : Nat → Bool} (h : ∀ x, x < n → b x = c x) : eTr n b = eTr n c := by unfold eTr; rw [lvT_congr h]
theorem tS_congr {g k : Nat} {b c : Nat → Bool} (h : ∀ x, x < g → b x = c x) : tS g b k = tS g c k := by
  refine eTr_congr fun i hi => upB_congr fun x hx => h x ?_
  subst hx
  by_cases e : x < g
  · exact e
  · have : g / 2 ^ k ≤ x / 2 ^ k := Nat.div_le_div_right (by omega)
    omega
theorem tL_congr {g c : Nat} {b b' : Nat → Bool} (h : ∀ x, x < g → b x = b' x) : tL g c b = tL g c b' := by
  unfold tL
  exact List.map_congr_left fun k _ => tS_congr h
theorem eS_congr {g c : Nat} {b b' : Nat → Bool} (h : ∀ x, x < g → b x = b' x) : eS g c b = eS g c b' := by unfold eS; rw [tL_congr h]
theorem zin {A B i : Nat} (h : A ≤ i ∧ i ≤ B) : 0 ≤ (A : Int) ∧ (A : Int) ≤ (i : Int) ∧ (i : Int) < (A : Int) + ((B : Int) - (A : Int) + 1) := by omega
theorem zout {A B i : Nat} (h : 0 ≤ (A : Int) ∧ (A : Int) ≤ (i : Int) ∧ (i : Int) < (A : Int) + ((B : Int) - (A : Int) + 1)) : A ≤ i ∧ i ≤ B := by omega
/-- A class's bits once some granules are live, or not. -/
theorem use_on {g k : Nat} {b : Nat → Bool} {f last : Nat} (h1 : f ≤ last) {i : Nat} :
    setZ (upB b k) (f / 2 ^ k : Nat) (((last / 2 ^ k : Nat) : Int) - (f / 2 ^ k : Nat) + 1) true i = upB (setB b f (last + 1 - f) true) k i := by
  have hp : 0 < 2 ^ k := Nat.pow_pos (by omega)
  unfold setZ
  by_cases h : f / 2 ^ k ≤ i ∧ i ≤ last / 2 ^ k
  · rw [if_pos (zin h)]
    refine (upB_true.2 ?_).symm
    -- a granule of the place that is among them
    refine ⟨max f (i * 2 ^ k), ?_, ?_⟩
    · by_cases e : f ≤ i * 2 ^ k
      · rw [Nat.max_eq_right e, Nat.mul_div_cancel _ hp]
      · rw [Nat.max_eq_left (by omega)]
        have : i ≤ f / 2 ^ k := (Nat.le_div_iff_mul_le hp).2 (by omega)
        omega
    · unfold setB
      have : i * 2 ^ k ≤ last := (Nat.le_div_iff_mul_le hp).1 h.2
      rw [if_pos (by omega)]
  · rw [if_neg (fun e => h (zout e))]
    refine upB_congr fun x hx => ?_
    unfold setB
    rw [if_neg]
    rintro ⟨e1, e2⟩
    apply h
    subst hx
    exact ⟨Nat.div_le_div_right e1, Nat.div_le_div_right (by omega)⟩
theorem use_off {g k : Nat} {b : Nat → Bool} {f last : Nat} (h1 : f ≤ last) {i : Nat} (hi : i ≠ f / 2 ^ k ∧ i ≠ last / 2 ^ k) :
    setZ (upB b k) (f / 2 ^ k : Nat) (((last / 2 ^ k : Nat) : Int) - (f / 2 ^ k : Nat) + 1) false i = upB (setB b f (last + 1 - f) false) k i := by
  have hp : 0 < 2 ^ k := Nat.pow_pos (by omega)
  unfold setZ
  by_cases h : f / 2 ^ k ≤ i ∧ i ≤ last / 2 ^ k
  · rw [if_pos (zin h)]
    refine (upB_false fun x hx => ?_).symm
    unfold setB
    rw [if_pos]
    subst hx
    constructor
    · by_cases e : f ≤ x
      · exact e
      · have : x / 2 ^ k ≤ f / 2 ^ k := Nat.div_le_div_right (by omega)
        omega
    · by_cases e : x ≤ last
      · omega
      · have : last / 2 ^ k ≤ x / 2 ^ k := Nat.div_le_div_right (by omega)
        omega
  · rw [if_neg (fun e => h (zout e))]
    refine upB_congr fun x hx => ?_
    unfold setB
    rw [if_neg]
    rintro ⟨e1, e2⟩
    apply h
    subst hx
    exact ⟨Nat.div_le_div_right e1, Nat.div_le_div_right (by omega)⟩
end Go.Ev.W
namespace Go.Ev.W
open Go.Ev Go.Ev.N

theorem and64i {x y : Nat} (hx : x < 2 ^ 63) (hy : y < 2 ^ 63) : bitsOp .and .i64 (x : Int) (y : Int) = ((x &&& y : Nat) : Int) := by
  have h0 : x &&& y < 2 ^ 63 := Nat.and_lt_two_pow (n := 63) x hy
  have e : (BitVec.ofInt 64 (x : Int) &&& BitVec.ofInt 64 (y : Int)).toNat = x &&& y := by
    rw [BitVec.toNat_and, b64 (by omega), b64 (by omega), BitVec.toNat_ofNat, BitVec.toNat_ofNat, Nat.mod_eq_of_lt (by omega), Nat.mod_eq_of_lt (by omega)]
  show IntKind.i64.wrap ((BitVec.ofInt 64 (x : Int) &&& BitVec.ofInt 64 (y : Int)).toNat : Int) = _
  rw [e]
  exact wrap64 (by omega) (by omega)
theorem and_mod {g k : Nat} (hg : g < 2 ^ 63) (hk : k ≤ 16) : bitsOp .and .i64 (g : Int) (((2 ^ k : Nat) : Int) - 1) = ((g % 2 ^ k : Nat) : Int) := by
  have hp : 2 ^ k ≤ 2 ^ 16 := Nat.pow_le_pow_right (by omega) hk
  have hp0 : 0 < 2 ^ k := Nat.pow_pos (by omega)
  rw [show ((2 ^ k : Nat) : Int) - 1 = ((2 ^ k - 1 : Nat) : Int) by omega, and64i hg (by omega), Nat.and_two_pow_sub_one_eq_mod]
theorem shlI {k : Nat} (h : k ≤ 16) : (1 : Int) * 2 ^ min ((k : Nat) : Int).toNat IntKind.i64.bits = ((2 ^ k : Nat) : Int) := by
  rw [Int.toNat_natCast, show min k IntKind.i64.bits = k from Nat.min_eq_left (by show k ≤ 64; omega)]
  simp
theorem shrI {g k : Nat} (h : k ≤ 16) : ((g : Nat) : Int).fdiv (2 ^ min ((k : Nat) : Int).toNat IntKind.i64.bits) = ((g / 2 ^ k : Nat) : Int) := by
  rw [Int.toNat_natCast, show min k IntKind.i64.bits = k from Nat.min_eq_left (by show k ≤ 64; omega)]
  have : ((2 : Int) ^ k) = ((2 ^ k : Nat) : Int) := by simp
  rw [this, Int.fdiv_eq_ediv_of_nonneg _ (Int.natCast_nonneg _)]
  exact (Int.natCast_ediv g (2 ^ k)).symm
def sN : AV := .agg [.lst t_api_Tree []]
def SlOkI (g c : Int) : Prop := 1 ≤ c ∧ c ≤ 17 ∧ 1 ≤ g ∧ g ≤ 65536 ∧ g.toNat % 2 ^ (c.toNat - 1) = 0
theorem SlOkI.ok {g c : Nat} (h : SlOkI g c) : SlOk g c := ⟨by have := h.1; omega, by have := h.2.1; omega, by have := h.2.2.1; omega, by have := h.2.2.2.1; omega, by have := h.2.2.2.2; simpa using this⟩
theorem SlOk.int {g c : Nat} (h : SlOk g c) : SlOkI g c := ⟨by have := h.c1; omega, by have := h.c17; omega, by have := h.g1; omega, by have := h.g2; omega, by simpa using h.dv⟩
theorem upB_off : ∀ k, upB offB k = offB
  | 0 => rfl
  | k + 1 => by
    funext i
    show (upB offB k (2 * i) || upB offB k (2 * i + 1)) = _
    rw [upB_off k]; rfl
set_option maxHeartbeats 4000000 in
theorem slNew_told {g c : Nat} (h : SlOk g c) : Told P T slots_New [] [i64 g, i64 c] (eS g c offB) [] := by
  obtain ⟨k1, hk1⟩ : ∃ k, c = k + 1 := ⟨c - 1, by have := h.c1; omega⟩
  have h1 := h.c17
  have h2 := h.g1
  have h3 := h.g2
  have hsl := shlI (k := k1) (by omega)
  have hand := and_mod (g := g) (k := k1) (by omega) (by omega)
  have hp : 2 ^ k1 ≤ 2 ^ 16 := Nat.pow_le_pow_right (by omega) (by omega)
  have hp0 : 0 < 2 ^ k1 := Nat.pow_pos (by omega)
  rw [show g % 2 ^ k1 = 0 by have := h.dv; rw [hk1] at this; exact this] at hand
  have hcv : IntKind.u64.wrap ((c : Int) - 1) = (k1 : Nat) := by rw [show (c : Int) - 1 = (k1 : Nat) by omega]; exact wrapU64 (by omega) (by omega)
  refine told_of_ev (fn := slots_New_fn) tabOk mixed (by kernel_rfl) (by kernel_rfl) (by kernel_rfl) (by kernel_rfl) ?_
  (refine gw ?_; refine IfB.ff (by simp; omega) ?_)
  (refine gw ?_; refine IfB.ff (by simp; omega) ?_)
  (refine gw ?_; refine IfB.ff (by simp; omega) ?_)
  (refine gw ?_; refine IfB.ff (by simp; omega) ?_)
  (refine gw ?_)
  rw [show (c : Int) - 1 = (k1 : Nat) by omega, hsl]
  (refine gw ?_)
  rw [hand]
  (refine gw ?_)
  (refine gw ?_; refine LoopN.mk ⟨[0,4,31,32], fun vs L => ∃ k : Nat, vs = [i64 g, .ptr 0 0 0, i64 c, i64 k] ∧ L = [.var (.agg [.ref 1]), .row t_api_Tree (tL g k offB)] ∧ k ≤ c, fun vs L => match vs with | [_, _, _, .int _ i] => c - i.toNat | _ => 0, [], [0,1], rfl, ⟨0, rfl, rfl, by omega⟩, ?_⟩)
  rintro vs L ⟨k, rfl, rfl, hk⟩
  by_cases hkc : k < c
  · have hs := shrI (g := g) (k := k) (by omega)
    have hz := h.sz hkc
    have d1 := newR_told hz.1 hz.2.1
    have hu : tL g k offB ++ [eTr (g / 2 ^ k) offB] = tL g (k + 1) offB := by
      rw [tL_suc]
      unfold tS
      rw [upB_off]
    have htl := tL_len g k offB
    (refine gw ?_; refine IfB.tt (by simp; omega) ?_)
    (refine gw ?_)
    rw [hs]
    (refine gw ?_; refine Choice.mk ⟨false, Choice.mk ⟨false, _, _, d1, ?_⟩⟩)
    (refine gw ?_)
    refine Room.mk (by rw [htl]; simp; omega) ?_
    (refine gw ?_; refine ⟨[], [0,3], rfl, ⟨k + 1, rfl, by rw [← hu]; rfl, hkc⟩, (by omega : c - ((k : Int) + 1).toNat < c - (k : Int).toNat)⟩)
  · obtain rfl : k = c := by omega
    (refine gw ?_)
    exact RetN.fz ⟨[true], [], rfl, rfl, rfl⟩
set_option maxHeartbeats 4000000 in
theorem slNewNo_told {g c : Int} (h : ¬ SlOkI g c) (hg : -9223372036854775808 ≤ g ∧ g ≤ 9223372036854775807) (hc : -9223372036854775808 ≤ c ∧ c ≤ 9223372036854775807) : Told P T slots_New [] [i64 g, i64 c] sN [] := by
  refine told_of_ev (fn := slots_New_fn) tabOk mixed (by kernel_rfl) (by kernel_rfl) (by kernel_rfl) (by kernel_rfl) ?_
  by_cases h1 : c < 1
  · (refine gw ?_; refine IfB.tt (by simp; omega) ?_)
    (refine gw ?_)
    exact RetN.fz ⟨[true], [], rfl, rfl, rfl⟩
  · (refine gw ?_; refine IfB.ff (by simp; omega) ?_)
    by_cases h2 : c > 17
    · (refine gw ?_; refine IfB.tt (by simp; omega) ?_)
      (refine gw ?_)
      exact RetN.fz ⟨[true], [], rfl, rfl, rfl⟩
    · (refine gw ?_; refine IfB.ff (by simp; omega) ?_)
      by_cases h3 : g < 1
      · (refine gw ?_; refine IfB.tt (by simp; omega) ?_)
        (refine gw ?_)
        exact RetN.fz ⟨[true], [], rfl, rfl, rfl⟩
      · (refine gw ?_; refine IfB.ff (by simp; omega) ?_)
        by_cases h4 : g > 65536
        · (refine gw ?_; refine IfB.tt (by simp; omega) ?_)
          (refine gw ?_)
          exact RetN.fz ⟨[true], [], rfl, rfl, rfl⟩
        · (refine gw ?_; refine IfB.ff (by simp; omega) ?_)
          obtain ⟨n, rfl⟩ : ∃ n : Nat, g = n := ⟨g.toNat, by omega⟩
          obtain ⟨k, rfl⟩ : ∃ k : Nat, c = k + 1 := ⟨c.toNat - 1, by omega⟩
          have hsl := shlI (k := k) (by omega)
          have hand := and_mod (g := n) (k := k) (by omega) (by omega)
          have hp : 2 ^ k ≤ 2 ^ 16 := Nat.pow_le_pow_right (by omega) (by omega)
          have hp0 : 0 < 2 ^ k := Nat.pow_pos (by omega)
          have hne : n % 2 ^ k ≠ 0 := fun e => h ⟨by omega, by omega, by omega, by omega, by
            rw [Int.toNat_natCast, show ((k : Int) + 1).toNat - 1 = k by omega]; exact e⟩
          (refine gw ?_)
          rw [show (k : Int) + 1 - 1 = (k : Nat) by omega]
          (refine gw ?_)
          rw [hsl]
          (refine gw ?_)
          rw [hand]
          generalize n % 2 ^ k = r at *
          (refine gw ?_; refine IfB.tt (by simp; omega) ?_)
          (refine gw ?_)
          exact RetN.fz ⟨[true], [], rfl, rfl, rfl⟩
end Go.Ev.W
namespace Go.Ev.W
open Go.Ev Go.Ev.N

theorem setZ_none (b : Nat → Bool) (on : Bool) : setZ b 0 0 on = b := by
  funext x
  unfold setZ
  rw [if_neg (by omega)]
set_option maxHeartbeats 4000000 in
theorem slTwin_told {g c : Nat} (h : SlOk g c) (b : Nat → Bool) : Told P T slots_twin [] [eS g c b] (.agg [.ref 0]) [.row t_api_Tree (tL g c b)] := by
  have h1 := h.c17
  have htl := tL_len g c b
  refine told_of_ev (fn := slots_twin_fn) tabOk mixed (by kernel_rfl) (by kernel_rfl) (by kernel_rfl) (by kernel_rfl) ?_
  (refine gw ?_; refine LoopN.mk ⟨[2,6,7,8], fun vs L => ∃ k : Nat, vs = [.ptr 0 0 0, .lst t_api_Tree (tL g c b), i64 (tL g c b).length, i64 k] ∧ L = [.var (.agg [.ref 1]), .row t_api_Tree (tL g k b)] ∧ k ≤ c, fun vs L => match vs with | [_, _, _, .int _ i] => c - i.toNat | _ => 0, [], [1,2], rfl, ⟨0, rfl, rfl, by omega⟩, ?_⟩)
  rintro vs L ⟨k, rfl, rfl, hk⟩
  by_cases hkc : k < c
  · have hz := h.sz hkc
    have d1 : Told P T tree_Set [] [eTr (g / 2 ^ k) (upB b k), i64 0, i64 0, .bool true] (tS g b k) [] := by
      have := treeSet_told hz.1 hz.2.1 (upB b k) 0 0 (by omega) true
      rw [setZ_none] at this
      exact this
    have hu := tL_suc g k b
    have htk := tL_len g k b
    (refine gw ?_; refine IfB.tt (by simp; omega) ?_)
    (refine gw ?_)
    refine tL_idx hkc ?_
    (refine gw ?_; refine Choice.mk ⟨false, Choice.mk ⟨false, _, _, d1, ?_⟩⟩)
    (refine gw ?_)
    refine Room.mk (by rw [htk]; simp; omega) ?_
    (refine gw ?_; refine ⟨[], [0,5], rfl, ⟨k + 1, rfl, by rw [hu]; rfl, hkc⟩, (by omega : c - ((k : Int) + 1).toNat < c - (k : Int).toNat)⟩)
  · obtain rfl : k = c := by omega
    (refine gw ?_; refine IfB.ff (by rw [htl]; simp) ?_)
    (refine gw ?_)
    exact RetN.mk ⟨[1], rfl, rfl, rfl⟩
theorem slTaken_told {n : Nat} (hn : 1 ≤ n) (hn2 : n ≤ 65536) (b : Nat → Bool) (i : Int) (hi : -1000000 ≤ i ∧ i ≤ 1000000) : Told P T slots_taken [] [eTr n b, i64 i] (.bool (hasT n b (2 * i) || hasT n b (2 * i + 1))) [] := by
  have d1 := treeHas_told hn hn2 b (2 * i) (by omega)
  have d2 := treeHas_told hn hn2 b (2 * i + 1) (by omega)
  refine told_of_ev (fn := slots_taken_fn) tabOk mixed (by kernel_rfl) (by kernel_rfl) (by kernel_rfl) (by kernel_rfl) ?_
  (refine gw ?_; refine Choice.mk ⟨false, Choice.mk ⟨false, _, _, d1, ?_⟩⟩)
  cases h1 : hasT n b (2 * i)
  · (refine gw ?_; refine Choice.mk ⟨false, Choice.mk ⟨false, _, _, d2, ?_⟩⟩)
    (refine gw ?_; exact RetN.mk ⟨[], rfl, rfl, rfl⟩)
  · (refine gw ?_; exact RetN.mk ⟨[], rfl, rfl, rfl⟩)
/-- Granules live, or not, for all classes up to one. -/
def usL (g c : Nat) (b b' : Nat → Bool) (k : Nat) : List AV := (List.range c).map fun j => if j < k then tS g b' j else tS g b j
theorem usL_len (g c : Nat) (b b' : Nat → Bool) (k : Nat) : (usL g c b b' k).length = c := by simp [usL]
theorem usL_zero (g c : Nat) (b b' : Nat → Bool) : usL g c b b' 0 = tL g c b := by
  unfold usL tL
  exact List.map_congr_left fun j _ => by rw [if_neg (by omega)]
theorem usL_end (g c : Nat) (b b' : Nat → Bool) : usL g c b b' c = tL g c b' := by
  unfold usL tL
  exact List.map_congr_left fun j hj => by rw [if_pos (by simpa using hj)]
theorem usL_set {g c k : Nat} {b b' : Nat → Bool} : (usL g c b b' k).set k (tS g b' k) = usL g c b b' (k + 1) := by
  unfold usL
  apply List.ext_getElem (by simp)
  intro j h1 h2
  rw [List.getElem_set]
  simp only [List.getElem_map, List.getElem_range]
  split
  · rename_i e; subst e; rw [if_pos (by omega)]
  · rename_i e
    by_cases hj : j < k
    · rw [if_pos hj, if_pos (by omega)]
    · rw [if_neg hj, if_neg (by omega)]
theorem usL_at {g c k j : Nat} {b b' : Nat → Bool} (h : j < c) {Q : AV → Prop} (q : Q (if j < k then tS g b' j else tS g b j)) : At (usL g c b b' k) ((j : Nat) : Int).toNat Q := by
  unfold usL
  refine at_map (k := j) (by simpa using h) ?_
  rw [List.getElem_range]; exact q
/-- What a place's bit is, said by what is below. -/
theorem up_taken {g c k : Nat} (h : SlOk g c) (hk : k + 1 < c) (b : Nat → Bool) {i : Nat} (hi : i < g / 2 ^ (k + 1)) :
    (hasT (g / 2 ^ k) (upB b k) (2 * (i : Int)) || hasT (g / 2 ^ k) (upB b k) (2 * (i : Int) + 1)) = upB b (k + 1) i := by
  have hh := h.half hk
  have h1 : hasT (g / 2 ^ k) (upB b k) (2 * (i : Int)) = upB b k (2 * i) := hasT_nat (x := 2 * i) (by omega)
  have h2 : hasT (g / 2 ^ k) (upB b k) (2 * (i : Int) + 1) = upB b k (2 * i + 1) := hasT_nat (x := 2 * i + 1) (by omega)
  rw [h1, h2]; rfl
end Go.Ev.W
namespace Go.Ev.W
open Go.Ev Go.Ev.N

/-- A class's bits, while its two ends are looked at again. -/
def enB (b b' : Nat → Bool) (k lo hi : Nat) (on : Bool) (j : Nat) : Nat → Bool :=
  let B := setZ (upB b k) lo ((hi : Int) - lo + 1) on
  if 0 < k ∧ on = false then (if j = 0 then B else if j = 1 then setZ B lo 1 (upB b' k lo) else setZ (setZ B lo 1 (upB b' k lo)) hi 1 (upB b' k hi)) else B
theorem set1 (b : Nat → Bool) (lo : Nat) (v : Bool) (i : Nat) : setZ b lo 1 v i = if i = lo then v else b i := by
  unfold setZ
  by_cases h : i = lo
  · rw [if_pos (by omega), if_pos h]
  · rw [if_neg (by omega), if_neg h]
theorem enB_zero (b b' : Nat → Bool) (k lo hi : Nat) (on : Bool) : enB b b' k lo hi on 0 = setZ (upB b k) lo ((hi : Int) - lo + 1) on := by
  unfold enB
  split
  · rw [if_pos rfl]
  · rfl
theorem enB_off {b b' : Nat → Bool} {k lo hi : Nat} {on : Bool} (h : ¬ (0 < k ∧ on = false)) (j j' : Nat) : enB b b' k lo hi on j = enB b b' k lo hi on j' := by
  unfold enB
  rw [if_neg h, if_neg h]
theorem enB_one {b b' : Nat → Bool} {k lo hi : Nat} {on : Bool} (h : 0 < k ∧ on = false) : setZ (enB b b' k lo hi on 0) lo 1 (upB b' k lo) = enB b b' k lo hi on 1 := by
  unfold enB
  rw [if_pos h, if_pos h, if_pos rfl, if_neg (by omega), if_pos rfl]
theorem enB_two {b b' : Nat → Bool} {k lo hi : Nat} {on : Bool} (h : 0 < k ∧ on = false) : setZ (enB b b' k lo hi on 1) hi 1 (upB b' k hi) = enB b b' k lo hi on 2 := by
  unfold enB
  rw [if_pos h, if_pos h, if_neg (by omega), if_pos rfl, if_neg (by omega), if_neg (by omega)]
theorem enB_end {b : Nat → Bool} {f last k : Nat} {on : Bool} (h1 : f ≤ last) (i : Nat) : enB b (setB b f (last + 1 - f) on) k (f / 2 ^ k) (last / 2 ^ k) on 2 i = upB (setB b f (last + 1 - f) on) k i := by
  unfold enB
  cases on with
  | true =>
    rw [if_neg (by simp)]
    exact use_on (g := 0) h1
  | false =>
    by_cases hk : 0 < k
    · rw [if_pos ⟨hk, rfl⟩, if_neg (by omega), if_neg (by omega), set1, set1]
      by_cases e1 : i = last / 2 ^ k
      · rw [if_pos e1, e1]
      · rw [if_neg e1]
        by_cases e2 : i = f / 2 ^ k
        · rw [if_pos e2, e2]
        · rw [if_neg e2]
          exact use_off (g := 0) h1 ⟨e2, e1⟩
    · obtain rfl : k = 0 := by omega
      rw [if_neg (by omega)]
      show setZ b ((f / 2 ^ 0 : Nat) : Int) _ false i = setB b f (last + 1 - f) false i
      rw [Nat.pow_zero, Nat.div_one, Nat.div_one]
      unfold setZ setB
      by_cases hq : f ≤ i ∧ i ≤ last
      · rw [if_pos (by omega), if_pos (by omega)]
      · rw [if_neg (by omega), if_neg (by omega)]
theorem setB_last {g : Nat} {b : Nat → Bool} {f last : Nat} {n : Int} {on : Bool} (hf : f < g) (hl : (last : Int) = f + min n (g - f) - 1) (h1 : 1 ≤ n) : ∀ x, x < g → setB b f (last + 1 - f) on x = setZ b f n on x := by
  intro x hx
  unfold setB setZ
  by_cases hq : f ≤ x ∧ x < f + (last + 1 - f)
  · rw [if_pos hq, if_pos (by omega)]
  · rw [if_neg hq, if_neg (by omega)]
set_option maxRecDepth 20000 in
set_option maxHeartbeats 8000000 in
theorem slUse_told {g c : Nat} (h : SlOk g c) (b : Nat → Bool) (f n : Int) (hf : -9223372036854775808 ≤ f ∧ f ≤ 9223372036854775807) (hn : -9223372036854775808 ≤ n ∧ n ≤ 9223372036854775807) (on : Bool) :
    Told P T slots_Use [] [eS g c b, i64 f, i64 n, .bool on] (eS g c (setZ b f n on)) [] := by
  have h1 := h.c1
  have h2 := h.c17
  have h3 := h.g1
  have h4 := h.g2
  have htl := tL_len g c b
  have c1 := slTwin_told h b
  have hg0 : ((g / 2 ^ 0 : Nat) : Int) = g := by rw [Nat.pow_zero, Nat.div_one]
  have same : (f < 0 ∨ n < 1 ∨ f ≥ g) → eS g c (setZ b f n on) = eS g c b := fun hh => eS_congr fun x hx => by
    unfold setZ
    rw [if_neg (by omega)]
  refine told_of_ev (fn := slots_Use_fn) tabOk mixed (by kernel_rfl) (by kernel_rfl) (by kernel_rfl) (by kernel_rfl) ?_
  (refine gw ?_; refine Choice.mk ⟨false, Choice.mk ⟨false, _, _, c1, ?_⟩⟩)
  (refine gw ?_)
  rw [htl]
  (refine gw ?_; refine IfB.ff (by simp; omega) ?_)
  by_cases hf0 : f < 0
  · rw [same (.inl hf0)]
    (refine gw ?_; refine IfB.tt (by simp; omega) ?_)
    (refine gw ?_)
    exact RetN.fz ⟨[true], [], rfl, rfl, rfl⟩
  · (refine gw ?_; refine IfB.ff (by simp; omega) ?_)
    by_cases hn1 : n < 1
    · rw [same (.inr (.inl hn1))]
      (refine gw ?_; refine IfB.tt (by simp; omega) ?_)
      (refine gw ?_)
      exact RetN.fz ⟨[true], [], rfl, rfl, rfl⟩
    · (refine gw ?_; refine IfB.ff (by simp; omega) ?_)
      (refine gw ?_)
      refine tL_at (k := 0) (by omega) ?_
      by_cases hfg : f ≥ g
      · rw [same (.inr (.inr hfg))]
        (refine gw ?_; refine IfB.tt (by rw [hg0]; simp; omega) ?_)
        (refine gw ?_)
        exact RetN.fz ⟨[true], [], rfl, rfl, rfl⟩
      · (refine gw ?_; refine IfB.ff (by rw [hg0]; simp; omega) ?_)
        obtain ⟨a, rfl⟩ : ∃ a : Nat, f = a := ⟨f.toNat, by omega⟩
        (refine gw ?_)
        refine tL_at (k := 0) (by omega) ?_
        obtain ⟨last, hl⟩ : ∃ last : Nat, (last : Int) = (a : Int) + (if ((g / 2 ^ 0 : Nat) : Int) - (a : Int) < n then ((g / 2 ^ 0 : Nat) : Int) - (a : Int) else n) - 1 := ⟨((a : Int) + (if ((g / 2 ^ 0 : Nat) : Int) - (a : Int) < n then ((g / 2 ^ 0 : Nat) : Int) - (a : Int) else n) - 1).toNat, by rw [hg0]; split <;> omega⟩
        have hl2 : (last : Int) = a + min n (g - a) - 1 := by rw [hl, hg0]; split <;> omega
        have hal : a ≤ last := by omega
        have hlg : last < g := by omega
        have hend : eS g c (setB b a (last + 1 - a) on) = eS g c (setZ b a n on) := eS_congr (setB_last (by omega) hl2 (by omega))
        rw [← hend]
        have hB := fun k i => enB_end (b := b) (f := a) (last := last) (k := k) (on := on) hal i
        generalize hb' : setB b a (last + 1 - a) on = b' at *
        have hul := fun k => usL_len g c b b' k
        (refine gw ?_; refine LoopN.mk ⟨[1,3,8,9,10,54,55,56], fun vs L => ∃ k : Nat, vs = [i64 a, .bool on, .ptr 0 0 0, .ptr 1 0 0, i64 last, .ref 2, i64 (tL g c b).length, i64 k] ∧ L = [.var (.agg [.und]), .var (.agg [.ref 2]), .row t_api_Tree (usL g c b b' k)] ∧ k ≤ c, fun vs L => match vs with | [_, _, _, _, _, _, _, .int _ i] => c - i.toNat | _ => 0, [], [1,4,3], rfl, ⟨0, by rw [hl]; rfl, by rw [usL_zero]; rfl, by omega⟩, ?_⟩)
        rintro vs L ⟨k, rfl, rfl, hk⟩
        have hulk := hul k
        by_cases hkc : k < c
        · have hz := h.sz hkc
          have hs1 := shrI (g := a) (k := k) (by omega)
          have hs2 := shrI (g := last) (k := k) (by omega)
          have hlo : a / 2 ^ k ≤ last / 2 ^ k := Nat.div_le_div_right hal
          have hhi : last / 2 ^ k < g / 2 ^ k := by
            have := hz.2.2
            exact Nat.div_lt_of_lt_mul (by rw [Nat.mul_comm, this]; exact hlg)
          have hB := hB k
          have htk : ∀ k', k = k' + 1 → ∀ i, i < g / 2 ^ k → Told P T slots_taken [] [tS g b' k', i64 (i : Nat)] (.bool (upB b' k i)) [] := fun k' e i hi => by
            subst e
            have hz' := h.sz (k := k') (by omega)
            have := slTaken_told hz'.1 hz'.2.1 (upB b' k') i (by omega)
            rw [up_taken h hkc b' hi] at this
            exact this
          have hset := usL_set (g := g) (c := c) (k := k) (b := b) (b' := b')
          have hn0 : g / 2 ^ k = g / 2 ^ k := rfl
          generalize hlo' : a / 2 ^ k = lo at *
          generalize hhi' : last / 2 ^ k = hi at *
          have d1 := treeSet_told hz.1 hz.2.1 (upB b k) (lo : Nat) (((hi : Nat) : Int) - (lo : Nat) + 1) (by omega) on
          (refine gw ?_; refine IfB.tt (by rw [htl]; simp; omega) ?_)
          (refine gw ?_)
          refine usL_at hkc ?_
          rw [if_neg (Nat.lt_irrefl k)]
          (refine gw ?_)
          rw [hs1]
          (refine gw ?_)
          rw [hs2]
          (refine gw ?_; refine Choice.mk ⟨false, Choice.mk ⟨false, _, _, d1, ?_⟩⟩)
          (refine gw ?_; refine LoopN.mk ⟨[1,3,8,9,10,11,12,54,55,56,79,80,81], fun vs L => ∃ j : Nat, vs = [i64 a, .bool on, .ptr 0 0 0, .ptr 1 0 0, i64 last, i64 k, .ptr 3 0 0, .ref 2, i64 (tL g c b).length, i64 k, .lst t_int [i64 lo, i64 hi], i64 2, i64 j] ∧ L = [.var (.agg [.und]), .var (.agg [.ref 2]), .row t_api_Tree (usL g c b b' k), .var (eTr (g / 2 ^ k) (enB b b' k lo hi on j))] ∧ j ≤ 2, fun vs L => match vs with | [_, _, _, _, _, _, _, _, _, _, _, _, .int _ i] => 2 - i.toNat | _ => 0, [79], [0,1,2,3], rfl, ⟨0, rfl, by rw [enB_zero]; rfl, by omega⟩, ?_⟩)
          rintro vs L ⟨j, rfl, rfl, hj⟩
          rcases (show j = 0 ∨ j = 1 ∨ j = 2 by omega) with rfl | rfl | rfl
          · (refine gw ?_)
            refine ⟨_, by decide, rfl, ?_⟩
            by_cases hko : 0 < k ∧ on = false
            · obtain ⟨hk0, rfl⟩ := hko
              obtain ⟨k', rfl⟩ : ∃ k', k = k' + 1 := ⟨k - 1, by omega⟩
              have e1 := htk k' rfl lo (by omega)
              have e2 := treeSet_told hz.1 hz.2.1 (enB b b' (k' + 1) lo hi false 0) (lo : Nat) 1 (by omega) (upB b' (k' + 1) lo)
              rw [enB_one ⟨hk0, rfl⟩] at e2
              (refine gw ?_)
              rw [show ((k' + 1 : Nat) : Int) - 1 = (k' : Int) by omega]
              (refine gw ?_)
              refine usL_at (j := k') (by omega) ?_
              rw [if_pos (by omega)]
              (refine gw ?_; refine Choice.mk ⟨false, Choice.mk ⟨false, _, _, e1, ?_⟩⟩)
              (refine gw ?_; refine Choice.mk ⟨false, Choice.mk ⟨false, _, _, e2, ?_⟩⟩)
              (refine gw ?_; refine ⟨[], [0,1,2,3], rfl, ⟨1, rfl, rfl, by omega⟩, (by omega : 2 - (((0 : Nat) : Int) + 1).toNat < 2 - ((0 : Nat) : Int).toNat)⟩)
            · have eo := enB_off (b := b) (b' := b') (lo := lo) (hi := hi) hko 0 1
              rw [eo]
              by_cases hk0 : 0 < k
              · have hon : on = true := by cases on with
                  | true => rfl
                  | false => exact absurd ⟨hk0, rfl⟩ hko
                subst hon
                (refine gw ?_; refine IfB.tt (by simp; omega) ?_)
                (refine gw ?_; refine ⟨[], [0,1,2,3], rfl, ⟨1, rfl, rfl, by omega⟩, (by omega : 2 - (((0 : Nat) : Int) + 1).toNat < 2 - ((0 : Nat) : Int).toNat)⟩)
              · (refine gw ?_; refine IfB.ff (by simp; omega) ?_)
                (refine gw ?_; refine ⟨[], [0,1,2,3], rfl, ⟨1, rfl, rfl, by omega⟩, (by omega : 2 - (((0 : Nat) : Int) + 1).toNat < 2 - ((0 : Nat) : Int).toNat)⟩)
          · (refine gw ?_)
            refine ⟨_, by decide, rfl, ?_⟩
            by_cases hko : 0 < k ∧ on = false
            · obtain ⟨hk0, rfl⟩ := hko
              obtain ⟨k', rfl⟩ : ∃ k', k = k' + 1 := ⟨k - 1, by omega⟩
              have e1 := htk k' rfl hi (by omega)
              have e2 := treeSet_told hz.1 hz.2.1 (enB b b' (k' + 1) lo hi false 1) (hi : Nat) 1 (by omega) (upB b' (k' + 1) hi)
              rw [enB_two ⟨hk0, rfl⟩] at e2
              (refine gw ?_)
              rw [show ((k' + 1 : Nat) : Int) - 1 = (k' : Int) by omega]
              (refine gw ?_)
              refine usL_at (j := k') (by omega) ?_
              rw [if_pos (by omega)]
              (refine gw ?_; refine Choice.mk ⟨false, Choice.mk ⟨false, _, _, e1, ?_⟩⟩)
              (refine gw ?_; refine Choice.mk ⟨false, Choice.mk ⟨false, _, _, e2, ?_⟩⟩)
              (refine gw ?_; refine ⟨[], [0,1,2,3], rfl, ⟨2, rfl, rfl, by omega⟩, (by omega : 2 - (((1 : Nat) : Int) + 1).toNat < 2 - ((1 : Nat) : Int).toNat)⟩)
            · have eo := enB_off (b := b) (b' := b') (lo := lo) (hi := hi) hko 1 2
              rw [eo]
              by_cases hk0 : 0 < k
              · have hon : on = true := by cases on with
                  | true => rfl
                  | false => exact absurd ⟨hk0, rfl⟩ hko
                subst hon
                (refine gw ?_; refine IfB.tt (by simp; omega) ?_)
                (refine gw ?_; refine ⟨[], [0,1,2,3], rfl, ⟨2, rfl, rfl, by omega⟩, (by omega : 2 - (((1 : Nat) : Int) + 1).toNat < 2 - ((1 : Nat) : Int).toNat)⟩)
              · (refine gw ?_; refine IfB.ff (by simp; omega) ?_)
                (refine gw ?_; refine ⟨[], [0,1,2,3], rfl, ⟨2, rfl, rfl, by omega⟩, (by omega : 2 - (((1 : Nat) : Int) + 1).toNat < 2 - ((1 : Nat) : Int).toNat)⟩)
          · rw [show eTr (g / 2 ^ k) (enB b b' k lo hi on 2) = tS g b' k from eTr_congr fun i _ => hB i]
            (refine gw ?_; refine ⟨[], [0,1,2], rfl, ⟨k + 1, rfl, by rw [← hset]; rfl, hkc⟩, (by omega : c - ((k : Int) + 1).toNat < c - (k : Int).toNat)⟩)
        · obtain rfl : k = c := by omega
          (refine gw ?_; refine IfB.ff (by rw [htl]; simp) ?_)
          (refine gw ?_)
          rw [usL_end]
          exact RetN.fz ⟨[true], [], rfl, rfl, rfl⟩
end Go.Ev.W
namespace Go.Ev.W
open Go.Ev Go.Ev.N

set_option maxHeartbeats 8000000 in
theorem rOf_told {g c : Nat} (h : SlOk g c) (b : Nat → Bool) : Told P T ref8_Of [] [.lst t_bool (bitR g b), i64 c] (eS g c b) [] := by
  have h1 := h.c1
  have h2 := h.c17
  have h3 := h.g1
  have h4 := h.g2
  have hb0 : bitR g b = bitR (g / 2 ^ 0) (upB b 0) := by rw [Nat.pow_zero, Nat.div_one]; rfl
  rw [hb0]
  refine told_of_ev (fn := ref8_Of_fn) tabOk mixed (by kernel_rfl) (by kernel_rfl) (by kernel_rfl) (by kernel_rfl) ?_
  (refine gw ?_; refine LoopN.mk ⟨[0,1,4,5,6], fun vs L => ∃ k : Nat, vs = [.lst t_bool (bitR (g / 2 ^ k) (upB b k)), i64 c, .ptr 0 0 0, .ptr 1 0 0, i64 k] ∧ L = [.var (.agg [.und]), .var (.agg [.ref 2]), .row t_api_Tree (tL g k b)] ∧ k ≤ c, fun vs L => match vs with | [_, _, _, _, .int _ i] => c - i.toNat | _ => 0, [], [0,2,4], rfl, ⟨0, rfl, rfl, by omega⟩, ?_⟩)
  rintro vs L ⟨k, rfl, rfl, hk⟩
  by_cases hkc : k < c
  · have hz := h.sz hkc
    have hbl := bitR_len (g / 2 ^ k) (upB b k)
    have d1 : Told P T ref3_Made [] [i64 (bitR (g / 2 ^ k) (upB b k)).length, .lst t_bool (bitR (g / 2 ^ k) (upB b k))] (tS g b k) [] := by
      rw [hbl]; exact rMade_told hz.1 hz.2.1 (upB b k)
    have hu := tL_suc g k b
    have htl := tL_len g k b
    have hsh := sz_half g k
    have hup : ∀ i, upB b (k + 1) i = (upB b k (2 * i) || upB b k (2 * i + 1)) := fun i => rfl
    have hdv : (((bitR (g / 2 ^ k) (upB b k)).length : Nat) : Int).tdiv 2 = ((g / 2 ^ k / 2 : Nat) : Int) := by rw [hbl]; exact (Int.ofNat_tdiv _ 2).symm
    have hix : ∀ j, j < g / 2 ^ k → ∀ Q : AV → Prop, Q (.bool (upB b k j)) → Idx (bitR (g / 2 ^ k) (upB b k)) ((j : Nat) : Int) Q := fun j hj Q q => bitR_idx hj q
    generalize hU : upB b (k + 1) = u at *
    generalize hA : upB b k = a at *
    generalize hm : g / 2 ^ k = m at *
    generalize hm2 : g / 2 ^ (k + 1) = m2 at *
    (refine gw ?_; refine IfB.tt (by simp; omega) ?_)
    (refine gw ?_; refine Choice.mk ⟨false, Choice.mk ⟨false, _, _, d1, ?_⟩⟩)
    (refine gw ?_)
    refine Room.mk (by rw [htl]; simp; omega) ?_
    (refine gw ?_)
    rw [hdv, Int.toNat_natCast]
    refine Room.mk (by omega) ?_
    have hz0 : List.replicate (m / 2) (AV.bool false) = bitR (m / 2) (haB u 0) := (haB_zero _ _).symm
    (refine gw ?_; refine LoopN.mk ⟨[0,1,4,5,6,7,8], fun vs L => ∃ i : Nat, vs = [.lst t_bool (bitR m a), i64 c, .ptr 0 0 0, .ptr 1 0 0, i64 k, .ref 3, i64 i] ∧ L = [.var (.agg [.und]), .var (.agg [.ref 2]), .row t_api_Tree (tL g (k + 1) b), .row t_bool (bitR (m / 2) (haB u i))] ∧ i ≤ m / 2, fun vs L => match vs with | [_, _, _, _, _, _, .int _ i] => m / 2 - i.toNat | _ => 0, [], [0,1,4,5], rfl, ⟨0, rfl, by rw [hu, ← hz0]; rfl, by omega⟩, ?_⟩)
    rintro vs L ⟨i, rfl, rfl, hi⟩
    have hhl := bitR_len (m / 2) (haB u i)
    by_cases him : i < m / 2
    · have hs := haB_set (m := m / 2) (i := i) u
      have e1 := hix (2 * i) (by omega)
      have e2 := hix (2 * i + 1) (by omega)
      have hui := hup i
      (refine gw ?_; refine IfB.tt (by rw [hhl]; simp; omega) ?_)
      (refine gw ?_)
      refine e1 _ ?_
      cases ha : a (2 * i) with
      | true =>
        rw [ha, Bool.true_or] at hui
        rw [hui] at hs
        (refine gw ?_; refine ⟨[], [0,1,2,3], rfl, ⟨i + 1, rfl, by rw [← hs]; rfl, by omega⟩, (by omega : m / 2 - ((i : Int) + 1).toNat < m / 2 - (i : Int).toNat)⟩)
      | false =>
        rw [ha, Bool.false_or] at hui
        rw [hui] at hs
        (refine gw ?_)
        refine e2 _ ?_
        (refine gw ?_; refine ⟨[], [0,1,2,3], rfl, ⟨i + 1, rfl, by rw [← hs]; rfl, by omega⟩, (by omega : m / 2 - ((i : Int) + 1).toNat < m / 2 - (i : Int).toNat)⟩)
    · obtain rfl : i = m / 2 := by omega
      have he := haB_end (m / 2) u
      (refine gw ?_; refine IfB.ff (by rw [hhl]; simp) ?_)
      refine gw ?_
      refine ⟨[0], [0, 1, 2], rfl, ⟨k + 1, ?_, rfl, hkc⟩, (by omega : c - ((k : Int) + 1).toNat < c - (k : Int).toNat)⟩
      rw [hm2, hsh, hU, ← he]
      rfl
  · obtain rfl : k = c := by omega
    (refine gw ?_)
    exact RetN.fz ⟨[true], [], rfl, rfl, rfl⟩
end Go.Ev.W
namespace Go.Ev.W
open Go.Ev Go.Ev.N

/-- Trees, whatever they are. -/
def eTp (p : Int × LV) : AV := eT p.1 p.2
def eSl (ts : List (Int × LV)) : AV := .agg [.lst t_api_Tree (ts.map eTp)]
def slT (g c : Nat) (b : Nat → Bool) : List (Int × LV) := (List.range c).map fun k => (((g / 2 ^ k : Nat) : Int), lvT (g / 2 ^ k) (upB b k))
theorem eS_sl (g c : Nat) (b : Nat → Bool) : eS g c b = eSl (slT g c b) := by
  unfold eS eSl tL slT
  rw [List.map_map]; rfl
theorem sN_sl : sN = eSl [] := rfl
def TpOk (p : Int × LV) : Prop := p.2.length ≤ 1000 ∧ ∀ r ∈ p.2, r.length ≤ 100000
theorem slT_ok {g c : Nat} (h : SlOk g c) (b : Nat → Bool) : ∀ p ∈ slT g c b, TpOk p := by
  intro p hp
  unfold slT at hp
  obtain ⟨k, hk, rfl⟩ := List.mem_map.1 hp
  have hk : k < c := by simpa using hk
  have hz := h.sz hk
  exact ⟨by show (lvT _ _).length ≤ 1000; rw [lvT_len]; have := hT_le (g / 2 ^ k); omega, mixT_all_row hz.1 hz.2.1 _⟩
theorem slT_len (g c : Nat) (b : Nat → Bool) : (slT g c b).length = c := by simp [slT]
theorem slT_congr {g c : Nat} {b b' : Nat → Bool} (h : ∀ x, x < g → b x = b' x) : slT g c b = slT g c b' := by
  unfold slT
  refine List.map_congr_left fun k _ => ?_
  rw [lvT_congr fun i hi => upB_congr fun x hx => h x ?_]
  subst hx
  by_cases e : x < g
  · exact e
  · have : g / 2 ^ k ≤ x / 2 ^ k := Nat.div_le_div_right (by omega)
    omega
set_option maxHeartbeats 2000000 in
theorem rSameSlots (ts us : List (Int × LV)) (ht : ts.length ≤ 1000) (hu : us.length ≤ 1000) (hto : ∀ p ∈ ts, TpOk p) (huo : ∀ p ∈ us, TpOk p) : Told P T ref8_SameSlots [] [eSl ts, eSl us] (.bool (decide (ts = us))) [] := by
  have hma : (ts.map eTp).length = ts.length := by simp
  have hmb : (us.map eTp).length = us.length := by simp
  refine told_of_ev (fn := ref8_SameSlots_fn) tabOk mixed (by kernel_rfl) (by kernel_rfl) (by kernel_rfl) (by kernel_rfl) ?_
  by_cases h1 : ts.length = us.length
  · (refine gw ?_; refine IfB.ff (by rw [hma, hmb]; simp; omega) ?_)
    (refine gw ?_; refine LoopN.mk ⟨[2,3,5], fun vs L => ∃ i : Nat, vs = [.ptr 0 0 0, .ptr 1 0 0, i64 i] ∧ i ≤ ts.length ∧ L = [.var (eSl ts), .var (eSl us)] ∧ ts.take i = us.take i, fun vs L => match vs with | [_, _, .int _ i] => ts.length - i.toNat | _ => 0, [], [0,1], rfl, ⟨0, rfl, by omega, rfl, rfl⟩, ?_⟩)
    rintro vs L ⟨i, rfl, hi, rfl, he⟩
    by_cases h2 : i < ts.length
    · have h3 : i < us.length := by omega
      have o1 := hto _ (List.getElem_mem h2)
      have o2 := huo _ (List.getElem_mem h3)
      have c1 := rSameTree (s := ts[i].1) (t := us[i].1) ts[i].2 us[i].2 (by have := o1.1; omega) (by have := o2.1; omega) o1.2 o2.2
      by_cases h4 : ts[i] = us[i]
      · rw [show decide (ts[i].1 = us[i].1 ∧ ts[i].2 = us[i].2) = true from decide_eq_true ⟨by rw [h4], by rw [h4]⟩] at c1
        (refine gw ?_; refine IfB.tt (by rw [hma]; simp; omega) ?_)
        (refine gw ?_; refine idx_map (h2) ?_)
        (refine gw ?_; refine idx_map (h3) ?_)
        (refine gw ?_; refine Choice.mk ⟨false, Choice.mk ⟨false, _, _, c1, ?_⟩⟩)
        (refine gw ?_; refine ⟨[], [0,1], rfl, ⟨i + 1, rfl, h2, rfl, take_suc_eq h2 h3 he h4⟩, (by omega : ts.length - ((i : Int) + 1).toNat < ts.length - (i : Int).toNat)⟩)
      · rw [show decide (ts[i].1 = us[i].1 ∧ ts[i].2 = us[i].2) = false from decide_eq_false fun e => h4 (Prod.ext e.1 e.2)] at c1
        rw [show decide (ts = us) = false from decide_eq_false fun e => h4 (by subst e; rfl)]
        (refine gw ?_; refine IfB.tt (by rw [hma]; simp; omega) ?_)
        (refine gw ?_; refine idx_map (h2) ?_)
        (refine gw ?_; refine idx_map (h3) ?_)
        (refine gw ?_; refine Choice.mk ⟨false, Choice.mk ⟨false, _, _, c1, ?_⟩⟩)
        (refine gw ?_; exact RetN.mk ⟨[], rfl, rfl, rfl⟩)
    · (refine gw ?_; refine IfB.ff (by rw [hma]; simp; omega) ?_)
      rw [List.take_of_length_le (by omega), List.take_of_length_le (by omega)] at he
      rw [decide_eq_true he]
      (refine gw ?_; exact RetN.mk ⟨[], rfl, rfl, rfl⟩)
  · rw [decide_eq_false fun e => h1 (by rw [e])]
    (refine gw ?_; refine IfB.tt (by rw [hma, hmb]; simp; omega) ?_)
    (refine gw ?_; exact RetN.mk ⟨[], rfl, rfl, rfl⟩)
theorem sameS_told {g c : Nat} (h : SlOk g c) (b : Nat → Bool) : Told P T ref8_SameSlots [] [eS g c b, eS g c b] (.bool true) [] := by
  have h2 := h.c17
  have t := rSameSlots (slT g c b) (slT g c b) (by rw [slT_len]; omega) (by rw [slT_len]; omega) (slT_ok h b) (slT_ok h b)
  rw [decide_eq_true rfl, ← eS_sl] at t
  exact t
theorem sameSN_told : Told P T ref8_SameSlots [] [sN, sN] (.bool true) [] := by
  have t := rSameSlots [] [] (by simp) (by simp) (by simp) (by simp)
  rw [decide_eq_true rfl] at t
  exact t
instance (g c : Int) : Decidable (SlOkI g c) := by unfold SlOkI; infer_instance
theorem pow2_mul {i : Nat} (h : i ≤ 16) : ((2 ^ i : Nat) : Int) * 2 = ((2 ^ (i + 1) : Nat) : Int) := by rw [Nat.pow_succ]; simp
set_option maxHeartbeats 4000000 in
theorem rNewSlots_told (g c : Int) (hg : -9223372036854775808 ≤ g ∧ g ≤ 9223372036854775807) (hc : -9223372036854775808 ≤ c ∧ c ≤ 9223372036854775807) : Told P T ref8_NewSlots [] [i64 g, i64 c] (if SlOkI g c then eS g.toNat c.toNat offB else sN) [] := by
  refine told_of_ev (fn := ref8_NewSlots_fn) tabOk mixed (by kernel_rfl) (by kernel_rfl) (by kernel_rfl) (by kernel_rfl) ?_
  by_cases h1 : c < 1
  · rw [if_neg fun h => by have := h.1; omega]
    (refine gw ?_; refine IfB.tt (by simp; omega) ?_)
    (refine gw ?_)
    exact RetN.fz ⟨[true], [], rfl, rfl, rfl⟩
  · (refine gw ?_; refine IfB.ff (by simp; omega) ?_)
    by_cases h2 : c > 17
    · rw [if_neg fun h => by have := h.2.1; omega]
      (refine gw ?_; refine IfB.tt (by simp; omega) ?_)
      (refine gw ?_)
      exact RetN.fz ⟨[true], [], rfl, rfl, rfl⟩
    · (refine gw ?_; refine IfB.ff (by simp; omega) ?_)
      by_cases h3 : g < 1
      · rw [if_neg fun h => by have := h.2.2.1; omega]
        (refine gw ?_; refine IfB.tt (by simp; omega) ?_)
        (refine gw ?_)
        exact RetN.fz ⟨[true], [], rfl, rfl, rfl⟩
      · (refine gw ?_; refine IfB.ff (by simp; omega) ?_)
        by_cases h4 : g > 65536
        · rw [if_neg fun h => by have := h.2.2.2.1; omega]
          (refine gw ?_; refine IfB.tt (by simp; omega) ?_)
          (refine gw ?_)
          exact RetN.fz ⟨[true], [], rfl, rfl, rfl⟩
        · (refine gw ?_; refine IfB.ff (by simp; omega) ?_)
          obtain ⟨n, rfl⟩ : ∃ n : Nat, g = n := ⟨g.toNat, by omega⟩
          obtain ⟨k, rfl⟩ : ∃ k : Nat, c = k := ⟨c.toNat, by omega⟩
          rw [Int.toNat_natCast, Int.toNat_natCast]
          (refine gw ?_; refine LoopN.mk ⟨[0,1,4,5,6], fun vs L => ∃ i : Nat, vs = [i64 n, i64 k, .ptr 0 0 0, i64 (2 ^ (i - 1) : Nat), i64 i] ∧ L = [.var (.agg [.und])] ∧ 1 ≤ i ∧ i ≤ k, fun vs L => match vs with | [_, _, _, _, .int _ i] => k - i.toNat | _ => 0, [], [0], rfl, ⟨1, rfl, rfl, by omega, by omega⟩, ?_⟩)
          rintro vs L ⟨i, rfl, rfl, hi1, hi2⟩
          obtain ⟨j, rfl⟩ : ∃ j, i = j + 1 := ⟨i - 1, by omega⟩
          rw [show j + 1 - 1 = j by omega]
          have hp : 2 ^ j ≤ 2 ^ 16 := Nat.pow_le_pow_right (by omega) (by omega)
          have hp0 : 0 < 2 ^ j := Nat.pow_pos (by omega)
          have hp2 := pow2_mul (i := j) (by omega)
          have hmd : ((n : Nat) : Int).tmod ((2 ^ j : Nat) : Int) = ((n % 2 ^ j : Nat) : Int) := (Int.ofNat_tmod n (2 ^ j)).symm
          by_cases hik : j + 1 < k
          · (refine gw ?_; refine IfB.tt (by simp; omega) ?_)
            (refine gw ?_; refine ⟨[], [0], rfl, ⟨j + 2, by rw [show j + 2 - 1 = j + 1 by omega, ← hp2]; rfl, rfl, by omega, by omega⟩, (by omega : k - (((j + 1 : Nat) : Int) + 1).toNat < k - ((j + 1 : Nat) : Int).toNat)⟩)
          · obtain rfl : k = j + 1 := by omega
            have hne : ((2 ^ j : Nat) : Int) ≠ 0 := by omega
            (refine gw ?_)
            rw [hmd]
            by_cases hz : n % 2 ^ j = 0
            · have hk : SlOkI n (j + 1 : Nat) := ⟨by omega, by omega, by omega, by omega, by rw [Int.toNat_natCast, Int.toNat_natCast, show j + 1 - 1 = j by omega]; exact hz⟩
              have d1 := rOf_told hk.ok offB
              rw [bitR_off] at d1
              rw [if_pos hk, hz]
              (refine gw ?_)
              refine Room.mk (by omega) ?_
              (refine gw ?_; refine Choice.mk ⟨false, Choice.mk ⟨false, _, _, d1, ?_⟩⟩)
              (refine gw ?_; exact RetN.mk ⟨[], rfl, rfl, rfl⟩)
            · rw [if_neg fun h => hz (by have := h.2.2.2.2; rw [Int.toNat_natCast, Int.toNat_natCast, show j + 1 - 1 = j by omega] at this; exact this)]
              generalize n % 2 ^ j = r at *
              (refine gw ?_; refine IfB.tt (by simp; omega) ?_)
              (refine gw ?_)
              exact RetN.fz ⟨[true], [], rfl, rfl, rfl⟩
end Go.Ev.W
namespace Go.Ev.W
open Go.Ev Go.Ev.N

/-- The lowest place of a class. -/
def lowS (g c : Nat) (b : Nat → Bool) (cl : Int) : Option Nat := if 0 ≤ cl ∧ cl < c then firI (g / 2 ^ cl.toNat) (upB b cl.toNat) 0 else none
set_option maxHeartbeats 2000000 in
theorem slLowest_told {g c : Nat} (h : SlOk g c) (b : Nat → Bool) (cl : Int) (hcl : -9223372036854775808 ≤ cl ∧ cl ≤ 9223372036854775807) : Told P T slots_Lowest [] [eS g c b, i64 cl] (eFir (lowS g c b cl)) [] := by
  have htl := tL_len g c b
  have h2 := h.c17
  refine told_of_ev (fn := slots_Lowest_fn) tabOk mixed (by kernel_rfl) (by kernel_rfl) (by kernel_rfl) (by kernel_rfl) ?_
  by_cases h3 : cl < 0
  · rw [show lowS g c b cl = none by unfold lowS; rw [if_neg (by omega)]]
    (refine gw ?_; refine IfB.tt (by simp; omega) ?_)
    (refine gw ?_; exact RetN.mk ⟨[], rfl, rfl, rfl⟩)
  · (refine gw ?_; refine IfB.ff (by simp; omega) ?_)
    obtain ⟨k, rfl⟩ : ∃ k : Nat, cl = k := ⟨cl.toNat, by omega⟩
    by_cases h4 : k < c
    · have hz := h.sz h4
      rw [show lowS g c b k = firI (g / 2 ^ k) (upB b k) 0 by unfold lowS; rw [if_pos (by omega), Int.toNat_natCast]]
      have c1 := treeFirst_told hz.1 hz.2.1 (upB b k) 0 (by omega)
      cases hf : firI (g / 2 ^ k) (upB b k) 0 with
      | none =>
        rw [hf] at c1
        (refine gw ?_; refine IfB.ff (by rw [htl]; simp; omega) ?_)
        (refine gw ?_)
        refine tL_idx h4 ?_
        (refine gw ?_; refine Choice.mk ⟨false, Choice.mk ⟨false, _, _, c1, ?_⟩⟩)
        (refine gw ?_; exact RetN.mk ⟨[], rfl, rfl, rfl⟩)
      | some i =>
        rw [hf] at c1
        (refine gw ?_; refine IfB.ff (by rw [htl]; simp; omega) ?_)
        (refine gw ?_)
        refine tL_idx h4 ?_
        (refine gw ?_; refine Choice.mk ⟨false, Choice.mk ⟨false, _, _, c1, ?_⟩⟩)
        (refine gw ?_; exact RetN.mk ⟨[], rfl, rfl, rfl⟩)
    · rw [show lowS g c b k = none by unfold lowS; rw [if_neg (by omega)]]
      (refine gw ?_; refine IfB.tt (by rw [htl]; simp; omega) ?_)
      (refine gw ?_; exact RetN.mk ⟨[], rfl, rfl, rfl⟩)
set_option maxHeartbeats 2000000 in
theorem rLowest_told {g c : Nat} (h : SlOk g c) (b : Nat → Bool) (cl : Int) (hcl : -9223372036854775808 ≤ cl ∧ cl ≤ 9223372036854775807) : Told P T ref8_Lowest [] [eS g c b, i64 cl] (eFir (lowS g c b cl)) [] := by
  have htl := tL_len g c b
  have h2 := h.c17
  refine told_of_ev (fn := ref8_Lowest_fn) tabOk mixed (by kernel_rfl) (by kernel_rfl) (by kernel_rfl) (by kernel_rfl) ?_
  by_cases h3 : cl < 0
  · rw [show lowS g c b cl = none by unfold lowS; rw [if_neg (by omega)]]
    (refine gw ?_; refine IfB.tt (by simp; omega) ?_)
    (refine gw ?_; exact RetN.mk ⟨[], rfl, rfl, rfl⟩)
  · (refine gw ?_; refine IfB.ff (by simp; omega) ?_)
    obtain ⟨k, rfl⟩ : ∃ k : Nat, cl = k := ⟨cl.toNat, by omega⟩
    by_cases h4 : k < c
    · have hz := h.sz h4
      rw [show lowS g c b k = firI (g / 2 ^ k) (upB b k) 0 by unfold lowS; rw [if_pos (by omega), Int.toNat_natCast]]
      have c1 := rFirst_told hz.1 hz.2.1 (upB b k) 0 (by omega)
      cases hf : firI (g / 2 ^ k) (upB b k) 0 with
      | none =>
        rw [hf] at c1
        (refine gw ?_; refine IfB.ff (by rw [htl]; simp; omega) ?_)
        (refine gw ?_)
        refine tL_idx h4 ?_
        (refine gw ?_; refine Choice.mk ⟨false, Choice.mk ⟨false, _, _, c1, ?_⟩⟩)
        (refine gw ?_; exact RetN.mk ⟨[], rfl, rfl, rfl⟩)
      | some i =>
        rw [hf] at c1
        (refine gw ?_; refine IfB.ff (by rw [htl]; simp; omega) ?_)
        (refine gw ?_)
        refine tL_idx h4 ?_
        (refine gw ?_; refine Choice.mk ⟨false, Choice.mk ⟨false, _, _, c1, ?_⟩⟩)
        (refine gw ?_; exact RetN.mk ⟨[], rfl, rfl, rfl⟩)
    · rw [show lowS g c b k = none by unfold lowS; rw [if_neg (by omega)]]
      (refine gw ?_; refine IfB.tt (by rw [htl]; simp; omega) ?_)
      (refine gw ?_; exact RetN.mk ⟨[], rfl, rfl, rfl⟩)
set_option maxHeartbeats 2000000 in
theorem rUse_told {g c : Nat} (h : SlOk g c) (b : Nat → Bool) (f n : Int) (hf : -9223372036854775808 ≤ f ∧ f ≤ 9223372036854775807) (on : Bool) :
    Told P T ref8_Use [] [eS g c b, i64 f, i64 n, .bool on] (eS g c (setZ b f n on)) [] := by
  have h1 := h.c1
  have h2 := h.c17
  have htl := tL_len g c b
  have hz := h.sz (k := 0) (by omega)
  have hg0 : g / 2 ^ 0 = g := by rw [Nat.pow_zero, Nat.div_one]
  have hT0 : tS g b 0 = eTr g b := by unfold tS; rw [hg0]; rfl
  have c1 := rSetTree_told h.g1 h.g2 b f n hf on
  have c2 := rBits_told h.g1 h.g2 (setZ b f n on)
  have c3 : Told P T ref8_Of [] [.lst t_bool (bitR g (setZ b f n on)), i64 ((tL g c b).length : Nat)] (eS g c (setZ b f n on)) [] := by
    rw [htl]; exact rOf_told h (setZ b f n on)
  refine told_of_ev (fn := ref8_Use_fn) tabOk mixed (by kernel_rfl) (by kernel_rfl) (by kernel_rfl) (by kernel_rfl) ?_
  (refine gw ?_; refine IfB.ff (by rw [htl]; simp; omega) ?_)
  (refine gw ?_)
  refine tL_idx (k := 0) (by omega) ?_
  rw [hT0]
  (refine gw ?_; refine Choice.mk ⟨false, Choice.mk ⟨false, _, _, c1, ?_⟩⟩)
  (refine gw ?_; refine Choice.mk ⟨false, Choice.mk ⟨false, _, _, c2, ?_⟩⟩)
  (refine gw ?_; refine Choice.mk ⟨false, Choice.mk ⟨false, _, _, c3, ?_⟩⟩)
  (refine gw ?_; exact RetN.mk ⟨[], rfl, rfl, rfl⟩)
end Go.Ev.W
namespace Go.Ev.W
open Go.Ev Go.Ev.N

theorem rowB_bT {v : LV} (h : 0 < v.length) (i : Nat) : rowB v[0] i = bT v i := by
  unfold rowB bT
  rw [Int.toNat_natCast, show v.getD 0 [] = v[0] by rw [List.getD_eq_getElem?_getD, List.getElem?_eq_getElem h]; rfl]
  by_cases hi : i < 64 * v[0].length
  · rw [decide_eq_true (by omega), Bool.true_and]
  · rw [decide_eq_false (by omega), Bool.false_and, List.getD_eq_getElem?_getD, List.getElem?_eq_none (by omega)]
    simp
set_option maxHeartbeats 1000000 in
theorem rBitsG_told {n : Nat} (hn2 : n ≤ 65536) {v : LV} (hv : TpOk ((n : Int), v)) (hw : IsW v) (h0 : 0 < v.length) : Told P T ref3_Bits [] [eT n v] (.ref 0) [.row t_bool (bitR n (bT v))] := by
  have hvl : (v.map lR).length = v.length := by simp
  have hr := hv.2 _ (List.getElem_mem h0)
  refine told_of_ev (fn := ref3_Bits_fn) tabOk mixed (by kernel_rfl) (by kernel_rfl) (by kernel_rfl) (by kernel_rfl) ?_
  (refine gw ?_; refine LoopN.mk ⟨[1,3,4], fun vs L => ∃ k : Nat, vs = [.ptr 0 0 0, .ref 1, i64 k] ∧ L = [.var (eT n v), .row t_bool (bitR k (bT v))] ∧ k ≤ n, fun vs L => match vs with | [_, _, .int _ i] => n - i.toNat | _ => 0, [], [0,2], rfl, ⟨0, rfl, rfl, by omega⟩, ?_⟩)
  rintro vs L ⟨k, rfl, rfl, hk⟩
  by_cases h1 : k < n
  · have c1 := rHas_told (r := v[0]) (by omega) (fun u hu => hw _ (List.getElem_mem h0) u hu) (k : Nat) (by omega)
    rw [rowB_bT h0] at c1
    have hbl := bitR_len k (bT v)
    have hsu := bitR_suc k (bT v)
    (refine gw ?_; refine IfB.tt (by simp; omega) ?_)
    (refine gw ?_; refine IfB.tt (by rw [hvl]; simp; omega) ?_)
    (refine gw ?_; refine idx_map (h0) ?_)
    (refine gw ?_; refine Choice.mk ⟨false, Choice.mk ⟨false, _, _, c1, ?_⟩⟩)
    (refine gw ?_)
    refine Room.mk (by rw [hbl]; simp; omega) ?_
    (refine gw ?_)
    refine ⟨[], [0, 3], rfl, ⟨k + 1, rfl, by rw [hsu]; rfl, by omega⟩, (by omega : n - ((k : Int) + 1).toNat < n - (k : Int).toNat)⟩
  · have e : k = n := by omega
    (refine gw ?_; refine IfB.ff (by simp; omega) ?_)
    rw [e]
    (refine gw ?_; exact RetN.mk ⟨[1], rfl, rfl, rfl⟩)
theorem rBitsNo_told {s : Int} : Told P T ref3_Bits [] [eT s []] (.ref 0) [.row t_bool []] := by
  refine told_of_ev (fn := ref3_Bits_fn) tabOk mixed (by kernel_rfl) (by kernel_rfl) (by kernel_rfl) (by kernel_rfl) ?_
  (refine gw ?_; refine LoopN.mk ⟨[1,3,4], fun vs L => vs = [.ptr 0 0 0, .ref 1, i64 0] ∧ L = [.var (eT s []), .row t_bool []], fun vs L => match vs with | [_, _, .int _ i] => 0 | _ => 0, [], [0,2], rfl, ⟨rfl, rfl⟩, ?_⟩)
  rintro vs L ⟨rfl, rfl⟩
  by_cases h : 0 < s
  · (refine gw ?_; refine IfB.tt (by simp; omega) ?_)
    (refine gw ?_; exact RetN.mk ⟨[1], rfl, rfl, rfl⟩)
  · (refine gw ?_; refine IfB.ff (by simp; omega) ?_)
    (refine gw ?_; exact RetN.mk ⟨[1], rfl, rfl, rfl⟩)
theorem rMadeE_told {n : Int} : Told P T ref3_Made [] [i64 n, .lst t_bool []] (eT 0 []) [] := by
  by_cases h1 : n < 1
  · exact rMadeNo_told (.inl h1) []
  · by_cases h2 : n > 65536
    · exact rMadeNo_told (.inr h2) []
    · refine told_of_ev (fn := ref3_Made_fn) tabOk mixed (by kernel_rfl) (by kernel_rfl) (by kernel_rfl) (by kernel_rfl) ?_
      (refine gw ?_; refine IfB.ff (by simp; omega) ?_)
      (refine gw ?_; refine IfB.ff (by simp; omega) ?_)
      (refine gw ?_)
      exact RetN.fz ⟨[true], [], rfl, rfl, rfl⟩
set_option maxHeartbeats 1000000 in
theorem rMayTree_told {s : Int} {v : LV} (hs : -9223372036854775808 ≤ s ∧ s ≤ 9223372036854775807) (hv : TpOk (s, v)) (hw : IsW v) : Told P T ref3_MayTree [] [eT s v] (.bool (mayF s v)) [] := by
  by_cases h1 : s < 1
  · rw [show mayF s v = false by unfold mayF; rw [decide_eq_false (by omega)]; rfl]
    refine told_of_ev (fn := ref3_MayTree_fn) tabOk mixed (by kernel_rfl) (by kernel_rfl) (by kernel_rfl) (by kernel_rfl) ?_
    (refine gw ?_; refine IfB.ff (by simp; omega) ?_)
    (refine gw ?_; exact RetN.mk ⟨[], rfl, rfl, rfl⟩)
  · by_cases h2 : s > 65536
    · rw [show mayF s v = false by unfold mayF; rw [decide_eq_false (by omega)]; rfl]
      refine told_of_ev (fn := ref3_MayTree_fn) tabOk mixed (by kernel_rfl) (by kernel_rfl) (by kernel_rfl) (by kernel_rfl) ?_
      (refine gw ?_; refine IfB.tt (by simp; omega) ?_)
      (refine gw ?_; refine IfB.ff (by simp; omega) ?_)
      (refine gw ?_; exact RetN.mk ⟨[], rfl, rfl, rfl⟩)
    · obtain ⟨n, rfl⟩ : ∃ n : Nat, s = n := ⟨s.toNat, by omega⟩
      have hh := hT_le n
      by_cases h0 : 0 < v.length
      · have c1 := rBitsG_told (n := n) (by omega) hv hw h0
        have c2 := rMade_told (n := n) (by omega) (by omega) (bT v)
        have c3 := rSameTree (s := n) (t := n) v (lvT n (bT v)) (by have := hv.1; simp only at this; omega) (by rw [lvT_len]; omega) hv.2 (mixT_all_row (by omega) (by omega) _)
        have e : mayF n v = decide ((n : Int) = n ∧ v = lvT n (bT v)) := by
          unfold mayF
          rw [decide_eq_true (show 1 ≤ (n : Int) ∧ (n : Int) ≤ 65536 by omega), Bool.true_and, Int.toNat_natCast]
          simp
        rw [e]
        refine told_of_ev (fn := ref3_MayTree_fn) tabOk mixed (by kernel_rfl) (by kernel_rfl) (by kernel_rfl) (by kernel_rfl) ?_
        (refine gw ?_; refine IfB.tt (by simp; omega) ?_)
        (refine gw ?_; refine IfB.tt (by simp; omega) ?_)
        (refine gw ?_; refine Choice.mk ⟨false, Choice.mk ⟨false, _, _, c1, ?_⟩⟩)
        (refine gw ?_; refine Choice.mk ⟨false, Choice.mk ⟨false, _, _, c2, ?_⟩⟩)
        (refine gw ?_; refine Choice.mk ⟨false, Choice.mk ⟨false, _, _, c3, ?_⟩⟩)
        (refine gw ?_; exact RetN.mk ⟨[], rfl, rfl, rfl⟩)
      · obtain rfl : v = [] := List.eq_nil_of_length_eq_zero (by omega)
        have e : mayF n [] = false := by
          unfold mayF
          rw [Int.toNat_natCast, show decide (([] : LV) = lvT n (bT [])) = false from decide_eq_false fun e => by
            have := lvT_len n (bT [])
            rw [← e] at this
            simp at this
            omega, Bool.and_false]
        have c1 := rBitsNo_told (s := n)
        have c2 := rMadeE_told (n := n)
        have c3 := rSameTree (s := n) (t := 0) [] [] (by simp) (by simp) (by simp) (by simp)
        rw [show decide ((n : Int) = 0 ∧ ([] : LV) = []) = false from decide_eq_false fun e => by have := e.1; omega] at c3
        rw [e]
        refine told_of_ev (fn := ref3_MayTree_fn) tabOk mixed (by kernel_rfl) (by kernel_rfl) (by kernel_rfl) (by kernel_rfl) ?_
        (refine gw ?_; refine IfB.tt (by simp; omega) ?_)
        (refine gw ?_; refine IfB.tt (by simp; omega) ?_)
        (refine gw ?_; refine Choice.mk ⟨false, Choice.mk ⟨false, _, _, c1, ?_⟩⟩)
        (refine gw ?_; refine Choice.mk ⟨false, Choice.mk ⟨false, _, _, c2, ?_⟩⟩)
        (refine gw ?_; refine Choice.mk ⟨false, Choice.mk ⟨false, _, _, c3, ?_⟩⟩)
        (refine gw ?_; exact RetN.mk ⟨[], rfl, rfl, rfl⟩)
/-- Is one of the two below set? -/
def prB (b : Nat → Bool) (i : Nat) : Bool := b (2 * i) || b (2 * i + 1)
set_option maxHeartbeats 1000000 in
theorem slAbove_told {n m : Nat} (hn : 1 ≤ n) (hn2 : n ≤ 65536) (hm : 1 ≤ m) (hm2 : m ≤ 65536) (a b : Nat → Bool) (q : Bool) (hq : q = true ↔ (n * 2 = m ∧ ∀ i, i < n → a i = prB b i)) : Told P T slots_above [] [eTr n a, eTr m b] (.bool q) [] := by
  by_cases h1 : n * 2 = m
  · subst h1
    refine told_of_ev (fn := slots_above_fn) tabOk mixed (by kernel_rfl) (by kernel_rfl) (by kernel_rfl) (by kernel_rfl) ?_
    (refine gw ?_; refine IfB.ff (by simp; omega) ?_)
    (refine gw ?_; refine LoopN.mk ⟨[2,3,18,19], fun vs L => ∃ i : Nat, vs = [.ptr 0 0 0, .ptr 1 0 0, i64 n, i64 i] ∧ L = [.var (eTr n a), .var (eTr (n * 2) b)] ∧ i ≤ n ∧ (∀ j, j < i → a j = prB b j), fun vs L => match vs with | [_, _, _, .int _ i] => n - i.toNat | _ => 0, [], [0,1], rfl, ⟨0, rfl, rfl, by omega, fun j h => by omega⟩, ?_⟩)
    rintro vs L ⟨i, rfl, rfl, hi, hall⟩
    by_cases h2 : i < n
    · have d1 := treeHas_told hn hn2 a i (by omega)
      have d2 := slTaken_told hm hm2 b i (by omega)
      rw [hasT_nat h2] at d1
      rw [show hasT (n * 2) b (2 * (i : Int)) = b (2 * i) from hasT_nat (x := 2 * i) (by omega), show hasT (n * 2) b (2 * (i : Int) + 1) = b (2 * i + 1) from hasT_nat (x := 2 * i + 1) (by omega), show (b (2 * i) || b (2 * i + 1)) = prB b i from rfl] at d2
      (refine gw ?_; refine IfB.tt (by simp; omega) ?_)
      by_cases h3 : a i = prB b i
      · rw [← h3] at d2
        have hall2 : ∀ j, j < i + 1 → a j = prB b j := fun j hj => by
          by_cases e : j = i
          · rw [e]; exact h3
          · exact hall j (by omega)
        (refine gw ?_; refine Choice.mk ⟨false, Choice.mk ⟨false, _, _, d1, ?_⟩⟩)
        (refine gw ?_; refine Choice.mk ⟨false, Choice.mk ⟨false, _, _, d2, ?_⟩⟩)
        (refine gw ?_; refine ⟨[], [0,1], rfl, ⟨i + 1, rfl, rfl, h2, hall2⟩, (by omega : n - ((i : Int) + 1).toNat < n - (i : Int).toNat)⟩)
      · rw [show q = false from Bool.eq_false_iff.2 fun e => h3 ((hq.1 e).2 i h2)]
        (refine gw ?_; refine Choice.mk ⟨false, Choice.mk ⟨false, _, _, d1, ?_⟩⟩)
        (refine gw ?_; refine Choice.mk ⟨false, Choice.mk ⟨false, _, _, d2, ?_⟩⟩)
        (refine gw ?_; refine IfB.tt (by simpa using h3) ?_)
        (refine gw ?_; exact RetN.mk ⟨[], rfl, rfl, rfl⟩)
    · rw [show q = true from hq.2 ⟨rfl, fun j hj => hall j (by omega)⟩]
      (refine gw ?_; refine IfB.ff (by simp; omega) ?_)
      (refine gw ?_; exact RetN.mk ⟨[], rfl, rfl, rfl⟩)
  · rw [show q = false from Bool.eq_false_iff.2 fun e => h1 (hq.1 e).1]
    refine told_of_ev (fn := slots_above_fn) tabOk mixed (by kernel_rfl) (by kernel_rfl) (by kernel_rfl) (by kernel_rfl) ?_
    (refine gw ?_; refine IfB.ff (by simp; omega) ?_)
    (refine gw ?_; refine IfB.tt (by simp; omega) ?_)
    (refine gw ?_; exact RetN.mk ⟨[], rfl, rfl, rfl⟩)
end Go.Ev.W
namespace Go.Ev.W
open Go.Ev Go.Ev.N

def TpW (p : Int × LV) : Prop := TpOk p ∧ IsW p.2 ∧ -9223372036854775808 ≤ p.1 ∧ p.1 ≤ 9223372036854775807
/-- May slots be? -/
def mayS (ts : List (Int × LV)) : Bool := match ts with
  | [] => false
  | (s, v) :: us => decide (SlOkI s (us.length + 1 : Nat)) && decide ((s, v) :: us = slT s.toNat (us.length + 1) (bT v))
theorem slT_get {g c : Nat} {b : Nat → Bool} {k : Nat} (h : k < (slT g c b).length) : (slT g c b)[k] = (((g / 2 ^ k : Nat) : Int), lvT (g / 2 ^ k) (upB b k)) := by simp [slT]
theorem mayS_sl {g c : Nat} (h : SlOk g c) (b : Nat → Bool) : mayS (slT g c b) = true := by
  have h1 := h.c1
  have hl := slT_len g c b
  have h0 : 0 < (slT g c b).length := by omega
  have e0 := slT_get h0
  have eg : g / 2 ^ 0 = g := by rw [Nat.pow_zero, Nat.div_one]
  rw [eg] at e0
  have eb : slT g c b = slT g c (bT (lvT g b)) := slT_congr fun x hx => (bT_lv b hx).symm
  match hs : slT g c b, h0 with
  | (s, v) :: us, h0 =>
    have e1 : (s, v) = ((g : Int), lvT g b) := by
      have : (slT g c b)[0] = (s, v) := by simp [hs]
      rw [← this, e0]; rfl
    have e2 : us.length + 1 = c := by rw [← hl, hs]; rfl
    injection e1 with e3 e4
    subst e3 e4
    unfold mayS
    simp only
    rw [e2, Int.toNat_natCast, decide_eq_true h.int, Bool.true_and]
    exact decide_eq_true (by rw [← hs, ← eb])
theorem mayS_iff {s : Int} {v : LV} {us : List (Int × LV)} : mayS ((s, v) :: us) = true ↔ SlOkI s (us.length + 1 : Nat) ∧ (s, v) :: us = slT s.toNat (us.length + 1) (bT v) := by
  unfold mayS
  simp only
  rw [Bool.and_eq_true, decide_eq_true_iff, decide_eq_true_iff]
theorem mayF_iff {s : Int} {v : LV} : mayF s v = true ↔ (1 ≤ s ∧ s ≤ 65536) ∧ v = lvT s.toNat (bT v) := by
  unfold mayF
  rw [Bool.and_eq_true, decide_eq_true_iff, decide_eq_true_iff]
theorem slMayE_told : Told P T slots_May [] [eSl []] (.bool (mayS [])) [] := by
  refine told_of_ev (fn := slots_May_fn) tabOk mixed (by kernel_rfl) (by kernel_rfl) (by kernel_rfl) (by kernel_rfl) ?_
  (refine gw ?_; exact RetN.mk ⟨[], rfl, rfl, rfl⟩)
set_option maxHeartbeats 4000000 in
theorem slMayC_told (ts : List (Int × LV)) (s : Int) (v : LV) (us : List (Int × LV)) (hts : ts = (s, v) :: us) (hl : ts.length ≤ 1000) (ht : ∀ p ∈ ts, TpW p) : Told P T slots_May [] [eSl ts] (.bool (mayS ts)) [] := by
  have hma : (ts.map eTp).length = ts.length := by simp
  have hw0 := ht (s, v) (by simp [hts])
  have hlen : ts.length = us.length + 1 := by rw [hts]; rfl
  have h0 : 0 < ts.length := by omega
  have hts0 : ts[0] = (s, v) := by simp [hts]
  have hiff := mayS_iff (s := s) (v := v) (us := us)
  rw [← hts, ← hlen] at hiff
  have hx0 : ∀ Q : AV → Prop, Q (eT s v) → Idx (ts.map eTp) (0 : Int) Q := fun Q q => idx_map (f := eTp) (l := ts) (k := 0) h0 (by rw [hts0]; exact q)
  generalize mayS ts = q at *
  clear hts
  by_cases hs : SlOkI s (ts.length : Nat)
  · obtain ⟨g, rfl⟩ : ∃ g : Nat, s = g := ⟨s.toNat, by have := hs.2.2.1; omega⟩
    rw [Int.toNat_natCast] at hiff
    have hok := hs.ok
    have hsl := slT_len g ts.length (bT v)
    have hiff : q = true ↔ ts = slT g ts.length (bT v) := ⟨fun h => (hiff.1 h).2, fun h => hiff.2 ⟨hs, h⟩⟩
    have c1 : Told P T slots_New [] [i64 g, i64 ((ts.map eTp).length : Nat)] (eS g ts.length offB) [] := by rw [hma]; exact slNew_told hok
    have htl := tL_len g ts.length offB
    have h17 := hok.c17
    generalize hb : bT v = b at *
    refine told_of_ev (fn := slots_May_fn) tabOk mixed (by kernel_rfl) (by kernel_rfl) (by kernel_rfl) (by kernel_rfl) ?_
    (refine gw ?_; refine IfB.ff (by rw [hma]; exact beq_eq_false_iff_ne.2 (by omega)) ?_)
    (refine gw ?_)
    refine hx0 _ ?_
    (refine gw ?_; refine Choice.mk ⟨false, Choice.mk ⟨false, _, _, c1, ?_⟩⟩)
    (refine gw ?_; refine IfB.ff (by rw [hma, htl]; simp) ?_)
    (refine gw ?_; refine LoopN.mk ⟨[1,25,26,27], fun vs L => ∃ k : Nat, vs = [.ptr 0 0 0, .lst t_api_Tree (ts.map eTp), i64 (ts.map eTp).length, i64 k] ∧ L = [.var (eSl ts)] ∧ k ≤ ts.length ∧ (∀ j (h : j < ts.length), j < k → ts[j] = (((g / 2 ^ j : Nat) : Int), lvT (g / 2 ^ j) (upB b j))), fun vs L => match vs with | [_, _, _, .int _ i] => ts.length - i.toNat | _ => 0, [], [0], rfl, ⟨0, rfl, rfl, by omega, fun j h h2 => by omega⟩, ?_⟩)
    rintro vs L ⟨k, rfl, rfl, hk, hall⟩
    by_cases hkl : k < ts.length
    · have hwk := ht _ (List.getElem_mem hkl)
      have d1 := treeMay_told (s := ts[k].1) hwk.2.2 (v := ts[k].2) hwk.1.1 hwk.1.2 hwk.2.1
      have hxk : ∀ Q : AV → Prop, Q (eT ts[k].1 ts[k].2) → Idx (ts.map eTp) ((k : Nat) : Int) Q := fun Q q => idx_map (f := eTp) hkl q
      have hz := hok.sz hkl
      have hfin : ts[k] ≠ (((g / 2 ^ k : Nat) : Int), lvT (g / 2 ^ k) (upB b k)) → q = false := fun e => Bool.eq_false_iff.2 fun hq => e (by
        have e1 := hiff.1 hq
        have e2 : ts[k] = (slT g ts.length b)[k]'(by rw [hsl]; exact hkl) := List.getElem_of_eq e1 hkl
        rw [e2, slT_get])
      (refine gw ?_; refine IfB.tt (by rw [hma]; simp; omega) ?_)
      (refine gw ?_)
      refine hxk _ ?_
      cases hmf : mayF ts[k].1 ts[k].2 with
      | false =>
        rw [hmf] at d1
        rw [hfin fun e => by rw [e, mayF_lv hz.1 hz.2.1] at hmf; cases hmf]
        (refine gw ?_; refine Choice.mk ⟨false, Choice.mk ⟨false, _, _, d1, ?_⟩⟩)
        (refine gw ?_; exact RetN.mk ⟨[], rfl, rfl, rfl⟩)
      | true =>
        rw [hmf] at d1
        obtain ⟨⟨f1, f2⟩, f3⟩ := mayF_iff.1 hmf
        have hext : ∀ j (h : j < ts.length), j < k + 1 → (ts[k] = (((g / 2 ^ k : Nat) : Int), lvT (g / 2 ^ k) (upB b k))) → ts[j] = (((g / 2 ^ j : Nat) : Int), lvT (g / 2 ^ j) (upB b j)) := fun j h h2 e => by
          by_cases ej : j = k
          · subst ej; exact e
          · exact hall j h (by omega)
        by_cases hk0 : k = 0
        · subst hk0
          have e0 : ts[0] = (((g / 2 ^ 0 : Nat) : Int), lvT (g / 2 ^ 0) (upB b 0)) := by
            rw [hts0] at f3 ⊢
            rw [Nat.pow_zero, Nat.div_one]
            show ((g : Int), v) = ((g : Int), lvT g b)
            have f3 : v = lvT g (bT v) := f3
            rw [hb] at f3
            rw [← f3]
          (refine gw ?_; refine Choice.mk ⟨false, Choice.mk ⟨false, _, _, d1, ?_⟩⟩)
          (refine gw ?_; refine ⟨[], [0], rfl, ⟨1, rfl, rfl, by omega, fun j h h2 => hext j h h2 e0⟩, (by omega : ts.length - (((0 : Nat) : Int) + 1).toNat < ts.length - ((0 : Nat) : Int).toNat)⟩)
        · obtain ⟨k', rfl⟩ : ∃ k', k = k' + 1 := ⟨k - 1, by omega⟩
          have hk'l : k' < ts.length := by omega
          have hz' := hok.sz hk'l
          have hprev := hall k' hk'l (by omega)
          have hxp : ∀ Q : AV → Prop, Q (eTr (g / 2 ^ k') (upB b k')) → Idx (ts.map eTp) ((k' : Nat) : Int) Q := fun Q q => idx_map (f := eTp) hk'l (by rw [hprev]; exact q)
          obtain ⟨n, hn⟩ : ∃ n : Nat, ts[k' + 1].1 = n := ⟨ts[k' + 1].1.toNat, by omega⟩
          have hhalf := hok.half (k := k') (by omega)
          rw [hn, Int.toNat_natCast] at f3
          rw [hn] at d1 f1 f2
          have hte : eT ts[k' + 1].1 ts[k' + 1].2 = eTr n (bT ts[k' + 1].2) := by unfold eTr; rw [hn, ← f3]
          have hcond : (n * 2 = g / 2 ^ k' ∧ ∀ i, i < n → bT ts[k' + 1].2 i = prB (upB b k') i) ↔ ts[k' + 1] = (((g / 2 ^ (k' + 1) : Nat) : Int), lvT (g / 2 ^ (k' + 1)) (upB b (k' + 1))) := by
            constructor
            · rintro ⟨e1, e2⟩
              have e3 : n = g / 2 ^ (k' + 1) := by omega
              refine Prod.ext ?_ ?_
              · rw [hn, e3]
              · rw [f3, ← e3]
                exact lvT_congr e2
            · intro e
              have e3 : n = g / 2 ^ (k' + 1) := by
                have : ts[k' + 1].1 = ((g / 2 ^ (k' + 1) : Nat) : Int) := by rw [e]
                rw [hn] at this
                exact Int.ofNat.inj this
              refine ⟨by omega, fun i hi => ?_⟩
              have e4 : ts[k' + 1].2 = lvT (g / 2 ^ (k' + 1)) (upB b (k' + 1)) := by rw [e]
              rw [e4, bT_lv _ (by omega)]; rfl
          have d2 := slAbove_told (n := n) (m := g / 2 ^ k') (by omega) (by omega) hz'.1 hz'.2.1 (bT ts[k' + 1].2) (upB b k') (decide (n * 2 = g / 2 ^ k' ∧ ts[k' + 1] = (((g / 2 ^ (k' + 1) : Nat) : Int), lvT (g / 2 ^ (k' + 1)) (upB b (k' + 1))))) (by
            rw [decide_eq_true_iff]
            exact ⟨fun h => hcond.2 h.2, fun h => ⟨h.1, hcond.1 h⟩⟩)
          have d1 := may_eTr (n := n) (by omega) (by omega) (bT ts[k' + 1].2)
          rw [hte]
          by_cases hc : n * 2 = g / 2 ^ k' ∧ ts[k' + 1] = (((g / 2 ^ (k' + 1) : Nat) : Int), lvT (g / 2 ^ (k' + 1)) (upB b (k' + 1)))
          · rw [decide_eq_true hc] at d2
            (refine gw ?_; refine Choice.mk ⟨false, Choice.mk ⟨false, _, _, d1, ?_⟩⟩)
            (refine gw ?_)
            rw [show ((k' + 1 : Nat) : Int) - 1 = (k' : Int) by omega]
            (refine gw ?_)
            refine hxp _ ?_
            (refine gw ?_; refine Choice.mk ⟨false, Choice.mk ⟨false, _, _, d2, ?_⟩⟩)
            (refine gw ?_; refine ⟨[], [0], rfl, ⟨k' + 1 + 1, rfl, rfl, by omega, fun j h h2 => hext j h h2 hc.2⟩, (by omega : ts.length - (((k' + 1 : Nat) : Int) + 1).toNat < ts.length - ((k' + 1 : Nat) : Int).toNat)⟩)
          · rw [decide_eq_false hc] at d2
            rw [hfin fun e => hc (hcond.symm.1 e |>.1 |> fun h => ⟨h, e⟩)]
            (refine gw ?_; refine Choice.mk ⟨false, Choice.mk ⟨false, _, _, d1, ?_⟩⟩)
            (refine gw ?_)
            rw [show ((k' + 1 : Nat) : Int) - 1 = (k' : Int) by omega]
            (refine gw ?_)
            refine hxp _ ?_
            (refine gw ?_; refine Choice.mk ⟨false, Choice.mk ⟨false, _, _, d2, ?_⟩⟩)
            (refine gw ?_; exact RetN.mk ⟨[], rfl, rfl, rfl⟩)
    · have hkk : k = ts.length := by omega
      rw [show q = true from hiff.2 (by
        apply List.ext_getElem (by rw [hsl])
        intro j h1 h2
        rw [slT_get]
        exact hall j h1 (by omega))]
      (refine gw ?_; refine IfB.ff (by rw [hma]; simp; omega) ?_)
      (refine gw ?_)
      rw [hma]
      (refine gw ?_; refine IfB.tt (by simp; omega) ?_)
      (refine gw ?_)
      rw [hma]
      rw [show decide (((ts.length : Nat) : Int) ≤ 17) = true from decide_eq_true (by omega)]
      (refine gw ?_; exact RetN.mk ⟨[], rfl, rfl, rfl⟩)
  · rw [show q = false from Bool.eq_false_iff.2 fun e => hs (hiff.1 e).1]
    have c1 : Told P T slots_New [] [i64 s, i64 ((ts.map eTp).length : Nat)] sN [] := by rw [hma]; exact slNewNo_told hs hw0.2.2 (by omega)
    refine told_of_ev (fn := slots_May_fn) tabOk mixed (by kernel_rfl) (by kernel_rfl) (by kernel_rfl) (by kernel_rfl) ?_
    (refine gw ?_; refine IfB.ff (by rw [hma]; exact beq_eq_false_iff_ne.2 (by omega)) ?_)
    (refine gw ?_)
    refine hx0 _ ?_
    (refine gw ?_; refine Choice.mk ⟨false, Choice.mk ⟨false, _, _, c1, ?_⟩⟩)
    (refine gw ?_; refine IfB.tt (by rw [hma]; simp; omega) ?_)
    (refine gw ?_; exact RetN.mk ⟨[], rfl, rfl, rfl⟩)
theorem slMay_told (ts : List (Int × LV)) (hl : ts.length ≤ 1000) (ht : ∀ p ∈ ts, TpW p) : Told P T slots_May [] [eSl ts] (.bool (mayS ts)) [] := by
  match hts : ts with
  | [] => exact slMayE_told
  | (s, v) :: us => exact slMayC_told _ s v us rfl hl ht
theorem mayS_first {s : Int} {v : LV} {us : List (Int × LV)} (h : mayS ((s, v) :: us) = true) : mayF s v = true := by
  obtain ⟨q1, q2⟩ := mayS_iff.1 h
  rw [mayF_iff]
  refine ⟨⟨q1.2.2.1, q1.2.2.2.1⟩, ?_⟩
  have hl := slT_len s.toNat (us.length + 1) (bT v)
  have h0 : 0 < ((s, v) :: us).length := by simp
  have e : ((s, v) :: us)[0] = (slT s.toNat (us.length + 1) (bT v))[0]'(by omega) := List.getElem_of_eq q2 h0
  rw [slT_get, Nat.pow_zero, Nat.div_one] at e
  have e2 : ((s, v) :: us)[0].2 = lvT s.toNat (upB (bT v) 0) := by rw [e]
  exact e2
set_option maxHeartbeats 4000000 in
theorem rMaySlots_told (ts : List (Int × LV)) (hl : ts.length ≤ 1000) (ht : ∀ p ∈ ts, TpW p) : Told P T ref8_MaySlots [] [eSl ts] (.bool (mayS ts)) [] := by
  match hts : ts with
  | [] =>
    refine told_of_ev (fn := ref8_MaySlots_fn) tabOk mixed (by kernel_rfl) (by kernel_rfl) (by kernel_rfl) (by kernel_rfl) ?_
    (refine gw ?_; exact RetN.mk ⟨[], rfl, rfl, rfl⟩)
  | (s, v) :: us =>
    have hw0 := ht (s, v) (by simp)
    have hiff := mayS_iff (s := s) (v := v) (us := us)
    have hma : (((s, v) :: us).map eTp).length = us.length + 1 := by simp
    have hln : ((s, v) :: us).length = us.length + 1 := rfl
    rw [hln] at hl
    have hx0 : ∀ Q : AV → Prop, Q (eT s v) → Idx (((s, v) :: us).map eTp) (0 : Int) Q := fun Q q => idx_map (f := eTp) (l := (s, v) :: us) (k := 0) (by simp) q
    have d1 := rMayTree_told hw0.2.2 hw0.1 hw0.2.1
    have d2 : Told P T ref8_NewSlots [] [i64 s, i64 ((((s, v) :: us).map eTp).length : Nat)] (if SlOkI s (us.length + 1 : Nat) then eS s.toNat (us.length + 1) offB else sN) [] := by
      rw [hma]
      have := rNewSlots_told s (us.length + 1 : Nat) hw0.2.2 (by omega)
      rw [Int.toNat_natCast] at this
      exact this
    have hfirst := mayS_first (s := s) (v := v) (us := us)
    have hok : ∀ p ∈ (s, v) :: us, TpOk p := fun p hp => (ht p hp).1
    generalize hgen : (s, v) :: us = ts at *
    generalize mayS ts = q at *
    by_cases h17 : us.length + 1 ≤ 17
    · cases hmf : mayF s v with
      | false =>
        rw [hmf] at d1
        rw [show q = false from Bool.eq_false_iff.2 fun hq => by have := hfirst hq; rw [hmf] at this; cases this]
        refine told_of_ev (fn := ref8_MaySlots_fn) tabOk mixed (by kernel_rfl) (by kernel_rfl) (by kernel_rfl) (by kernel_rfl) ?_
        (refine gw ?_; refine IfB.ff (by rw [hma]; simp; omega) ?_)
        (refine gw ?_; refine IfB.ff (by rw [hma]; simp; omega) ?_)
        (refine gw ?_)
        refine hx0 _ ?_
        (refine gw ?_; refine Choice.mk ⟨false, Choice.mk ⟨false, _, _, d1, ?_⟩⟩)
        (refine gw ?_; exact RetN.mk ⟨[], rfl, rfl, rfl⟩)
      | true =>
        rw [hmf] at d1
        obtain ⟨⟨f1, f2⟩, f3⟩ := mayF_iff.1 hmf
        obtain ⟨g, rfl⟩ : ∃ g : Nat, s = g := ⟨s.toNat, by omega⟩
        rw [Int.toNat_natCast] at *
        by_cases hs : SlOkI g (us.length + 1 : Nat)
        · rw [if_pos hs] at d2
          have hsl := hs.ok
          have hiff : q = true ↔ ts = slT g (us.length + 1) (bT v) := ⟨fun h => (hiff.1 h).2, fun h => hiff.2 ⟨hs, h⟩⟩
          have htl := tL_len g (us.length + 1) offB
          have hv0 : 0 < v.length := by rw [f3, lvT_len]; have := hT_le g; omega
          have d3 := rBitsG_told (n := g) (by omega) hw0.1 hw0.2.1 hv0
          have d4 : Told P T ref8_Of [] [.lst t_bool (bitR g (bT v)), i64 ((ts.map eTp).length : Nat)] (eSl (slT g (us.length + 1) (bT v))) [] := by
            rw [hma, ← eS_sl]; exact rOf_told hsl (bT v)
          have d5 := rSameSlots ts (slT g (us.length + 1) (bT v)) (by omega) (by rw [slT_len]; omega) hok (slT_ok hsl _)
          rw [show decide (ts = slT g (us.length + 1) (bT v)) = q by
            cases hq : q with
            | true => exact decide_eq_true (hiff.1 hq)
            | false => exact decide_eq_false fun e => by rw [hiff.2 e] at hq; cases hq] at d5
          refine told_of_ev (fn := ref8_MaySlots_fn) tabOk mixed (by kernel_rfl) (by kernel_rfl) (by kernel_rfl) (by kernel_rfl) ?_
          (refine gw ?_; refine IfB.ff (by rw [hma]; simp; omega) ?_)
          (refine gw ?_; refine IfB.ff (by rw [hma]; simp; omega) ?_)
          (refine gw ?_)
          refine hx0 _ ?_
          (refine gw ?_; refine Choice.mk ⟨false, Choice.mk ⟨false, _, _, d1, ?_⟩⟩)
          (refine gw ?_)
          refine hx0 _ ?_
          (refine gw ?_; refine Choice.mk ⟨false, Choice.mk ⟨false, _, _, d2, ?_⟩⟩)
          (refine gw ?_; refine IfB.tt (by rw [hma, htl]; simp) ?_)
          (refine gw ?_)
          refine hx0 _ ?_
          (refine gw ?_; refine Choice.mk ⟨false, Choice.mk ⟨false, _, _, d3, ?_⟩⟩)
          (refine gw ?_; refine Choice.mk ⟨false, Choice.mk ⟨false, _, _, d4, ?_⟩⟩)
          (refine gw ?_; refine Choice.mk ⟨false, Choice.mk ⟨false, _, _, d5, ?_⟩⟩)
          (refine gw ?_; exact RetN.mk ⟨[], rfl, rfl, rfl⟩)
        · rw [if_neg hs] at d2
          rw [show q = false from Bool.eq_false_iff.2 fun hq => hs (hiff.1 hq).1]
          refine told_of_ev (fn := ref8_MaySlots_fn) tabOk mixed (by kernel_rfl) (by kernel_rfl) (by kernel_rfl) (by kernel_rfl) ?_
          (refine gw ?_; refine IfB.ff (by rw [hma]; simp; omega) ?_)
          (refine gw ?_; refine IfB.ff (by rw [hma]; simp; omega) ?_)
          (refine gw ?_)
          refine hx0 _ ?_
          (refine gw ?_; refine Choice.mk ⟨false, Choice.mk ⟨false, _, _, d1, ?_⟩⟩)
          (refine gw ?_)
          refine hx0 _ ?_
          (refine gw ?_; refine Choice.mk ⟨false, Choice.mk ⟨false, _, _, d2, ?_⟩⟩)
          (refine gw ?_; refine IfB.ff (by rw [hma]; simp; omega) ?_)
          (refine gw ?_; exact RetN.mk ⟨[], rfl, rfl, rfl⟩)
    · rw [show q = false from Bool.eq_false_iff.2 fun hq => by have := (hiff.1 hq).1.2.1; omega]
      refine told_of_ev (fn := ref8_MaySlots_fn) tabOk mixed (by kernel_rfl) (by kernel_rfl) (by kernel_rfl) (by kernel_rfl) ?_
      (refine gw ?_; refine IfB.ff (by rw [hma]; simp; omega) ?_)
      (refine gw ?_; refine IfB.tt (by rw [hma]; simp; omega) ?_)
      (refine gw ?_; exact RetN.mk ⟨[], rfl, rfl, rfl⟩)
end Go.Ev.W
namespace Go.Ev.W
open Go.Ev Go.Ev.N

theorem slT_w {g c : Nat} (h : SlOk g c) (b : Nat → Bool) : ∀ p ∈ slT g c b, TpW p := by
  intro p hp
  refine ⟨slT_ok h b p hp, ?_⟩
  unfold slT at hp
  obtain ⟨k, hk, rfl⟩ := List.mem_map.1 hp
  have hk : k < c := by simpa using hk
  have hz := h.sz hk
  exact ⟨lvT_w _ _, by show -9223372036854775808 ≤ ((g / 2 ^ k : Nat) : Int); omega, by show ((g / 2 ^ k : Nat) : Int) ≤ 9223372036854775807; omega⟩
theorem slMayS_told {g c : Nat} (h : SlOk g c) (b : Nat → Bool) : Told P T slots_May [] [eS g c b] (.bool true) [] := by
  have h2 := h.c17
  have t := slMay_told (slT g c b) (by rw [slT_len]; omega) (slT_w h b)
  rw [mayS_sl h, ← eS_sl] at t
  exact t
theorem slMayN_told : Told P T slots_May [] [sN] (.bool false) [] := slMay_told [] (by simp) (by simp)
end Go.Ev.W
namespace Go.Ev.W
open Go.Ev Go.Ev.N

def b9 : Nat → Bool := setZ offB 2 1 true
theorem ok83 : SlOk 8 3 := ⟨by decide, by decide, by decide, by decide, by decide⟩
set_option maxHeartbeats 2000000 in
theorem begun9_told : Told P T law9_begun [] [] (.bool true) [] := by
  have c1 : Told P T slots_New [] [i64 8, i64 3] (eS 8 3 offB) [] := slNew_told ok83
  have c2 : Told P T slots_Use [] [eS 8 3 offB, i64 2, i64 1, .bool true] (eS 8 3 b9) [] := slUse_told ok83 offB 2 1 (by omega) (by omega) true
  have c3 := slLowest_told ok83 b9 1 (by omega)
  rw [show lowS 8 3 b9 1 = some 0 by decide] at c3
  have c4 := slLowest_told ok83 b9 2 (by omega)
  rw [show lowS 8 3 b9 2 = some 1 by decide] at c4
  have c5 := slLowest_told ok83 b9 3 (by omega)
  rw [show lowS 8 3 b9 3 = none by decide] at c5
  have c6 := slMayS_told ok83 b9
  have c7 := slMayN_told
  have htl := tL_len 8 3 offB
  generalize b9 = b at *
  generalize hA : tL 8 3 b = A at *
  unfold eS at *
  rw [hA] at *
  generalize tL 8 3 offB = B at *
  refine told_of_ev (fn := law9_begun_fn) tabOk mixed (by kernel_rfl) (by kernel_rfl) (by kernel_rfl) (by kernel_rfl) ?_
  (refine gw ?_; refine Choice.mk ⟨false, Choice.mk ⟨false, _, _, c1, ?_⟩⟩)
  (refine gw ?_; refine Choice.mk ⟨false, Choice.mk ⟨false, _, _, c2, ?_⟩⟩)
  (refine gw ?_; refine Choice.mk ⟨false, Choice.mk ⟨false, _, _, c3, ?_⟩⟩)
  (refine gw ?_; refine Choice.mk ⟨false, Choice.mk ⟨false, _, _, c4, ?_⟩⟩)
  (refine gw ?_; refine Choice.mk ⟨false, Choice.mk ⟨false, _, _, c5, ?_⟩⟩)
  (refine gw ?_)
  rw [htl]
  (refine gw ?_; refine Choice.mk ⟨false, Choice.mk ⟨false, _, _, c6, ?_⟩⟩)
  (refine gw ?_; refine Choice.mk ⟨false, Choice.mk ⟨false, _, _, c7, ?_⟩⟩)
  (refine gw ?_; exact RetN.mk ⟨[], rfl, rfl, rfl⟩)
/-- Slots of numbers. -/
def usS (a : Pk × (Nat → Bool)) : Pk × (Nat → Bool) :=
  let p1 := a.1.next 250
  let p2 := p1.next 40
  (p2.next 3, setZ a.2 (a.1.num 250 : Nat) (p1.num 40 : Nat) (decide (0 < p2.num 3)))
def usI (a : Pk × (Nat → Bool)) : Nat → Pk × (Nat → Bool)
  | 0 => a
  | k + 1 => if a.1.over = true then a else usI (usS a) k
def usdB (l : List Nat) : Nat → Bool := (usI (⟨l, 0⟩, offB) 6).2
set_option maxHeartbeats 2000000 in
theorem used_told {g c : Nat} (h : SlOk g c) (l : List Nat) (hl : IsB l) (hlm : l.length ≤ maxLen) : Told P T law9_Used [] [lB l, i64 g, i64 c] (eS g c (usdB l)) [] := by
  have c1 := made_told l
  have c2 := rNewSlots_told g c (by have := h.g2; omega) (by have := h.c17; omega)
  rw [if_pos h.int, Int.toNat_natCast, Int.toNat_natCast] at c2
  have ok0 : (⟨l, 0⟩ : Pk).Ok := ⟨hl, by simp, hlm⟩
  unfold usdB
  refine told_of_ev (fn := law9_Used_fn) tabOk mixed (by kernel_rfl) (by kernel_rfl) (by kernel_rfl) (by kernel_rfl) ?_
  (refine gw ?_; refine Choice.mk ⟨false, Choice.mk ⟨false, _, _, c1, ?_⟩⟩)
  (refine gw ?_; refine Choice.mk ⟨false, Choice.mk ⟨false, _, _, c2, ?_⟩⟩)
  (refine gw ?_)
  refine LoopN.mk ⟨[6, 7, 8, 9], fun vs L => ∃ (i : Nat) (a : Pk × (Nat → Bool)), vs = [.ptr 0 0 0, .ptr 1 0 0, .ptr 2 0 0, i64 i] ∧ L = [.var (.agg [.und]), pkB a.1, .var (eS g c a.2)] ∧ i ≤ 6 ∧ a.1.Ok ∧ usI a (6 - i) = usI (⟨l, 0⟩, offB) 6, fun vs L => match vs with | [_, _, _, .int _ i] => 6 - i.toNat | _ => 0, [], [0, 2, 3], rfl, ⟨0, (⟨l, 0⟩, offB), rfl, rfl, by omega, ok0, rfl⟩, ?_⟩
  rintro vs L ⟨i, ⟨p, b⟩, rfl, rfl, hi, hok, hI⟩
  by_cases h6 : i < 6
  · have hov := over_told' p
    have hI2 : 6 - i = (6 - (i + 1)) + 1 := by omega
    rw [hI2] at hI
    have hI : (if p.over = true then (p, b) else usI (usS (p, b)) (6 - (i + 1))) = usI (⟨l, 0⟩, offB) 6 := hI
    cases ho : p.over with
    | true =>
      rw [ho] at hov hI
      rw [if_pos rfl] at hI
      rw [← hI]
      (refine gw ?_; refine IfB.tt (by simp; omega) ?_)
      (refine gw ?_; refine Choice.mk ⟨true, Choice.mk ⟨false, _, _, hov, ?_⟩⟩)
      (refine gw ?_)
      exact RetN.fz ⟨[true], [], rfl, rfl, rfl⟩
    | false =>
      rw [ho] at hov hI
      rw [if_neg (by simp)] at hI
      have j1 : p.Ok := hok
      have j2 := j1.next 250
      have j3 := j2.next 40
      have j4 := j3.next 3
      have n1 := num_told p j1 250 (by omega)
      have n2 := num_told _ j2 40 (by omega)
      have n3 := num_told _ j3 3 (by omega)
      have b1 := p.num_lt (m := 250) (by omega)
      have b2 := (p.next 250).num_lt (m := 40) (by omega)
      have b3 := ((p.next 250).next 40).num_lt (m := 3) (by omega)
      have hS : usS (p, b) = (((p.next 250).next 40).next 3, setZ b (p.num 250 : Nat) ((p.next 250).num 40 : Nat) (decide (0 < ((p.next 250).next 40).num 3))) := rfl
      rw [hS] at hI
      generalize p.num 250 = m1 at *
      generalize p.next 250 = p1 at *
      generalize p1.num 40 = m2 at *
      generalize p1.next 40 = p2 at *
      generalize p2.num 3 = m3 at *
      generalize p2.next 3 = p3 at *
      have hon : decide ((m3 : Int) > 0) = decide (0 < m3) := decide_eq_decide.2 (by omega)
      have d1 := rUse_told h b m1 m2 (by omega) (decide (0 < m3))
      rw [← hon] at d1
      (refine gw ?_; refine IfB.tt (by simp; omega) ?_)
      (refine gw ?_; refine Choice.mk ⟨true, Choice.mk ⟨false, _, _, hov, ?_⟩⟩)
      (refine gw ?_; refine Choice.mk ⟨true, Choice.mk ⟨false, _, _, n1, ?_⟩⟩)
      (refine gw ?_; refine Choice.mk ⟨true, Choice.mk ⟨false, _, _, n2, ?_⟩⟩)
      (refine gw ?_; refine Choice.mk ⟨true, Choice.mk ⟨false, _, _, n3, ?_⟩⟩)
      (refine gw ?_; refine Choice.mk ⟨false, Choice.mk ⟨false, _, _, d1, ?_⟩⟩)
      rw [hon]
      refine gw ?_
      refine ⟨[], [0, 1, 2], rfl, ⟨i + 1, (p3, setZ b m1 m2 (decide (0 < m3))), rfl, rfl, by omega, j4, hI⟩, (by omega : 6 - ((i : Int) + 1).toNat < 6 - (i : Int).toNat)⟩
  · obtain rfl : i = 6 := by omega
    have hI : (p, b) = usI (⟨l, 0⟩, offB) 6 := hI
    rw [← hI]
    (refine gw ?_)
    exact RetN.fz ⟨[true], [], rfl, rfl, rfl⟩
end Go.Ev.W
namespace Go.Ev.W
open Go.Ev Go.Ev.N

theorem newBoth (g c : Int) (hg : -9223372036854775808 ≤ g ∧ g ≤ 9223372036854775807) (hc : -9223372036854775808 ≤ c ∧ c ≤ 9223372036854775807) : ∃ x : List AV, Told P T slots_New [] [i64 g, i64 c] (.agg [.lst t_api_Tree x]) [] ∧ Told P T ref8_NewSlots [] [i64 g, i64 c] (.agg [.lst t_api_Tree x]) [] ∧ Told P T ref8_SameSlots [] [.agg [.lst t_api_Tree x], .agg [.lst t_api_Tree x]] (.bool true) [] := by
  have c2 := rNewSlots_told g c hg hc
  by_cases h : SlOkI g c
  · rw [if_pos h] at c2
    obtain ⟨n, rfl⟩ : ∃ n : Nat, g = n := ⟨g.toNat, by have := h.2.2.1; omega⟩
    obtain ⟨k, rfl⟩ : ∃ k : Nat, c = k := ⟨c.toNat, by have := h.1; omega⟩
    exact ⟨tL n k offB, slNew_told h.ok, c2, sameS_told h.ok offB⟩
  · rw [if_neg h] at c2
    exact ⟨[], slNewNo_told h hg hc, c2, sameSN_told⟩
theorem ok16 (m : Nat) (hm : 1 ≤ m) (hm2 : m ≤ 4096) {c : Nat} (h1 : 1 ≤ c) (h2 : c ≤ 5) : SlOk (16 * m) c := by
  refine ⟨h1, by omega, by omega, by omega, ?_⟩
  have : 2 ^ (c - 1) ∣ 16 := ⟨2 ^ (5 - c), by rw [← Nat.pow_add, show c - 1 + (5 - c) = 4 by omega]⟩
  exact Nat.mod_eq_zero_of_dvd (Nat.dvd_trans this (Nat.dvd_mul_right 16 m))
def as9 (a : Int) : List Int := [a, 0, 5, 16, 100]
def bs9 (b : Int) : List Int := [b, 3, 1099511627776, 1, 0]
theorem as9_ok {a : Int} (h : -9223372036854775808 ≤ a ∧ a ≤ 9223372036854775807) : ∀ x ∈ as9 a, -9223372036854775808 ≤ x ∧ x ≤ 9223372036854775807 := by
  intro x hx
  simp [as9] at hx
  omega
theorem bs9_ok {a : Int} (h : -9223372036854775808 ≤ a ∧ a ≤ 9223372036854775807) : ∀ x ∈ bs9 a, -9223372036854775808 ≤ x ∧ x ≤ 9223372036854775807 := by
  intro x hx
  simp [bs9] at hx
  omega
theorem fir_tup (o : Option Nat) : ∃ (k : Nat) (q : Bool), eFir o = .tup [i64 k, .bool q] := by
  cases o with
  | none => exact ⟨0, false, rfl⟩
  | some k => exact ⟨k, true, rfl⟩
set_option maxRecDepth 20000 in
set_option maxHeartbeats 4000000 in
theorem slotsAll_told (l : List Nat) (hl : IsB l) (hlm : l.length ≤ maxLen) (cl : Nat) (hcl : cl < 256) (a b : Int) (ha : -9223372036854775808 ≤ a ∧ a ≤ 9223372036854775807) (hb : -9223372036854775808 ≤ b ∧ b ≤ 9223372036854775807) (on : Bool) (gr mo : Int) (hgr : -9223372036854775808 ≤ gr ∧ gr ≤ 9223372036854775807) (hmo : -9223372036854775808 ≤ mo ∧ mo ≤ 9223372036854775807) :
    Told P T law9_SlotsAll [] [lB l, u8 cl, i64 a, i64 b, .bool on, i64 gr, i64 mo] (.bool true) [] := by
  have cb := begun9_told
  have hml : (l.map u8).length = l.length := by simp
  by_cases h20 : l.length ≤ 20
  · by_cases hgo : gr > 5000 ∧ gr ≤ 65536
    · refine told_of_ev (fn := law9_SlotsAll_fn) tabOk mixed (by kernel_rfl) (by kernel_rfl) (by kernel_rfl) (by kernel_rfl) ?_
      (refine gw ?_; refine Choice.mk ⟨false, Choice.mk ⟨false, _, _, cb, ?_⟩⟩)
      (refine gw ?_; refine IfB.ff (by rw [hml]; simp; omega) ?_)
      (refine gw ?_; refine IfB.tt (by simp; omega) ?_)
      (refine gw ?_; refine IfB.tt (by simp; omega) ?_)
      (refine gw ?_; exact RetN.mk ⟨[], rfl, rfl, rfl⟩)
    · have hmc : ((cl : Nat) : Int).tmod 5 = ((cl % 5 : Nat) : Int) := (Int.ofNat_tmod cl 5).symm
      have hok : SlOk (16 * (1 + l.length)) (1 + cl % 5) := ok16 _ (by omega) (by omega) (by omega) (by omega)
      have c1 := used_told hok l hl hlm
      have e1 : ((16 * (1 + l.length) : Nat) : Int) = 16 * (1 + ((l.map u8).length : Nat)) := by rw [hml]; omega
      have e2 : ((1 + cl % 5 : Nat) : Int) = 1 + ((cl % 5 : Nat) : Int) := by omega
      have h5 : cl % 5 < 5 := Nat.mod_lt _ (by omega)
      have hrest : Told P T law9_SlotsAll [] [lB l, u8 cl, i64 a, i64 b, .bool on, i64 gr, i64 mo] (.bool true) [] := by
        rw [e1, e2] at c1
        generalize usdB l = bb at *
        generalize 16 * (1 + l.length) = g at *
        generalize 1 + cl % 5 = c at *
        have c3 := slMayS_told hok bb
        obtain ⟨X, n1, n2, n3⟩ := newBoth gr mo hgr hmo
        obtain ⟨Y, m1, m2, m3⟩ := newBoth 96 mo (by omega) hmo
        have hloop : gr > 5000 → ¬ gr ≤ 65536 := fun h1 h2 => hgo ⟨h1, h2⟩
        refine told_of_ev (fn := law9_SlotsAll_fn) tabOk mixed (by kernel_rfl) (by kernel_rfl) (by kernel_rfl) (by kernel_rfl) ?_
        (refine gw ?_; refine Choice.mk ⟨false, Choice.mk ⟨false, _, _, cb, ?_⟩⟩)
        (refine gw ?_; refine IfB.ff (by rw [hml]; simp; omega) ?_)
        by_cases hg5 : gr > 5000
        · (refine gw ?_; refine IfB.tt (by simp; omega) ?_)
          (refine gw ?_; refine IfB.ff (by simp; omega) ?_)
          (refine gw ?_)
          rw [hmc]
          (refine gw ?_; refine Choice.mk ⟨false, Choice.mk ⟨false, _, _, c1, ?_⟩⟩)
          (refine gw ?_; refine LoopN.mk ⟨[4,5,6,16,17,18,19], fun vs L => ∃ i : Nat, vs = [.bool on, i64 gr, i64 mo, .ptr 0 0 0, .lst t_int ((as9 a).map i64), .lst t_int ((bs9 b).map i64), i64 i] ∧ L = [.var (eS g c bb)] ∧ i ≤ 5, fun vs L => match vs with | [_, _, _, _, _, _, .int _ i] => 5 - i.toNat | _ => 0, [17,18], [0], rfl, ⟨0, rfl, rfl, by omega⟩, ?_⟩)
          rintro vs L ⟨i, rfl, rfl, hi⟩
          by_cases h5 : i < 5
          · have hal : i < (as9 a).length := h5
            have hbl : i < (bs9 b).length := h5
            have hx := as9_ok ha _ (List.getElem_mem hal)
            have hy := bs9_ok hb _ (List.getElem_mem hbl)
            have hA : ∀ Q : AV → Prop, Q (i64 ((as9 a)[i]'hal)) → Idx ((as9 a).map i64) ((i : Nat) : Int) Q := fun Q q => idx_map hal q
            have hB : ∀ Q : AV → Prop, Q (i64 ((bs9 b)[i]'hbl)) → Idx ((bs9 b).map i64) ((i : Nat) : Int) Q := fun Q q => idx_map hbl q
            generalize (as9 a)[i] = x at *
            generalize (bs9 b)[i] = y at *
            have d1 := slLowest_told hok bb i (by omega)
            have d2 := rLowest_told hok bb i (by omega)
            have d3 := slLowest_told hok bb x hx
            have d4 := rLowest_told hok bb x hx
            have d5 := slUse_told hok bb x y hx hy on
            have d6 := rUse_told hok bb x y hx on
            have d7 := sameS_told hok (setZ bb x y on)
            obtain ⟨k1, q1, f1⟩ := fir_tup (lowS g c bb i)
            obtain ⟨k2, q2, f2⟩ := fir_tup (lowS g c bb x)
            rw [f1] at d1 d2
            rw [f2] at d3 d4
            generalize setZ bb x y on = z at *
            (refine gw ?_; refine IfB.tt (by simp; omega) ?_)
            (refine gw ?_; refine Choice.mk ⟨false, Choice.mk ⟨false, _, _, d1, ?_⟩⟩)
            (refine gw ?_; refine Choice.mk ⟨false, Choice.mk ⟨false, _, _, d2, ?_⟩⟩)
            (refine gw ?_)
            refine hA _ ?_
            (refine gw ?_; refine Choice.mk ⟨false, Choice.mk ⟨false, _, _, d3, ?_⟩⟩)
            (refine gw ?_)
            refine hA _ ?_
            (refine gw ?_; refine Choice.mk ⟨false, Choice.mk ⟨false, _, _, d4, ?_⟩⟩)
            cases q1 <;> cases q2 <;> (
              (refine gw ?_)
              refine hA _ ?_
              (refine gw ?_)
              refine hB _ ?_
              (refine gw ?_; refine Choice.mk ⟨false, Choice.mk ⟨false, _, _, d5, ?_⟩⟩)
              (refine gw ?_)
              refine hA _ ?_
              (refine gw ?_)
              refine hB _ ?_
              (refine gw ?_; refine Choice.mk ⟨false, Choice.mk ⟨false, _, _, d6, ?_⟩⟩)
              (refine gw ?_; refine Choice.mk ⟨false, Choice.mk ⟨false, _, _, d7, ?_⟩⟩)
              (refine gw ?_; refine ⟨[], [0], rfl, ⟨i + 1, rfl, rfl, h5⟩, (by omega : 5 - ((i : Int) + 1).toNat < 5 - (i : Int).toNat)⟩))
          · obtain rfl : i = 5 := by omega
            (refine gw ?_; refine Choice.mk ⟨false, Choice.mk ⟨false, _, _, c3, ?_⟩⟩)
            (refine gw ?_; refine Choice.mk ⟨false, Choice.mk ⟨false, _, _, n1, ?_⟩⟩)
            (refine gw ?_; refine Choice.mk ⟨false, Choice.mk ⟨false, _, _, n2, ?_⟩⟩)
            (refine gw ?_; refine Choice.mk ⟨false, Choice.mk ⟨false, _, _, n3, ?_⟩⟩)
            (refine gw ?_; refine Choice.mk ⟨false, Choice.mk ⟨false, _, _, m1, ?_⟩⟩)
            (refine gw ?_; refine Choice.mk ⟨false, Choice.mk ⟨false, _, _, m2, ?_⟩⟩)
            (refine gw ?_; refine Choice.mk ⟨false, Choice.mk ⟨false, _, _, m3, ?_⟩⟩)
            (refine gw ?_; exact RetN.mk ⟨[], rfl, rfl, rfl⟩)
        · (refine gw ?_; refine IfB.ff (by simp; omega) ?_)
          (refine gw ?_)
          rw [hmc]
          (refine gw ?_; refine Choice.mk ⟨false, Choice.mk ⟨false, _, _, c1, ?_⟩⟩)
          (refine gw ?_; refine LoopN.mk ⟨[4,5,6,16,17,18,19], fun vs L => ∃ i : Nat, vs = [.bool on, i64 gr, i64 mo, .ptr 0 0 0, .lst t_int ((as9 a).map i64), .lst t_int ((bs9 b).map i64), i64 i] ∧ L = [.var (eS g c bb)] ∧ i ≤ 5, fun vs L => match vs with | [_, _, _, _, _, _, .int _ i] => 5 - i.toNat | _ => 0, [17,18], [0], rfl, ⟨0, rfl, rfl, by omega⟩, ?_⟩)
          rintro vs L ⟨i, rfl, rfl, hi⟩
          by_cases h5 : i < 5
          · have hal : i < (as9 a).length := h5
            have hbl : i < (bs9 b).length := h5
            have hx := as9_ok ha _ (List.getElem_mem hal)
            have hy := bs9_ok hb _ (List.getElem_mem hbl)
            have hA : ∀ Q : AV → Prop, Q (i64 ((as9 a)[i]'hal)) → Idx ((as9 a).map i64) ((i : Nat) : Int) Q := fun Q q => idx_map hal q
            have hB : ∀ Q : AV → Prop, Q (i64 ((bs9 b)[i]'hbl)) → Idx ((bs9 b).map i64) ((i : Nat) : Int) Q := fun Q q => idx_map hbl q
            generalize (as9 a)[i] = x at *
            generalize (bs9 b)[i] = y at *
            have d1 := slLowest_told hok bb i (by omega)
            have d2 := rLowest_told hok bb i (by omega)
            have d3 := slLowest_told hok bb x hx
            have d4 := rLowest_told hok bb x hx
            have d5 := slUse_told hok bb x y hx hy on
            have d6 := rUse_told hok bb x y hx on
            have d7 := sameS_told hok (setZ bb x y on)
            obtain ⟨k1, q1, f1⟩ := fir_tup (lowS g c bb i)
            obtain ⟨k2, q2, f2⟩ := fir_tup (lowS g c bb x)
            rw [f1] at d1 d2
            rw [f2] at d3 d4
            generalize setZ bb x y on = z at *
            (refine gw ?_; refine IfB.tt (by simp; omega) ?_)
            (refine gw ?_; refine Choice.mk ⟨false, Choice.mk ⟨false, _, _, d1, ?_⟩⟩)
            (refine gw ?_; refine Choice.mk ⟨false, Choice.mk ⟨false, _, _, d2, ?_⟩⟩)
            (refine gw ?_)
            refine hA _ ?_
            (refine gw ?_; refine Choice.mk ⟨false, Choice.mk ⟨false, _, _, d3, ?_⟩⟩)
            (refine gw ?_)
            refine hA _ ?_
            (refine gw ?_; refine Choice.mk ⟨false, Choice.mk ⟨false, _, _, d4, ?_⟩⟩)
            cases q1 <;> cases q2 <;> (
              (refine gw ?_)
              refine hA _ ?_
              (refine gw ?_)
              refine hB _ ?_
              (refine gw ?_; refine Choice.mk ⟨false, Choice.mk ⟨false, _, _, d5, ?_⟩⟩)
              (refine gw ?_)
              refine hA _ ?_
              (refine gw ?_)
              refine hB _ ?_
              (refine gw ?_; refine Choice.mk ⟨false, Choice.mk ⟨false, _, _, d6, ?_⟩⟩)
              (refine gw ?_; refine Choice.mk ⟨false, Choice.mk ⟨false, _, _, d7, ?_⟩⟩)
              (refine gw ?_; refine ⟨[], [0], rfl, ⟨i + 1, rfl, rfl, h5⟩, (by omega : 5 - ((i : Int) + 1).toNat < 5 - (i : Int).toNat)⟩))
          · obtain rfl : i = 5 := by omega
            (refine gw ?_; refine Choice.mk ⟨false, Choice.mk ⟨false, _, _, c3, ?_⟩⟩)
            (refine gw ?_; refine Choice.mk ⟨false, Choice.mk ⟨false, _, _, n1, ?_⟩⟩)
            (refine gw ?_; refine Choice.mk ⟨false, Choice.mk ⟨false, _, _, n2, ?_⟩⟩)
            (refine gw ?_; refine Choice.mk ⟨false, Choice.mk ⟨false, _, _, n3, ?_⟩⟩)
            (refine gw ?_; refine Choice.mk ⟨false, Choice.mk ⟨false, _, _, m1, ?_⟩⟩)
            (refine gw ?_; refine Choice.mk ⟨false, Choice.mk ⟨false, _, _, m2, ?_⟩⟩)
            (refine gw ?_; refine Choice.mk ⟨false, Choice.mk ⟨false, _, _, m3, ?_⟩⟩)
            (refine gw ?_; exact RetN.mk ⟨[], rfl, rfl, rfl⟩)
      exact hrest
  · refine told_of_ev (fn := law9_SlotsAll_fn) tabOk mixed (by kernel_rfl) (by kernel_rfl) (by kernel_rfl) (by kernel_rfl) ?_
    (refine gw ?_; refine Choice.mk ⟨false, Choice.mk ⟨false, _, _, cb, ?_⟩⟩)
    (refine gw ?_; refine IfB.tt (by rw [hml]; simp; omega) ?_)
    (refine gw ?_; exact RetN.mk ⟨[], rfl, rfl, rfl⟩)
theorem slotsAll {x0 x1 x2 x3 x4 x5 x6 : AV} (h0 : Shp T 8 22 x0) (h1 : Shp T 8 5 x1) (h2 : Shp T 8 3 x2) (h3 : Shp T 8 3 x3) (h4 : Shp T 8 4 x4) (h5 : Shp T 8 3 x5) (h6 : Shp T 8 3 x6) : Told P T law9_SlotsAll [] [x0, x1, x2, x3, x4, x5, x6] (.bool true) [] := by
  obtain ⟨l, rfl, hl, hlm⟩ := shp_bytes h0
  obtain ⟨n, rfl, hn⟩ := shp_u8 (by kernel_rfl) h1
  obtain ⟨a, rfl, ha⟩ := shp_i64 (by kernel_rfl) h2
  obtain ⟨b, rfl, hb⟩ := shp_i64 (by kernel_rfl) h3
  obtain ⟨on, rfl⟩ := shp_bool (by kernel_rfl) h4
  obtain ⟨f, rfl, hf⟩ := shp_i64 (by kernel_rfl) h5
  obtain ⟨m, rfl, hm⟩ := shp_i64 (by kernel_rfl) h6
  exact slotsAll_told l hl hlm n hn a b ha hb on f m hf hm
end Go.Ev.W
namespace Go.Ev.W
open Go.Ev Go.Ev.N

theorem fir_none {n : Nat} {b : Nat → Bool} {f : Nat} (h : firI n b f = none) (hf : f < n) : ∀ x, f ≤ x → x < n → b x = true := by
  rcases firI_spec (b := b) hf with ⟨_, h2⟩ | ⟨i, h2, _⟩
  · exact h2
  · rw [h] at h2; cases h2
theorem fir_some {n : Nat} {b : Nat → Bool} {f i : Nat} (h : firI n b f = some i) (hf : f < n) : f ≤ i ∧ i < n ∧ b i = false ∧ ∀ x, f ≤ x → x < i → b x = true := by
  rcases firI_spec (b := b) hf with ⟨h2, _⟩ | ⟨i', h2, h3⟩
  · rw [h] at h2; cases h2
  · rw [h] at h2
    injection h2 with e
    subst e
    exact h3
theorem low_less {g c : Nat} (h : SlOk g c) {b : Nat → Bool} {k i : Nat} (hk : k + 1 < c) (hi : lowS g c b (k + 1 : Nat) = some i) : ∃ j, lowS g c b (k : Nat) = some j ∧ j ≤ 2 * i := by
  have hz := h.sz (k := k) (by omega)
  have hz1 := h.sz hk
  have hh := h.half hk
  unfold lowS at hi ⊢
  rw [if_pos (by omega), Int.toNat_natCast] at hi
  rw [if_pos (by omega), Int.toNat_natCast]
  obtain ⟨_, i2, i3, _⟩ := fir_some (f := 0) hi (by omega)
  have hfree : upB b k (2 * i) = false := by
    have : (upB b k (2 * i) || upB b k (2 * i + 1)) = false := i3
    exact (Bool.or_eq_false_iff.1 this).1
  cases hf : firI (g / 2 ^ k) (upB b k) 0 with
  | none =>
    have := fir_none (f := 0) hf (by omega) (2 * i) (by omega) (by omega)
    rw [hfree] at this; cases this
  | some j =>
    refine ⟨j, rfl, ?_⟩
    obtain ⟨_, _, _, j4⟩ := fir_some (f := 0) hf (by omega)
    by_cases e : j ≤ 2 * i
    · exact e
    · have := j4 (2 * i) (by omega) (by omega)
      rw [hfree] at this; cases this
set_option maxRecDepth 20000 in
set_option maxHeartbeats 4000000 in
theorem slotsLess_told (l : List Nat) (hl : IsB l) (hlm : l.length ≤ maxLen) : Told P T law9_SlotsLess [] [lB l] (.bool true) [] := by
  have cb := begun9_told
  have hml : (l.map u8).length = l.length := by simp
  by_cases h20 : l.length ≤ 20
  · have hok : SlOk 256 6 := ⟨by decide, by decide, by decide, by decide, by decide⟩
    have c1 : Told P T law9_Used [] [lB l, i64 256, i64 6] (eS 256 6 (usdB l)) [] := used_told hok l hl hlm
    generalize usdB l = b at *
    have c3 := slMayS_told hok b
    refine told_of_ev (fn := law9_SlotsLess_fn) tabOk mixed (by kernel_rfl) (by kernel_rfl) (by kernel_rfl) (by kernel_rfl) ?_
    (refine gw ?_; refine Choice.mk ⟨false, Choice.mk ⟨false, _, _, cb, ?_⟩⟩)
    (refine gw ?_; refine IfB.ff (by rw [hml]; simp; omega) ?_)
    (refine gw ?_; refine Choice.mk ⟨false, Choice.mk ⟨false, _, _, c1, ?_⟩⟩)
    (refine gw ?_; refine LoopN.mk ⟨[3,4], fun vs L => ∃ k : Nat, vs = [.ptr 0 0 0, i64 k] ∧ L = [.var (eS 256 6 b)] ∧ 1 ≤ k ∧ k ≤ 6, fun vs L => match vs with | [_, .int _ i] => 6 - i.toNat | _ => 0, [], [0], rfl, ⟨1, rfl, rfl, by omega, by omega⟩, ?_⟩)
    rintro vs L ⟨k, rfl, rfl, hk1, hk⟩
    by_cases hk6 : k < 6
    · obtain ⟨k, rfl⟩ : ∃ j, k = j + 1 := ⟨k - 1, by omega⟩
      have d1 := slLowest_told hok b (k + 1 : Nat) (by omega)
      have d2 := slLowest_told hok b (k : Nat) (by omega)
      have hless := fun i => low_less hok (b := b) (k := k) (i := i) hk6
      (refine gw ?_; refine IfB.tt (by simp; omega) ?_)
      cases hl1 : lowS 256 6 b (k + 1 : Nat) with
      | none =>
        obtain ⟨k2, q2, f2⟩ := fir_tup (lowS 256 6 b (k : Nat))
        rw [hl1] at d1
        rw [f2] at d2
        (refine gw ?_; refine Choice.mk ⟨false, Choice.mk ⟨false, _, _, d1, ?_⟩⟩)
        (refine gw ?_)
        rw [show ((k + 1 : Nat) : Int) - 1 = (k : Int) by omega]
        (refine gw ?_; refine Choice.mk ⟨false, Choice.mk ⟨false, _, _, d2, ?_⟩⟩)
        (refine gw ?_; refine ⟨[], [0], rfl, ⟨k + 1 + 1, rfl, rfl, by omega, by omega⟩, (by omega : 6 - (((k + 1 : Nat) : Int) + 1).toNat < 6 - ((k + 1 : Nat) : Int).toNat)⟩)
      | some i =>
        obtain ⟨j, hj, hji⟩ := hless i hl1
        have hi : i < 256 := by
          have hz1 := hok.sz (k := k + 1) hk6
          unfold lowS at hl1
          rw [if_pos (by omega), Int.toNat_natCast] at hl1
          obtain ⟨_, i2, _, _⟩ := fir_some (f := 0) hl1 (by omega)
          have : 256 / 2 ^ (k + 1) ≤ 256 := Nat.div_le_self _ _
          omega
        rw [hl1] at d1
        rw [hj] at d2
        (refine gw ?_; refine Choice.mk ⟨false, Choice.mk ⟨false, _, _, d1, ?_⟩⟩)
        (refine gw ?_)
        rw [show ((k + 1 : Nat) : Int) - 1 = (k : Int) by omega]
        (refine gw ?_; refine Choice.mk ⟨false, Choice.mk ⟨false, _, _, d2, ?_⟩⟩)
        (refine gw ?_; refine IfB.ff (by simp; omega) ?_)
        (refine gw ?_; refine ⟨[], [0], rfl, ⟨k + 1 + 1, rfl, rfl, by omega, by omega⟩, (by omega : 6 - (((k + 1 : Nat) : Int) + 1).toNat < 6 - ((k + 1 : Nat) : Int).toNat)⟩)
    · obtain rfl : k = 6 := by omega
      (refine gw ?_; refine Choice.mk ⟨false, Choice.mk ⟨false, _, _, c3, ?_⟩⟩)
      (refine gw ?_; exact RetN.mk ⟨[], rfl, rfl, rfl⟩)
  · refine told_of_ev (fn := law9_SlotsLess_fn) tabOk mixed (by kernel_rfl) (by kernel_rfl) (by kernel_rfl) (by kernel_rfl) ?_
    (refine gw ?_; refine Choice.mk ⟨false, Choice.mk ⟨false, _, _, cb, ?_⟩⟩)
    (refine gw ?_; refine IfB.tt (by rw [hml]; simp; omega) ?_)
    (refine gw ?_; exact RetN.mk ⟨[], rfl, rfl, rfl⟩)
theorem slotsLess {x0 : AV} (h0 : Shp T 8 22 x0) : Told P T law9_SlotsLess [] [x0] (.bool true) [] := by
  obtain ⟨l, rfl, hl, hlm⟩ := shp_bytes h0
  exact slotsLess_told l hl hlm
end Go.Ev.W
namespace Go.Ev.W
open Go.Ev Go.Ev.N

/-- Is one of so many set, from one on? -/
def orB (b : Nat → Bool) (lo : Nat) : Nat → Bool
  | 0 => false
  | c + 1 => orB b lo c || b (lo + c)
theorem orB_true {b : Nat → Bool} {lo : Nat} : ∀ {c : Nat}, orB b lo c = true ↔ ∃ x, lo ≤ x ∧ x < lo + c ∧ b x = true
  | 0 => ⟨fun h => (by unfold orB at h; exact absurd h (by decide)), fun ⟨x, h1, h2, _⟩ => by omega⟩
  | c + 1 => by
    show (orB b lo c || b (lo + c)) = true ↔ _
    rw [Bool.or_eq_true, orB_true]
    constructor
    · rintro (⟨x, h1, h2, h3⟩ | h)
      · exact ⟨x, h1, by omega, h3⟩
      · exact ⟨lo + c, by omega, by omega, h⟩
    · rintro ⟨x, h1, h2, h3⟩
      by_cases e : x = lo + c
      · exact .inr (e ▸ h3)
      · exact .inl ⟨x, h1, by omega, h3⟩
theorem orB_up {b : Nat → Bool} {k p : Nat} : orB b (p * 2 ^ k) (2 ^ k) = upB b k p := by
  apply Bool.eq_iff_iff.2
  rw [orB_true, upB_true]
  have hp : 0 < 2 ^ k := Nat.pow_pos (by omega)
  constructor
  · rintro ⟨x, h1, h2, h3⟩
    refine ⟨x, ?_, h3⟩
    have a1 : p ≤ x / 2 ^ k := (Nat.le_div_iff_mul_le hp).2 h1
    have a2 : x / 2 ^ k < p + 1 := (Nat.div_lt_iff_lt_mul hp).2 (by rw [Nat.add_mul]; omega)
    omega
  · rintro ⟨x, h1, h2⟩
    refine ⟨x, ?_, ?_, h2⟩
    · subst h1; exact Nat.div_mul_le_self x (2 ^ k)
    · have a2 : x < (p + 1) * 2 ^ k := (Nat.div_lt_iff_lt_mul hp).1 (by omega)
      rw [Nat.add_mul] at a2; omega
theorem setZ_bit {b : Nat → Bool} {m a : Nat} {on : Bool} : (bitR m b).set a (.bool on) = bitR m (setZ b a 1 on) := by
  rw [bitR_set]
  exact bitR_congr fun x _ => (set1 b a on x).symm
theorem fir_form9 {n : Nat} {b : Nat → Bool} {f : Nat} (hf : f < n) : ∃ (q : Bool) (i e : Nat), eFir (firI n b f) = .tup [i64 i, .bool q] ∧ (q = true → i = e ∧ f ≤ i ∧ i < n ∧ b i = false) ∧ (q = false → i = 0 ∧ e = n) ∧ (∀ x, f ≤ x → x < e → b x = true) ∧ f ≤ e ∧ e ≤ n := by
  rcases firI_spec (b := b) hf with ⟨h, h2⟩ | ⟨i, h, i1, i2, i3, i4⟩
  · exact ⟨false, 0, n, by rw [h]; rfl, by simp, fun _ => ⟨rfl, rfl⟩, h2, by omega, Nat.le_refl _⟩
  · exact ⟨true, i, i, by rw [h]; rfl, fun _ => ⟨rfl, i1, i2, i3⟩, by simp, i4, i1, by omega⟩
set_option maxRecDepth 20000 in
set_option maxHeartbeats 4000000 in
theorem slotsFree_told (l : List Nat) (hl : IsB l) (hlm : l.length ≤ maxLen) (cl : Nat) (hcl : cl < 256) : Told P T law9_SlotsFree [] [lB l, u8 cl] (.bool true) [] := by
  have cb := begun9_told
  have hml : (l.map u8).length = l.length := by simp
  by_cases h40 : l.length ≤ 40
  · have hok : SlOk 64 5 := ⟨by decide, by decide, by decide, by decide, by decide⟩
    have c1 : Told P T slots_New [] [i64 64, i64 5] (eS 64 5 offB) [] := slNew_told hok
    have hz := bitR_off 64
    refine told_of_ev (fn := law9_SlotsFree_fn) tabOk mixed (by kernel_rfl) (by kernel_rfl) (by kernel_rfl) (by kernel_rfl) ?_
    (refine gw ?_; refine Choice.mk ⟨false, Choice.mk ⟨false, _, _, cb, ?_⟩⟩)
    (refine gw ?_; refine IfB.ff (by rw [hml]; simp; omega) ?_)
    (refine gw ?_; refine Choice.mk ⟨false, Choice.mk ⟨false, _, _, c1, ?_⟩⟩)
    (refine gw ?_; refine LoopN.mk ⟨[0,1,5,6,7], fun vs L => ∃ (i : Nat) (b : Nat → Bool), vs = [lB l, u8 cl, .ptr 0 0 0, .ptr 1 0 0, i64 i] ∧ L = [.var (eS 64 5 b), .row t_bool (bitR 64 b)] ∧ i ≤ l.length, fun vs L => match vs with | [_, _, _, _, .int _ i] => l.length - i.toNat | _ => 0, [], [0,2], rfl, ⟨0, offB, rfl, by rw [hz]; rfl, by omega⟩, ?_⟩)
    rintro vs L ⟨i, b, rfl, rfl, hi⟩
    have hbl := bitR_len 64 b
    by_cases hil : i < l.length
    · have hbi := hl _ (List.getElem_mem hil)
      have hx : ∀ Q : AV → Prop, Q (u8 l[i]) → Idx (l.map u8) ((i : Nat) : Int) Q := fun Q q => idx_map hil q
      generalize l[i] = v at *
      have hmo : ((v : Nat) : Int).tmod 64 = ((v % 64 : Nat) : Int) := (Int.ofNat_tmod v 64).symm
      have h64 : v % 64 < 64 := Nat.mod_lt _ (by omega)
      have d1 := slUse_told hok b (v % 64 : Nat) 1 (by omega) (by omega) (decide ((v : Int) < 192))
      have hst := setZ_bit (b := b) (m := 64) (a := v % 64) (on := decide ((v : Int) < 192))
      generalize v % 64 = a at *
      generalize hon : decide ((v : Int) < 192) = on at *
      (refine gw ?_; refine IfB.tt (by rw [hml]; simp; omega) ?_)
      (refine gw ?_)
      refine hx _ ?_
      (refine gw ?_)
      rw [hmo]
      (refine gw ?_)
      refine hx _ ?_
      (refine gw ?_)
      rw [hon]
      (refine gw ?_; refine Choice.mk ⟨false, Choice.mk ⟨false, _, _, d1, ?_⟩⟩)
      (refine gw ?_; refine ⟨[], [0,1], rfl, ⟨i + 1, setZ b a 1 on, rfl, by rw [← hst]; rfl, hil⟩, (by omega : l.length - ((i : Int) + 1).toNat < l.length - (i : Int).toNat)⟩)
    · have hmc : ((cl : Nat) : Int).tmod 5 = ((cl % 5 : Nat) : Int) := (Int.ofNat_tmod cl 5).symm
      have h5 : cl % 5 < 5 := Nat.mod_lt _ (by omega)
      have hsl := shlI (k := cl % 5) (by omega)
      have hdv : (64 : Int).tdiv ((2 ^ (cl % 5) : Nat) : Int) = ((64 / 2 ^ (cl % 5) : Nat) : Int) := (Int.ofNat_tdiv 64 (2 ^ (cl % 5))).symm
      have hz := hok.sz h5
      have d1 := slLowest_told hok b (cl % 5 : Nat) (by omega)
      have hlow : lowS 64 5 b (cl % 5 : Nat) = firI (64 / 2 ^ (cl % 5)) (upB b (cl % 5)) 0 := by
        unfold lowS
        rw [if_pos (by omega), Int.toNat_natCast]
      rw [hlow] at d1
      have hup := fun p => orB_up (b := b) (k := cl % 5) (p := p)
      have hmay := slMayS_told hok b
      have hp : 0 < 2 ^ (cl % 5) := Nat.pow_pos (by omega)
      have hp2 : 2 ^ (cl % 5) ≤ 2 ^ 4 := Nat.pow_le_pow_right (by omega) (by omega)
      obtain ⟨o, i, e, hq, hqt, hqf, hall, he0, hem⟩ := fir_form9 (n := 64 / 2 ^ (cl % 5)) (b := upB b (cl % 5)) (f := 0) (by omega)
      have hq : eFir (firI (64 / 2 ^ (cl % 5)) (upB b (cl % 5)) 0) = _ := hq
      rw [hq] at d1
      have hne : e < 64 / 2 ^ (cl % 5) → upB b (cl % 5) e = false := fun h => by
        cases o with
        | true => obtain ⟨f1, _, _, f4⟩ := hqt rfl; rw [← f1]; exact f4
        | false => have := (hqf rfl).2; omega
      have hzq := hz.2.2
      generalize upB b (cl % 5) = u at *
      generalize hn : 2 ^ (cl % 5) = n at *
      generalize 64 / n = q at *
      generalize cl % 5 = k at *
      (refine gw ?_; refine IfB.ff (by rw [hml]; simp; omega) ?_)
      (refine gw ?_)
      rw [hmc]
      (refine gw ?_)
      rw [hsl]
      have hnn : ((n : Nat) : Int) ≠ 0 := by omega
      cases o with
      | true =>
        obtain ⟨f1, f2, f3, f4⟩ := hqt rfl
        subst f1
        (refine gw ?_; refine Choice.mk ⟨false, Choice.mk ⟨false, _, _, d1, ?_⟩⟩)
        (refine gw ?_)
        rw [hdv]
        (refine gw ?_; refine IfB.ff (by simp; omega) ?_)
        (refine gw ?_)
        rw [hdv]
        (refine gw ?_; refine IfB.ff (by simp; omega) ?_)
        (refine gw ?_; refine Choice.mk ⟨false, Choice.mk ⟨false, _, _, hmay, ?_⟩⟩)
        (refine gw ?_; refine LoopN.mk ⟨[6,11,12,14], fun vs L => ∃ p : Nat, vs = [.ptr 0 0 0, i64 n, i64 i, i64 p] ∧ L = [.row t_bool (bitR 64 b)] ∧ p ≤ q ∧ p ≤ i + 1, fun vs L => match vs with | [_, _, _, .int _ i] => q - i.toNat | _ => 0, [], [1], rfl, ⟨0, rfl, rfl, by omega, by omega⟩, ?_⟩)
        rintro vs L ⟨p, rfl, rfl, hp1, hp2⟩
        by_cases hpe : p ≤ i ∧ p < q
        · have hup := hup p
          have hpn : (p : Int) * (n : Int) = ((p * n : Nat) : Int) := (Int.natCast_mul p n).symm
          have hpn1 : ((p : Int) + 1) * (n : Int) = ((p * n + n : Nat) : Int) := by rw [Int.add_mul, hpn]; omega
          have hb64 : p * n + n ≤ 64 := by
            have : (p + 1) * n ≤ q * n := Nat.mul_le_mul_right _ (by omega)
            rw [Nat.add_mul] at this
            omega
          have hor0 : orB b (p * n) 0 = false := rfl
          have hor : ∀ c, orB b (p * n) (c + 1) = (orB b (p * n) c || b (p * n + c)) := fun c => rfl
          generalize orB b (p * n) = O at *
          generalize p * n = pn at *
          have hfin : O n = decide ((p : Int) < (i : Nat)) := by
            rw [hup]
            by_cases h : p < i
            · rw [hall p (by omega) h, decide_eq_true (by omega)]
            · obtain rfl : p = i := by omega
              rw [hne hpe.2, decide_eq_false (by omega)]
          (refine gw ?_; refine IfB.tt (by simp; omega) ?_)
          (refine gw ?_)
          rw [hdv]
          (refine gw ?_; refine IfB.tt (by simp; omega) ?_)
          (refine gw ?_)
          rw [hpn]
          (refine gw ?_; refine LoopN.mk ⟨[6,11,12,14,15,16], fun vs L => ∃ c : Nat, vs = [.ptr 0 0 0, i64 n, i64 i, i64 p, .bool (O c), i64 (pn + c : Nat)] ∧ L = [.row t_bool (bitR 64 b)] ∧ c ≤ n, fun vs L => match vs with | [_, _, _, _, _, .int _ i] => pn + n - i.toNat | _ => 0, [], [0], rfl, ⟨0, by rw [hor0]; rfl, rfl, by omega⟩, ?_⟩)
          rintro vs L ⟨c, rfl, rfl, hc⟩
          have hbl := bitR_len 64 b
          by_cases hcn : c < n
          · have hbt : ∀ Q : AV → Prop, Q (.bool (b (pn + c))) → At (bitR 64 b) ((pn + c : Nat) : Int).toNat Q := fun Q q => bitR_at (by omega) q
            have hor := hor c
            (refine gw ?_)
            rw [hpn1]
            (refine gw ?_; refine IfB.tt (by simp; omega) ?_)
            cases hO : O c with
            | true =>
              rw [hO, Bool.true_or] at hor
              (refine gw ?_; refine ⟨[], [0], rfl, ⟨c + 1, by rw [hor]; rfl, rfl, hcn⟩, (by omega : pn + n - (((pn + c : Nat) : Int) + 1).toNat < pn + n - ((pn + c : Nat) : Int).toNat)⟩)
            | false =>
              rw [hO, Bool.false_or] at hor
              (refine gw ?_)
              refine hbt _ ?_
              (refine gw ?_; refine ⟨[], [0], rfl, ⟨c + 1, by rw [hor]; rfl, rfl, hcn⟩, (by omega : pn + n - (((pn + c : Nat) : Int) + 1).toNat < pn + n - ((pn + c : Nat) : Int).toNat)⟩)
          · obtain rfl : c = n := by omega
            rw [hfin]
            (refine gw ?_)
            rw [hpn1]
            (refine gw ?_)
            (refine gw ?_; refine ⟨[], [0], rfl, ⟨p + 1, rfl, rfl, by omega, by omega⟩, (by omega : q - ((p : Int) + 1).toNat < q - (p : Int).toNat)⟩)
        · by_cases hpe1 : p ≤ i
          · (refine gw ?_; refine IfB.tt (by simp; omega) ?_)
            (refine gw ?_)
            rw [hdv]
            (refine gw ?_; refine IfB.ff (by simp; omega) ?_)
            (refine gw ?_; exact RetN.mk ⟨[], rfl, rfl, rfl⟩)
          · (refine gw ?_; refine IfB.ff (by simp; omega) ?_)
            (refine gw ?_; exact RetN.mk ⟨[], rfl, rfl, rfl⟩)
      | false =>
        obtain ⟨f1, f2⟩ := hqf rfl
        subst f1
        obtain rfl := f2.symm
        (refine gw ?_; refine Choice.mk ⟨false, Choice.mk ⟨false, _, _, d1, ?_⟩⟩)
        (refine gw ?_)
        rw [hdv]
        (refine gw ?_; refine Choice.mk ⟨false, Choice.mk ⟨false, _, _, hmay, ?_⟩⟩)
        (refine gw ?_; refine LoopN.mk ⟨[6,11,12,14], fun vs L => ∃ p : Nat, vs = [.ptr 0 0 0, i64 n, i64 q, i64 p] ∧ L = [.row t_bool (bitR 64 b)] ∧ p ≤ q ∧ p ≤ q + 1, fun vs L => match vs with | [_, _, _, .int _ i] => q - i.toNat | _ => 0, [], [1], rfl, ⟨0, rfl, rfl, by omega, by omega⟩, ?_⟩)
        rintro vs L ⟨p, rfl, rfl, hp1, hp2⟩
        by_cases hpe : p ≤ q ∧ p < q
        · have hup := hup p
          have hpn : (p : Int) * (n : Int) = ((p * n : Nat) : Int) := (Int.natCast_mul p n).symm
          have hpn1 : ((p : Int) + 1) * (n : Int) = ((p * n + n : Nat) : Int) := by rw [Int.add_mul, hpn]; omega
          have hb64 : p * n + n ≤ 64 := by
            have : (p + 1) * n ≤ q * n := Nat.mul_le_mul_right _ (by omega)
            rw [Nat.add_mul] at this
            omega
          have hor0 : orB b (p * n) 0 = false := rfl
          have hor : ∀ c, orB b (p * n) (c + 1) = (orB b (p * n) c || b (p * n + c)) := fun c => rfl
          generalize orB b (p * n) = O at *
          generalize p * n = pn at *
          have hfin : O n = decide ((p : Int) < (q : Nat)) := by
            rw [hup]
            by_cases h : p < q
            · rw [hall p (by omega) h, decide_eq_true (by omega)]
            · obtain rfl : p = q := by omega
              rw [hne hpe.2, decide_eq_false (by omega)]
          (refine gw ?_; refine IfB.tt (by simp; omega) ?_)
          (refine gw ?_)
          rw [hdv]
          (refine gw ?_; refine IfB.tt (by simp; omega) ?_)
          (refine gw ?_)
          rw [hpn]
          (refine gw ?_; refine LoopN.mk ⟨[6,11,12,14,15,16], fun vs L => ∃ c : Nat, vs = [.ptr 0 0 0, i64 n, i64 q, i64 p, .bool (O c), i64 (pn + c : Nat)] ∧ L = [.row t_bool (bitR 64 b)] ∧ c ≤ n, fun vs L => match vs with | [_, _, _, _, _, .int _ i] => pn + n - i.toNat | _ => 0, [], [0], rfl, ⟨0, by rw [hor0]; rfl, rfl, by omega⟩, ?_⟩)
          rintro vs L ⟨c, rfl, rfl, hc⟩
          have hbl := bitR_len 64 b
          by_cases hcn : c < n
          · have hbt : ∀ Q : AV → Prop, Q (.bool (b (pn + c))) → At (bitR 64 b) ((pn + c : Nat) : Int).toNat Q := fun Q q => bitR_at (by omega) q
            have hor := hor c
            (refine gw ?_)
            rw [hpn1]
            (refine gw ?_; refine IfB.tt (by simp; omega) ?_)
            cases hO : O c with
            | true =>
              rw [hO, Bool.true_or] at hor
              (refine gw ?_; refine ⟨[], [0], rfl, ⟨c + 1, by rw [hor]; rfl, rfl, hcn⟩, (by omega : pn + n - (((pn + c : Nat) : Int) + 1).toNat < pn + n - ((pn + c : Nat) : Int).toNat)⟩)
            | false =>
              rw [hO, Bool.false_or] at hor
              (refine gw ?_)
              refine hbt _ ?_
              (refine gw ?_; refine ⟨[], [0], rfl, ⟨c + 1, by rw [hor]; rfl, rfl, hcn⟩, (by omega : pn + n - (((pn + c : Nat) : Int) + 1).toNat < pn + n - ((pn + c : Nat) : Int).toNat)⟩)
          · obtain rfl : c = n := by omega
            rw [hfin]
            (refine gw ?_)
            rw [hpn1]
            (refine gw ?_)
            (refine gw ?_; refine ⟨[], [0], rfl, ⟨p + 1, rfl, rfl, by omega, by omega⟩, (by omega : q - ((p : Int) + 1).toNat < q - (p : Int).toNat)⟩)
        · by_cases hpe1 : p ≤ q
          · (refine gw ?_; refine IfB.tt (by simp; omega) ?_)
            (refine gw ?_)
            rw [hdv]
            (refine gw ?_; refine IfB.ff (by simp; omega) ?_)
            (refine gw ?_; exact RetN.mk ⟨[], rfl, rfl, rfl⟩)
          · (refine gw ?_; refine IfB.ff (by simp; omega) ?_)
            (refine gw ?_; exact RetN.mk ⟨[], rfl, rfl, rfl⟩)
  · refine told_of_ev (fn := law9_SlotsFree_fn) tabOk mixed (by kernel_rfl) (by kernel_rfl) (by kernel_rfl) (by kernel_rfl) ?_
    (refine gw ?_; refine Choice.mk ⟨false, Choice.mk ⟨false, _, _, cb, ?_⟩⟩)
    (refine gw ?_; refine IfB.tt (by rw [hml]; simp; omega) ?_)
    (refine gw ?_; exact RetN.mk ⟨[], rfl, rfl, rfl⟩)
theorem slotsFree {x0 x1 : AV} (h0 : Shp T 8 22 x0) (h1 : Shp T 8 5 x1) : Told P T law9_SlotsFree [] [x0, x1] (.bool true) [] := by
  obtain ⟨l, rfl, hl, hlm⟩ := shp_bytes h0
  obtain ⟨n, rfl, hn⟩ := shp_u8 (by kernel_rfl) h1
  exact slotsFree_told l hl hlm n hn
end Go.Ev.W
