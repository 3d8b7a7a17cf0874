/- Words and lemmas, part 2, for laws of this seat (a part of their proofs). -/
import Derived.Test.YtbhjocgepgpnmaaGreatQ1
import Derived.Test.YtbhjocgepgpnmaaGreatNm
import Derived.Test.YtbhjocgepgpnmaaGreatEvOpen
import Derived.Test.YtbhjocgepgpnmaaGreatEvLib
import Derived.Test.YtbhjocgepgpnmaaGreatEvGrid
import Derived.Test.YtbhjocgepgpnmaaGreatEvTrim
set_option linter.unusedVariables false
set_option linter.unusedSimpArgs false
namespace Go.Ev.W
open Go.Ev Go.Ev.N

/-- The least power of two that is not below a number. -/
def upN (v : Nat) : Nat := if v ≤ 1 then 1 else 2 ^ (Nat.log2 (v - 1) + 1)
theorem upN_pow (v : Nat) : ∃ k, upN v = 2 ^ k := by
  unfold upN; split
  · exact ⟨0, rfl⟩
  · exact ⟨_, rfl⟩
theorem le_upN (v : Nat) : v ≤ upN v := by
  unfold upN; split
  · assumption
  · have := Nat.lt_log2_self (n := v - 1); omega
theorem upN_le {v k : Nat} (h : v ≤ 2 ^ k) : upN v ≤ 2 ^ k := by
  unfold upN; split
  · exact Nat.one_le_two_pow
  · refine Nat.pow_le_pow_right (by omega) ?_
    rw [Nat.succ_le_iff, Nat.log2_lt (by omega)]
    omega
theorem upN_lt {v : Nat} (h : 1 ≤ v) : upN v < 2 * v := by
  unfold upN; split
  · omega
  · have := Nat.log2_self_le (n := v - 1) (by omega)
    rw [Nat.pow_succ]; omega
theorem upN_pos (v : Nat) : 1 ≤ upN v := by obtain ⟨k, h⟩ := upN_pow v; rw [h]; exact Nat.one_le_two_pow
theorem pow_lt_dbl {j k : Nat} (h : 2 ^ j < 2 ^ k) : 2 ^ j * 2 ≤ 2 ^ k := by
  have : j < k := (Nat.pow_lt_pow_iff_right (by omega)).1 h
  rw [← Nat.pow_succ]; exact Nat.pow_le_pow_right (by omega) this

theorem refUp_told (v : Nat) (h1 : 1 ≤ v) (h2 : v ≤ 1000000) : Told P T ref1_Up [] [i64 v] (.tup [i64 (upN v : Nat), .bool true]) [] := by
  have hu := upN_lt h1
  refine told_of_ev (fn := ref1_Up_fn) tabOk mixed (by kernel_rfl) (by kernel_rfl) (by kernel_rfl) (by kernel_rfl) ?_
  (refine gw ?_; first | refine IfB.dec (fun h3 => ?_) (fun h3 => ?_) | refine IfB.eq (fun h3 => ?_) (fun h3 => ?_) | refine IfB.ne (fun h3 => ?_) (fun h3 => ?_) | refine IfB.mk (fun h3 => ?_) (fun h3 => ?_))
  · omega
  · (refine gw ?_; first | refine IfB.dec (fun h4 => ?_) (fun h4 => ?_) | refine IfB.eq (fun h4 => ?_) (fun h4 => ?_) | refine IfB.ne (fun h4 => ?_) (fun h4 => ?_) | refine IfB.mk (fun h4 => ?_) (fun h4 => ?_))
    · omega
    · (refine gw ?_; refine LoopN.mk ⟨[0,4], fun vs L => ∃ j : Nat, vs = [i64 v, i64 (2 ^ j : Nat)] ∧ L = [] ∧ 2 ^ j ≤ upN v, fun vs L => match vs with | [_, .int _ i] => 4000000 - i.toNat | _ => 0, [], [], rfl, ⟨0, rfl, rfl, upN_pos v⟩, ?_⟩)
      rintro vs L ⟨j, rfl, rfl, hj⟩
      obtain ⟨p, hp⟩ : ∃ p, 2 ^ j = p := ⟨_, rfl⟩
      obtain ⟨k, hk⟩ := upN_pow v
      have hle := le_upN v
      (refine gw ?_; first | refine IfB.dec (fun h5 => ?_) (fun h5 => ?_) | refine IfB.eq (fun h5 => ?_) (fun h5 => ?_) | refine IfB.ne (fun h5 => ?_) (fun h5 => ?_) | refine IfB.mk (fun h5 => ?_) (fun h5 => ?_))
      · have hd : 2 ^ j * 2 ≤ upN v := by rw [hk]; exact pow_lt_dbl (by omega)
        have e : ((2 ^ (j + 1) : Nat) : Int) = ((2 ^ j : Nat) : Int) * 2 := by rw [Nat.pow_succ]; omega
        rw [hp] at hd e ⊢
        have hpos : 1 ≤ p := by rw [← hp]; exact Nat.one_le_two_pow
        (refine gw ?_; refine ⟨[], [], rfl, ⟨j + 1, by rw [e]; rfl, rfl, by rw [Nat.pow_succ, hp]; exact hd⟩, (by omega : 4000000 - ((p : Int) * 2).toNat < 4000000 - (p : Int).toNat)⟩)
      · have e : upN v = 2 ^ j := by
          have := upN_le (v := v) (k := j) (by omega)
          omega
        rw [e]
        (refine gw ?_; exact RetN.mk ⟨[], rfl, rfl, rfl⟩)

/-- Which power of two. -/
def logF (v : Int) : Nat × Bool := if 1 ≤ v ∧ v = ((2 ^ Nat.log2 v.toNat : Nat) : Int) then (Nat.log2 v.toNat, true) else (0, false)
theorem logF_pow (k : Nat) : logF ((2 ^ k : Nat) : Int) = (k, true) := by
  have h := Nat.one_le_two_pow (n := k)
  have hl := Nat.log2_two_pow (n := k)
  unfold logF
  obtain ⟨q, hq⟩ : ∃ q, 2 ^ k = q := ⟨_, rfl⟩
  rw [hq] at h hl ⊢
  rw [Int.toNat_natCast, hl, hq, if_pos ⟨by omega, rfl⟩]
theorem refLog_told (v : Int) (h2 : v ≤ 9223372036854775807) : Told P T ref1_Log [] [i64 v] (.tup [i64 ((logF v).1 : Nat), .bool (logF v).2]) [] := by
  refine told_of_ev (fn := ref1_Log_fn) tabOk mixed (by kernel_rfl) (by kernel_rfl) (by kernel_rfl) (by kernel_rfl) ?_
  (refine gw ?_; refine LoopN.mk ⟨[0,4,5], fun vs L => ∃ j : Nat, vs = [i64 v, i64 (2 ^ (min j 62) : Nat), i64 j] ∧ L = [] ∧ j ≤ 63 ∧ ∀ i, i < j → v ≠ ((2 ^ i : Nat) : Int), fun vs L => match vs with | [_, _, .int _ i] => 63 - i.toNat | _ => 0, [], [], rfl, ⟨0, rfl, rfl, by omega, fun i h => by omega⟩, ?_⟩)
  rintro vs L ⟨j, rfl, rfl, hj, hn⟩
  (refine gw ?_; first | refine IfB.dec (fun h1 => ?_) (fun h1 => ?_) | refine IfB.eq (fun h1 => ?_) (fun h1 => ?_) | refine IfB.ne (fun h1 => ?_) (fun h1 => ?_) | refine IfB.mk (fun h1 => ?_) (fun h1 => ?_))
  · have hj2 : j < 63 := by omega
    have em : min j 62 = j := by omega
    rw [em]
    (refine gw ?_; first | refine IfB.dec (fun h2 => ?_) (fun h2 => ?_) | refine IfB.eq (fun h2 => ?_) (fun h2 => ?_) | refine IfB.ne (fun h2 => ?_) (fun h2 => ?_) | refine IfB.mk (fun h2 => ?_) (fun h2 => ?_))
    · have e := logF_pow j
      rw [h2] at e
      rw [e]
      (refine gw ?_; exact RetN.mk ⟨[], rfl, rfl, rfl⟩)
    · have hn' : ∀ i, i < j + 1 → v ≠ ((2 ^ i : Nat) : Int) := fun i hi => by
        rcases Nat.lt_or_ge i j with h | h
        · exact hn i h
        · rw [show i = j by omega]; exact fun h => h2 h.symm
      (refine gw ?_; first | refine IfB.dec (fun h3 => ?_) (fun h3 => ?_) | refine IfB.eq (fun h3 => ?_) (fun h3 => ?_) | refine IfB.ne (fun h3 => ?_) (fun h3 => ?_) | refine IfB.mk (fun h3 => ?_) (fun h3 => ?_))
      · have hp : 2 ^ (j + 1) ≤ 2 ^ 62 := Nat.pow_le_pow_right (by omega) (by omega)
        have e : ((2 ^ (min (j + 1) 62) : Nat) : Int) = ((2 ^ j : Nat) : Int) * 2 := by rw [show min (j + 1) 62 = j + 1 by omega, Nat.pow_succ]; omega
        rw [Nat.pow_succ] at hp
        have hpos : 0 < 2 ^ j := Nat.two_pow_pos j
        generalize 2 ^ j = q at hp e hpos ⊢
        (refine gw ?_; refine ⟨[], [], rfl, ⟨j + 1, by rw [e]; rfl, rfl, by omega, hn'⟩, (by omega : 63 - ((j : Int) + 1).toNat < 63 - (j : Int).toNat)⟩)
      · have e : j = 62 := by omega
        subst e
        (refine gw ?_; refine ⟨[], [], rfl, ⟨63, rfl, rfl, by omega, hn'⟩, (by omega : 63 - (((62 : Nat) : Int) + 1).toNat < 63 - ((62 : Nat) : Int).toNat)⟩)
  · have e : logF v = (0, false) := by
      unfold logF
      rw [if_neg]
      rintro ⟨h3, h4⟩
      refine hn (Nat.log2 v.toNat) ?_ h4
      rw [Nat.log2_lt (by omega)]
      have : v.toNat ≤ 9223372036854775807 := by omega
      have e63 : (2 : Nat) ^ j ≥ 2 ^ 63 := Nat.pow_le_pow_right (by omega) (by omega)
      omega
    rw [e]
    (refine gw ?_; exact RetN.mk ⟨[], rfl, rfl, rfl⟩)

/-- What there is. -/
structure Cf where
  G : Nat
  N : Nat
  M : Nat
  L : Nat
  Pg : Nat
  P : Nat
  H : Nat
  Sd : Nat
  deriving DecidableEq
def eC (c : Cf) : AV := .agg [i64 c.G, i64 c.N, i64 c.M, i64 c.L, i64 c.Pg, i64 c.P, i64 c.H, i64 c.Sd]
/-- What is asked for. -/
structure Rw where
  g : Int
  l : Int
  m : Int
  p : Int
  b : Int
  s : Int
  deriving DecidableEq
def eR (r : Rw) : AV := .agg [i64 r.g, i64 r.l, i64 r.m, i64 r.p, i64 r.b, i64 r.s]
def cf0 : Cf := ⟨0, 0, 0, 0, 0, 0, 0, 0⟩
def inR (v : Int) : Bool := decide (1 ≤ v ∧ v ≤ 65536)
def Rw.ok (r : Rw) : Bool := inR r.g && inR r.l && inR r.m && inR r.p && decide (0 ≤ r.b ∧ r.b ≤ 65536) && decide (0 ≤ r.s ∧ r.s ≤ 255)
def rnd (v t : Nat) : Nat := if v % t = 0 then v else v - v % t + t
def cfOf (r : Rw) : Cf :=
  let g := upN r.g.toNat
  let n := upN (max r.l.toNat g)
  let pg := upN (max r.p.toNat g)
  let m := rnd r.m.toNat (2 * max n pg)
  let l := Nat.log2 (n / g)
  ⟨g, n, m, l, pg, r.b.toNat, m + l * (m / 2), r.s.toNat⟩
def ofF (r : Rw) : Cf × Nat := if r.ok = true ∧ (cfOf r).H ≤ 65536 then (cfOf r, 0) else (cf0, 1)

theorem refAdd_told (a b : Int) (ha : 0 ≤ a) (hb : 1 ≤ b) (hab : a + b ≤ 9223372036854775807) : Told P T ref1_Add [] [i64 a, i64 b] (.tup [i64 (a + b), .bool true]) [] := by
  refine told_of_ev (fn := ref1_Add_fn) tabOk mixed (by kernel_rfl) (by kernel_rfl) (by kernel_rfl) (by kernel_rfl) ?_
  repeat' ((conv => whnf); first | (refine Sure.mk (by kernel_rfl) ?_) | (refine IfB.tt rfl ?_) | (refine IfB.ff rfl ?_) | (refine IfB.tt ?_ ?_; (focus (simp <;> fail))) | (refine IfB.ff ?_ ?_; (focus (simp <;> fail))) | (refine fits (wrap64 ?_ ?_) ?_; (focus omega); (focus omega)) | (refine fits (wrapU64 ?_ ?_) ?_; (focus omega); (focus omega)) | (refine Need.mk ?_ ?_; (focus omega)) | (refine InB.mk ?_ ?_ ?_; (focus omega); (focus omega)) | (refine IfB.dec (fun h => ?_) (fun h => ?_)) | (refine IfB.eq (fun h => ?_) (fun h => ?_)) | (refine IfB.ne (fun h => ?_) (fun h => ?_)))
  all_goals first | omega | (refine gw ?_; exact RetN.mk ⟨[], rfl, rfl, rfl⟩)
theorem refRound_told (v t : Nat) (hv : v ≤ 1000000) (h1 : 1 ≤ t) (h2 : t ≤ 1000000) : Told P T ref1_Round [] [i64 v, i64 t] (.tup [i64 (rnd v t : Nat), .bool true]) [] := by
  have em : ((v : Nat) : Int).tmod (t : Nat) = ((v % t : Nat) : Int) := by rw [Int.tmod_eq_emod_of_nonneg (by omega)]; omega
  have hm := Nat.mod_lt v h1
  have hd := Nat.mod_le v t
  refine told_of_ev (fn := ref1_Round_fn) tabOk mixed (by kernel_rfl) (by kernel_rfl) (by kernel_rfl) (by kernel_rfl) ?_
  (refine gw ?_; first | refine IfB.dec (fun h4 => ?_) (fun h4 => ?_) | refine IfB.eq (fun h4 => ?_) (fun h4 => ?_) | refine IfB.ne (fun h4 => ?_) (fun h4 => ?_) | refine IfB.mk (fun h4 => ?_) (fun h4 => ?_))
  · omega
  · refine gw ?_
    rw [em]
    (refine gw ?_; first | refine IfB.dec (fun h5 => ?_) (fun h5 => ?_) | refine IfB.eq (fun h5 => ?_) (fun h5 => ?_) | refine IfB.ne (fun h5 => ?_) (fun h5 => ?_) | refine IfB.mk (fun h5 => ?_) (fun h5 => ?_))
    · have e : rnd v t = v := by unfold rnd; rw [if_pos (by omega)]
      rw [e]
      (refine gw ?_; exact RetN.mk ⟨[], rfl, rfl, rfl⟩)
    · have e : rnd v t = v - v % t + t := by unfold rnd; rw [if_neg (by omega)]
      have c := refAdd_told ((v : Int) - ((v % t : Nat) : Int)) t (by omega) (by omega) (by omega)
      have e2 : ((v - v % t + t : Nat) : Int) = (v : Int) - ((v % t : Nat) : Int) + t := by omega
      rw [e, e2]
      refine gw ?_
      rw [em]
      refine gw ?_
      (refine gw ?_; refine Choice.mk ⟨false, Choice.mk ⟨true, _, _, c, ?_⟩⟩)
      (refine gw ?_; exact RetN.mk ⟨[], rfl, rfl, rfl⟩)

/-- What holds of what there is. -/
structure Cf.Ok (c : Cf) : Prop where
  g : ∃ a, c.G = 2 ^ a
  n : c.N = c.G * 2 ^ c.L
  p : ∃ e, c.Pg = c.G * 2 ^ e
  m : ∃ q, c.M = 2 * max c.N c.Pg * q
  m1 : 1 ≤ c.M
  h : c.H = c.M + c.L * (c.M / 2)
  h2 : c.H ≤ 65536
  b : c.P ≤ 65536
  s : c.Sd ≤ 255
theorem pow_up {g v : Nat} (hg : ∃ a, g = 2 ^ a) : ∃ e, upN (max v g) = g * 2 ^ e := by
  obtain ⟨a, rfl⟩ := hg
  obtain ⟨b, hb⟩ := upN_pow (max v (2 ^ a))
  have h1 := le_upN (max v (2 ^ a))
  rw [hb] at h1 ⊢
  have : a ≤ b := (Nat.pow_le_pow_iff_right (a := 2) (by omega)).1 (Nat.le_trans (Nat.le_max_right _ _) h1)
  exact ⟨b - a, by rw [← Nat.pow_add]; congr 1; omega⟩
theorem rnd_spec {v t : Nat} (h : 1 ≤ t) : ∃ q, rnd v t = t * q ∧ v ≤ rnd v t ∧ rnd v t < v + t := by
  have h1 := Nat.div_add_mod v t
  have h2 := Nat.mod_lt v h
  unfold rnd
  split
  · exact ⟨v / t, by omega, by omega, by omega⟩
  · refine ⟨v / t + 1, ?_, by omega, by omega⟩
    rw [Nat.mul_add]; omega
theorem log_of {G N k : Nat} (hg : 1 ≤ G) (h : N = G * 2 ^ k) : Nat.log2 (N / G) = k := by
  rw [h, Nat.mul_div_cancel_left _ (by omega), Nat.log2_two_pow]
theorem ofF_ok {r : Rw} (h : (ofF r).2 = 0) : (ofF r).1.Ok ∧ r.ok = true ∧ (ofF r).1 = cfOf r := by
  unfold ofF at h ⊢
  split at h
  · rename_i hh
    rw [if_pos hh]
    obtain ⟨hr, hH⟩ := hh
    refine ⟨?_, hr, rfl⟩
    simp only [Rw.ok, inR, Bool.and_eq_true, decide_eq_true_eq] at hr
    obtain ⟨⟨⟨⟨⟨r1, r2⟩, r3⟩, r4⟩, r5⟩, r6⟩ := hr
    have g := upN_pow r.g.toNat
    obtain ⟨k, hk⟩ := pow_up (v := r.l.toNat) g
    obtain ⟨e, he⟩ := pow_up (v := r.p.toNat) g
    have hg1 := upN_pos r.g.toNat
    have hn1 := upN_pos (max r.l.toNat (upN r.g.toNat))
    have hlog := log_of hg1 hk
    obtain ⟨q, q1, q2, q3⟩ := rnd_spec (v := r.m.toNat) (t := 2 * max (upN (max r.l.toNat (upN r.g.toNat))) (upN (max r.p.toNat (upN r.g.toNat)))) (by omega)
    exact ⟨g, by show upN _ = upN _ * 2 ^ Nat.log2 _; rw [hlog]; exact hk, ⟨e, he⟩, ⟨q, q1⟩, by show 1 ≤ rnd _ _; omega, rfl, hH, by show r.b.toNat ≤ _; omega, by show r.s.toNat ≤ _; omega⟩
  · cases h

set_option maxHeartbeats 2000000 in
theorem refOf_told (r : Rw) : Told P T ref1_Of [] [eR r] (.tup [eC (ofF r).1, i64 ((ofF r).2 : Nat)]) [] := by
  have bad : r.ok = false → ofF r = (cf0, 1) := fun h => by unfold ofF; rw [if_neg (by rw [h]; simp)]
  obtain ⟨g, l, m, p, b, s⟩ := r
  refine told_of_ev (fn := ref1_Of_fn) tabOk mixed (by kernel_rfl) (by kernel_rfl) (by kernel_rfl) (by kernel_rfl) ?_
  (refine gw ?_; refine LoopN.mk ⟨[1,2,4,5], fun vs L => ∃ i : Nat, vs = [.ptr 0 0 0, .ptr 1 0 0, .lst t_int ([g, l, m, p].map i64), i64 i] ∧ L = [.var (.agg [i64 g, i64 l, i64 m, i64 p, i64 b, i64 s]), .var (eC cf0)] ∧ i ≤ 4 ∧ ∀ j (h : j < [g, l, m, p].length), j < i → inR ([g, l, m, p][j]) = true, fun vs L => match vs with | [_, _, _, .int _ i] => 4 - i.toNat | _ => 0, [4], [0,1], rfl, ⟨0, rfl, rfl, by omega, fun j _ h => by omega⟩, ?_⟩)
  rintro vs L ⟨i, rfl, rfl, hi, hin⟩
  (refine gw ?_; first | refine IfB.dec (fun h1 => ?_) (fun h1 => ?_) | refine IfB.eq (fun h1 => ?_) (fun h1 => ?_) | refine IfB.ne (fun h1 => ?_) (fun h1 => ?_) | refine IfB.mk (fun h1 => ?_) (fun h1 => ?_))
  · have hlt : i < [g, l, m, p].length := by simp; omega
    obtain ⟨x, hx⟩ : ∃ x, [g, l, m, p][i] = x := ⟨_, rfl⟩
    have hbad : inR x = false → ofF ⟨g, l, m, p, b, s⟩ = (cf0, 1) := fun h => bad (by
      have : ∃ y ∈ [g, l, m, p], inR y = false := ⟨x, by rw [← hx]; exact List.getElem_mem _, h⟩
      simp only [List.mem_cons, List.not_mem_nil, or_false] at this
      obtain ⟨y, hy, h⟩ := this
      unfold Rw.ok
      rcases hy with rfl | rfl | rfl | rfl <;> simp [h])
    (refine gw ?_; refine idx_map (hlt) ?_)
    rw [hx]
    (refine gw ?_; first | refine IfB.dec (fun h2 => ?_) (fun h2 => ?_) | refine IfB.eq (fun h2 => ?_) (fun h2 => ?_) | refine IfB.ne (fun h2 => ?_) (fun h2 => ?_) | refine IfB.mk (fun h2 => ?_) (fun h2 => ?_))
    · rw [hbad (by simp [inR]; omega)]
      (refine gw ?_; exact RetN.mk ⟨[], rfl, rfl, rfl⟩)
    · (refine gw ?_; refine idx_map (hlt) ?_)
      rw [hx]
      (refine gw ?_; first | refine IfB.dec (fun h3 => ?_) (fun h3 => ?_) | refine IfB.eq (fun h3 => ?_) (fun h3 => ?_) | refine IfB.ne (fun h3 => ?_) (fun h3 => ?_) | refine IfB.mk (fun h3 => ?_) (fun h3 => ?_))
      · rw [hbad (by simp [inR]; omega)]
        (refine gw ?_; exact RetN.mk ⟨[], rfl, rfl, rfl⟩)
      · have hx' : inR x = true := by simp [inR]; omega
        (refine gw ?_; refine ⟨[4], [0,1], rfl, ⟨i + 1, rfl, rfl, by omega, fun j h hj => ?_⟩, (by omega : 4 - ((i : Int) + 1).toNat < 4 - (i : Int).toNat)⟩)
        rcases Nat.lt_or_ge j i with h' | h'
        · exact hin j h h'
        · have : j = i := by omega
          subst this; rw [hx]; exact hx'
  · have e4 : i = 4 := by omega
    subst e4
    have i1 := hin 0 (by simp) (by omega)
    have i2 := hin 1 (by simp) (by omega)
    have i3 := hin 2 (by simp) (by omega)
    have i4 := hin 3 (by simp) (by omega)
    simp only [List.getElem_cons_zero, List.getElem_cons_succ] at i1 i2 i3 i4
    simp only [inR, decide_eq_true_eq] at i1 i2 i3 i4
    have hr : (Rw.ok ⟨g, l, m, p, b, s⟩) = (decide (0 ≤ b ∧ b ≤ 65536) && decide (0 ≤ s ∧ s ≤ 255)) := by simp [Rw.ok, inR, i1, i2, i3, i4]
    (refine gw ?_; first | refine IfB.dec (fun h2 => ?_) (fun h2 => ?_) | refine IfB.eq (fun h2 => ?_) (fun h2 => ?_) | refine IfB.ne (fun h2 => ?_) (fun h2 => ?_) | refine IfB.mk (fun h2 => ?_) (fun h2 => ?_))
    · rw [bad (by rw [hr]; simp; omega)]
      (refine gw ?_; exact RetN.mk ⟨[], rfl, rfl, rfl⟩)
    · (refine gw ?_; first | refine IfB.dec (fun h3 => ?_) (fun h3 => ?_) | refine IfB.eq (fun h3 => ?_) (fun h3 => ?_) | refine IfB.ne (fun h3 => ?_) (fun h3 => ?_) | refine IfB.mk (fun h3 => ?_) (fun h3 => ?_))
      · rw [bad (by rw [hr]; simp; omega)]
        (refine gw ?_; exact RetN.mk ⟨[], rfl, rfl, rfl⟩)
      · (refine gw ?_; first | refine IfB.dec (fun h4 => ?_) (fun h4 => ?_) | refine IfB.eq (fun h4 => ?_) (fun h4 => ?_) | refine IfB.ne (fun h4 => ?_) (fun h4 => ?_) | refine IfB.mk (fun h4 => ?_) (fun h4 => ?_))
        · rw [bad (by rw [hr]; simp; omega)]
          (refine gw ?_; exact RetN.mk ⟨[], rfl, rfl, rfl⟩)
        · (refine gw ?_; first | refine IfB.dec (fun h5 => ?_) (fun h5 => ?_) | refine IfB.eq (fun h5 => ?_) (fun h5 => ?_) | refine IfB.ne (fun h5 => ?_) (fun h5 => ?_) | refine IfB.mk (fun h5 => ?_) (fun h5 => ?_))
          · rw [bad (by rw [hr]; simp; omega)]
            (refine gw ?_; exact RetN.mk ⟨[], rfl, rfl, rfl⟩)
          · have hok : Rw.ok ⟨g, l, m, p, b, s⟩ = true := by rw [hr]; simp; omega
            obtain ⟨G, hG⟩ : ∃ G, upN g.toNat = G := ⟨_, rfl⟩
            obtain ⟨N, hN⟩ : ∃ N, upN (max l.toNat G) = N := ⟨_, rfl⟩
            obtain ⟨Pg, hPg⟩ : ∃ Pg, upN (max p.toNat G) = Pg := ⟨_, rfl⟩
            obtain ⟨M, hM⟩ : ∃ M, rnd m.toNat (2 * max N Pg) = M := ⟨_, rfl⟩
            obtain ⟨K, hK⟩ : ∃ K, Nat.log2 (N / G) = K := ⟨_, rfl⟩
            have hcf : cfOf ⟨g, l, m, p, b, s⟩ = ⟨G, N, M, K, Pg, b.toNat, M + K * (M / 2), s.toNat⟩ := by
              unfold cfOf; simp only [hG, hN, hPg, hM, hK]
            have bG := upN_lt (v := g.toNat) (by omega)
            have bG0 := upN_pos g.toNat
            rw [hG] at bG bG0
            have bN := upN_lt (v := max l.toNat G) (by omega)
            rw [hN] at bN
            have bN0 := le_upN (max l.toNat G)
            rw [hN] at bN0
            have bP := upN_lt (v := max p.toNat G) (by omega)
            rw [hPg] at bP
            have c1 := refUp_told g.toNat (by omega) (by omega)
            rw [hG, show ((g.toNat : Nat) : Int) = g by omega] at c1
            have c2 := refUp_told (max l.toNat G) (by omega) (by omega)
            rw [hN, show ((max l.toNat G : Nat) : Int) = (if ((G : Nat) : Int) > l then ((G : Nat) : Int) else l) by split <;> omega] at c2
            have c3 := refUp_told (max p.toNat G) (by omega) (by omega)
            rw [hPg, show ((max p.toNat G : Nat) : Int) = (if ((G : Nat) : Int) > p then ((G : Nat) : Int) else p) by split <;> omega] at c3
            have c4 := refRound_told m.toNat (2 * max N Pg) (by omega) (by omega) (by omega)
            rw [hM, show ((2 * max N Pg : Nat) : Int) = 2 * (if ((Pg : Nat) : Int) > ((N : Nat) : Int) then ((Pg : Nat) : Int) else ((N : Nat) : Int)) by split <;> omega, show ((m.toNat : Nat) : Int) = m by omega] at c4
            obtain ⟨q, q1, q2, q3⟩ := rnd_spec (v := m.toNat) (t := 2 * max N Pg) (by omega)
            rw [hM] at q1 q2 q3
            obtain ⟨k0, hk0⟩ := pow_up (v := l.toNat) (hG ▸ upN_pow g.toNat)
            rw [hN] at hk0
            have hK0 : K = k0 := by rw [← hK]; exact log_of bG0 hk0
            have c5 := refLog_told ((N / G : Nat) : Int) (by have := Nat.div_le_self N G; omega)
            have e5 : N / G = 2 ^ K := by rw [hk0, hK0, Nat.mul_div_cancel_left _ (by omega)]
            rw [e5, logF_pow, ← e5, show ((N / G : Nat) : Int) = ((N : Nat) : Int).tdiv ((G : Nat) : Int) by rw [Int.tdiv_eq_ediv_of_nonneg (by omega)]; omega] at c5
            have bK : K < 20 := by
              have h6 : 2 ^ K ≤ 2 ^ 18 := by rw [← e5]; have := Nat.div_le_self N G; omega
              have := (Nat.pow_le_pow_iff_right (a := 2) (by omega)).1 h6
              omega
            have bKM : K * (M / 2) ≤ 20 * (M / 2) := Nat.mul_le_mul_right _ (by omega)
            have hM2 : ((M : Nat) : Int).tdiv 2 = ((M / 2 : Nat) : Int) := by rw [Int.tdiv_eq_ediv_of_nonneg (by omega)]; omega
            have hKM : ((K : Nat) : Int) * ((M / 2 : Nat) : Int) = ((K * (M / 2) : Nat) : Int) := by rw [Int.natCast_mul]
            (refine gw ?_; refine Choice.mk ⟨false, Choice.mk ⟨false, _, _, c1, ?_⟩⟩)
            (refine gw ?_; refine Choice.mk ⟨false, Choice.mk ⟨false, _, _, c2, ?_⟩⟩)
            (refine gw ?_; refine Choice.mk ⟨false, Choice.mk ⟨false, _, _, c3, ?_⟩⟩)
            (refine gw ?_; refine Choice.mk ⟨false, Choice.mk ⟨false, _, _, c4, ?_⟩⟩)
            have hdiv : ((N : Nat) : Int).tdiv ((G : Nat) : Int) = ((N / G : Nat) : Int) := by rw [Int.tdiv_eq_ediv_of_nonneg (by omega)]; omega
            have hdle := Nat.div_le_self N G
            have hd0 : (0 : Int) ≤ ((N / G : Nat) : Int) := Int.natCast_nonneg _
            (refine gw ?_)
            (refine gw ?_; refine Choice.mk ⟨false, Choice.mk ⟨true, _, _, c5, ?_⟩⟩)
            (refine gw ?_)
            rw [hM2]
            (refine gw ?_)
            rw [hKM]
            (refine gw ?_)
            have hH : (M : Int) + ((K * (M / 2) : Nat) : Int) = ((M + K * (M / 2) : Nat) : Int) := by omega
            rw [hH]
            (refine gw ?_; first | refine IfB.dec (fun h6 => ?_) (fun h6 => ?_) | refine IfB.eq (fun h6 => ?_) (fun h6 => ?_) | refine IfB.ne (fun h6 => ?_) (fun h6 => ?_) | refine IfB.mk (fun h6 => ?_) (fun h6 => ?_))
            · rw [show ofF ⟨g, l, m, p, b, s⟩ = (cf0, 1) by unfold ofF; rw [if_neg (by rw [hcf]; simp only; omega)]]
              (refine gw ?_; exact RetN.mk ⟨[], rfl, rfl, rfl⟩)
            · rw [show ofF ⟨g, l, m, p, b, s⟩ = (cfOf ⟨g, l, m, p, b, s⟩, 0) by unfold ofF; rw [if_pos ⟨hok, by rw [hcf]; simp only; omega⟩], hcf]
              (refine gw ?_; refine RetN.mk ⟨[], rfl, ?_, rfl⟩)
              rw [show b = ((b.toNat : Nat) : Int) by omega, show s = ((s.toNat : Nat) : Int) by omega]
              rfl

theorem Cf.Ok.gpos {c : Cf} (h : c.Ok) : 1 ≤ c.G := by obtain ⟨a, e⟩ := h.g; rw [e]; exact Nat.one_le_two_pow
theorem Cf.Ok.nM {c : Cf} (h : c.Ok) : 2 * c.N ≤ c.M := by
  obtain ⟨q, e⟩ := h.m
  have := h.m1
  cases q with
  | zero => rw [Nat.mul_zero] at e; omega
  | succ q =>
    rw [Nat.mul_succ] at e
    have := Nat.zero_le (2 * max c.N c.Pg * q)
    omega
theorem Cf.Ok.mH {c : Cf} (h : c.Ok) : c.M ≤ 65536 := by have := h.h; have := h.h2; omega
theorem Cf.Ok.lL {c : Cf} (h : c.Ok) : c.L ≤ 16 := by
  have h1 := h.nM
  have h2 := h.mH
  have h3 := h.n
  have h4 := h.gpos
  have h5 : 2 ^ c.L ≤ 2 ^ 15 := by
    have : 1 * 2 ^ c.L ≤ c.G * 2 ^ c.L := Nat.mul_le_mul_right _ h4
    omega
  have := (Nat.pow_le_pow_iff_right (a := 2) (by omega)).1 h5
  omega
end Go.Ev.W
namespace Go.Ev.X
open Go.Ev Go.Ev.N

/-- What six numbers are made of. -/
def rw3 (bs : List Int) (i : Nat) : Int := rd3 (bs.getD (3 * i) 0) (bs.getD (3 * i + 1) 0) (bs.getD (3 * i + 2) 0)
def rawK (bs : List Int) (k : Nat) : AV := .agg [.int .i64 (if 0 < k then rw3 bs 0 else 0), .int .i64 (if 1 < k then rw3 bs 1 else 0), .int .i64 (if 2 < k then rw3 bs 2 else 0), .int .i64 (if 3 < k then rw3 bs 3 else 0), .int .i64 (if 4 < k then rw3 bs 4 else 0), .int .i64 0]
def rawB (bs : List Int) : W.Rw := ⟨rw3 bs 0, rw3 bs 1, rw3 bs 2, rw3 bs 3, rw3 bs 4, bs.getD 15 0⟩
theorem idx_b {bs : List Int} {i : Int} {Q : AV → Prop} (k : Nat) (e : i = k) (h : k < bs.length) (q : Q (.int .u8 (bs.getD k 0))) : Idx (encB bs) i Q := by
  refine ⟨_, by omega, ?_, q⟩
  subst e
  simp [encB, List.getD_eq_getElem?_getD, h]
theorem at_bd {bs : List Int} (hb : IsB bs) (k : Nat) : 0 ≤ bs.getD k 0 ∧ bs.getD k 0 < 256 := by
  rw [List.getD_eq_getElem?_getD]
  by_cases h : k < bs.length
  · rw [List.getElem?_eq_getElem h]; exact hb _ (List.getElem_mem h)
  · rw [List.getElem?_eq_none (by omega)]; simp
set_option maxRecDepth 20000 in
set_option maxHeartbeats 4000000 in
theorem decode_short {bs : List Int} (h : bs.length < 16) : Told P T play_Decode [] [.lst t_uint8 (encB bs)] (.tup [W.eR ⟨0, 0, 0, 0, 0, 0⟩, .lst t_api_Op [], .bool false]) [] := by
  have hle : (encB bs).length = bs.length := by simp [encB]
  refine told_of_ev (fn := play_Decode_fn) tabOk mixed (by kernel_rfl) (by kernel_rfl) (by kernel_rfl) (by kernel_rfl) ?_
  (refine gw ?_; refine IfB.tt (by rw [hle]; simp; omega) ?_)
  (refine gw ?_)
  exact RetN.fz ⟨[false, true, false], [], rfl, rfl, rfl⟩
set_option maxRecDepth 20000 in
set_option maxHeartbeats 8000000 in
theorem decode_told {bs : List Int} (hb : IsB bs) (hl : bs.length ≤ 1000000) (h : 16 ≤ bs.length) : Told P T play_Decode [] [.lst t_uint8 (encB bs)] (.tup [W.eR (rawB bs), .lst t_api_Op ((take (bs.drop 16)).map encO), .bool true]) [] := by
  have hle : (encB bs).length = bs.length := by simp [encB]
  have c1 := take_told (bs.drop 16) (fun x hx => hb x (List.mem_of_mem_drop hx)) (by rw [List.length_drop]; omega)
  refine told_of_ev (fn := play_Decode_fn) tabOk mixed (by kernel_rfl) (by kernel_rfl) (by kernel_rfl) (by kernel_rfl) ?_
  (refine gw ?_; refine IfB.ff (by rw [hle]; simp; omega) ?_)
  (refine gw ?_; refine LoopN.mk ⟨[0,2,16,17,18], fun vs L => ∃ k : Nat, vs = [.lst t_uint8 (encB bs), .ptr 0 0 0, .fsub 1 5, .int .i64 5, .int .i64 k] ∧ L = [.var (rawK bs k), .var (.agg [.ptr 0 0 0, .ptr 0 0 1, .ptr 0 0 2, .ptr 0 0 3, .ptr 0 0 4])] ∧ k ≤ 5, fun vs L => match vs with | [_, _, _, _, .int _ i] => 5 - i.toNat | _ => 0, [], [0,2], rfl, ⟨0, rfl, rfl, by omega⟩, ?_⟩)
  rintro vs L ⟨k, rfl, rfl, hk⟩
  by_cases hk5 : k < 5
  · rcases (by omega : k = 0 ∨ k = 1 ∨ k = 2 ∨ k = 3 ∨ k = 4) with rfl | rfl | rfl | rfl | rfl
    · have b0 := at_bd hb 0
      have b1 := at_bd hb 1
      have b2 := at_bd hb 2
      have hor := rd3_or b0 b1 b2
      have hbits : IntKind.i64.bits = 64 := rfl
      have s1 : bs.getD 0 0 * 2 ^ min (16 : Int).toNat IntKind.i64.bits = bs.getD 0 0 * 65536 := by rw [hbits]; rfl
      have s2 : bs.getD 1 0 * 2 ^ min (8 : Int).toNat IntKind.i64.bits = bs.getD 1 0 * 256 := by rw [hbits]; rfl
      unfold rawK
      (refine gw ?_)
      refine idx_b 0 (by omega) (by omega) ?_
      (refine gw ?_)
      rw [s1]
      try (refine fits (wrap64 ?_ ?_) ?_; (focus omega); (focus omega))
      (refine gw ?_)
      refine idx_b 1 (by omega) (by omega) ?_
      (refine gw ?_)
      rw [s2]
      try (refine fits (wrap64 ?_ ?_) ?_; (focus omega); (focus omega))
      (refine gw ?_)
      refine idx_b 2 (by omega) (by omega) ?_
      (refine gw ?_)
      rw [hor]
      (refine gw ?_)
      refine ⟨[], [0, 1], rfl, ⟨1, rfl, rfl, by omega⟩, (by decide : 5 - (((0 : Nat) : Int) + 1).toNat < 5 - ((0 : Nat) : Int).toNat)⟩
    · have b0 := at_bd hb 3
      have b1 := at_bd hb 4
      have b2 := at_bd hb 5
      have hor := rd3_or b0 b1 b2
      have hbits : IntKind.i64.bits = 64 := rfl
      have s1 : bs.getD 3 0 * 2 ^ min (16 : Int).toNat IntKind.i64.bits = bs.getD 3 0 * 65536 := by rw [hbits]; rfl
      have s2 : bs.getD 4 0 * 2 ^ min (8 : Int).toNat IntKind.i64.bits = bs.getD 4 0 * 256 := by rw [hbits]; rfl
      unfold rawK
      (refine gw ?_)
      refine idx_b 3 (by omega) (by omega) ?_
      (refine gw ?_)
      rw [s1]
      try (refine fits (wrap64 ?_ ?_) ?_; (focus omega); (focus omega))
      (refine gw ?_)
      refine idx_b 4 (by omega) (by omega) ?_
      (refine gw ?_)
      rw [s2]
      try (refine fits (wrap64 ?_ ?_) ?_; (focus omega); (focus omega))
      (refine gw ?_)
      refine idx_b 5 (by omega) (by omega) ?_
      (refine gw ?_)
      rw [hor]
      (refine gw ?_)
      refine ⟨[], [0, 1], rfl, ⟨2, rfl, rfl, by omega⟩, (by decide : 5 - (((1 : Nat) : Int) + 1).toNat < 5 - ((1 : Nat) : Int).toNat)⟩
    · have b0 := at_bd hb 6
      have b1 := at_bd hb 7
      have b2 := at_bd hb 8
      have hor := rd3_or b0 b1 b2
      have hbits : IntKind.i64.bits = 64 := rfl
      have s1 : bs.getD 6 0 * 2 ^ min (16 : Int).toNat IntKind.i64.bits = bs.getD 6 0 * 65536 := by rw [hbits]; rfl
      have s2 : bs.getD 7 0 * 2 ^ min (8 : Int).toNat IntKind.i64.bits = bs.getD 7 0 * 256 := by rw [hbits]; rfl
      unfold rawK
      (refine gw ?_)
      refine idx_b 6 (by omega) (by omega) ?_
      (refine gw ?_)
      rw [s1]
      try (refine fits (wrap64 ?_ ?_) ?_; (focus omega); (focus omega))
      (refine gw ?_)
      refine idx_b 7 (by omega) (by omega) ?_
      (refine gw ?_)
      rw [s2]
      try (refine fits (wrap64 ?_ ?_) ?_; (focus omega); (focus omega))
      (refine gw ?_)
      refine idx_b 8 (by omega) (by omega) ?_
      (refine gw ?_)
      rw [hor]
      (refine gw ?_)
      refine ⟨[], [0, 1], rfl, ⟨3, rfl, rfl, by omega⟩, (by decide : 5 - (((2 : Nat) : Int) + 1).toNat < 5 - ((2 : Nat) : Int).toNat)⟩
    · have b0 := at_bd hb 9
      have b1 := at_bd hb 10
      have b2 := at_bd hb 11
      have hor := rd3_or b0 b1 b2
      have hbits : IntKind.i64.bits = 64 := rfl
      have s1 : bs.getD 9 0 * 2 ^ min (16 : Int).toNat IntKind.i64.bits = bs.getD 9 0 * 65536 := by rw [hbits]; rfl
      have s2 : bs.getD 10 0 * 2 ^ min (8 : Int).toNat IntKind.i64.bits = bs.getD 10 0 * 256 := by rw [hbits]; rfl
      unfold rawK
      (refine gw ?_)
      refine idx_b 9 (by omega) (by omega) ?_
      (refine gw ?_)
      rw [s1]
      try (refine fits (wrap64 ?_ ?_) ?_; (focus omega); (focus omega))
      (refine gw ?_)
      refine idx_b 10 (by omega) (by omega) ?_
      (refine gw ?_)
      rw [s2]
      try (refine fits (wrap64 ?_ ?_) ?_; (focus omega); (focus omega))
      (refine gw ?_)
      refine idx_b 11 (by omega) (by omega) ?_
      (refine gw ?_)
      rw [hor]
      (refine gw ?_)
      refine ⟨[], [0, 1], rfl, ⟨4, rfl, rfl, by omega⟩, (by decide : 5 - (((3 : Nat) : Int) + 1).toNat < 5 - ((3 : Nat) : Int).toNat)⟩
    · have b0 := at_bd hb 12
      have b1 := at_bd hb 13
      have b2 := at_bd hb 14
      have hor := rd3_or b0 b1 b2
      have hbits : IntKind.i64.bits = 64 := rfl
      have s1 : bs.getD 12 0 * 2 ^ min (16 : Int).toNat IntKind.i64.bits = bs.getD 12 0 * 65536 := by rw [hbits]; rfl
      have s2 : bs.getD 13 0 * 2 ^ min (8 : Int).toNat IntKind.i64.bits = bs.getD 13 0 * 256 := by rw [hbits]; rfl
      unfold rawK
      (refine gw ?_)
      refine idx_b 12 (by omega) (by omega) ?_
      (refine gw ?_)
      rw [s1]
      try (refine fits (wrap64 ?_ ?_) ?_; (focus omega); (focus omega))
      (refine gw ?_)
      refine idx_b 13 (by omega) (by omega) ?_
      (refine gw ?_)
      rw [s2]
      try (refine fits (wrap64 ?_ ?_) ?_; (focus omega); (focus omega))
      (refine gw ?_)
      refine idx_b 14 (by omega) (by omega) ?_
      (refine gw ?_)
      rw [hor]
      (refine gw ?_)
      refine ⟨[], [0, 1], rfl, ⟨5, rfl, rfl, by omega⟩, (by decide : 5 - (((4 : Nat) : Int) + 1).toNat < 5 - ((4 : Nat) : Int).toNat)⟩
  obtain rfl : k = 5 := by omega
  rw [show encB (bs.drop 16) = (encB bs).drop 16 from (encB_drop bs 16).symm] at c1
  (refine gw ?_)
  refine idx_b 15 (by omega) (by omega) ?_
  (refine gw ?_)
  have b15 := at_bd hb 15
  refine fits (wrap64 (by omega) (by omega)) ?_
  (refine gw ?_)
  refine Cut.mk (by omega) (by rw [hle]; omega) (by rw [hle]; omega) ?_
  (refine gw ?_; refine Choice.mk ⟨false, Choice.mk ⟨false, _, _, c1, ?_⟩⟩)
  (refine gw ?_)
  exact RetN.fz ⟨[false, true, false], [], rfl, rfl, rfl⟩
end Go.Ev.X
namespace Go.Ev.X
open Go.Ev Go.Ev.N
open Go.Ev.W (i64)

/-- The bytes of what there is, and of calls. -/
def headF (r : W.Rw) : List Int := three r.g ++ three r.l ++ three r.m ++ three r.p ++ three r.b ++ [w8 r.s]
def encF (r : W.Rw) (l : List O) : List Int := headF r ++ putAll l
theorem three_len (v : Int) : (three v).length = 3 := rfl
theorem headF_len (r : W.Rw) : (headF r).length = 16 := rfl
theorem putAll_le : ∀ (l : List O), (putAll l).length ≤ 8 * l.length
  | [] => by simp [putAll]
  | o :: l => by
    have h := putAll_le l
    have h2 := put_len o
    have e : putAll (o :: l) = (if take (putO o) = [o] then putO o else []) ++ putAll l := by simp [putAll]
    rw [e, List.length_append, List.length_cons]
    split
    · omega
    · simp; omega
def fields5 (r : W.Rw) : List Int := [r.g, r.l, r.m, r.p, r.b]
set_option maxRecDepth 20000 in
set_option maxHeartbeats 8000000 in
theorem encode_told (r : W.Rw) {l : List O} (ho : ∀ o ∈ l, IsO o) (hl : l.length ≤ 100000) : Told P T play_Encode [] [W.eR r, .lst t_api_Op (l.map encO)] (.lst t_uint8 (encB (encF r l))) [] := by
  have c1 := putAll_told l ho (by omega)
  have hpl := putAll_le l
  have hle : (encB (putAll l)).length = (putAll l).length := by simp [encB]
  unfold W.eR
  refine told_of_ev (fn := play_Encode_fn) tabOk mixed (by kernel_rfl) (by kernel_rfl) (by kernel_rfl) (by kernel_rfl) ?_
  (refine gw ?_; refine LoopN.mk ⟨[1,2,4,17,18,19], fun vs L => ∃ (k : Nat) (bs : List Int), vs = [.lst t_api_Op (l.map encO), .ptr 0 0 0, .ref 1, .ref 2, i64 5, i64 k] ∧ L = [.var (W.eR r), .row t_uint8 (encB bs), .row t_int ((fields5 r).map i64)] ∧ k ≤ 5 ∧ bs = ((fields5 r).take k).flatMap three, fun vs L => match vs with | [_, _, _, _, _, .int _ i] => 5 - i.toNat | _ => 0, [], [0,1,2], rfl, ⟨0, [], rfl, rfl, by omega, rfl⟩, ?_⟩)
  rintro vs L ⟨k, bs, rfl, rfl, hk, hbs⟩
  have hbl : bs.length ≤ 15 := by
    rw [hbs]
    rcases (by omega : k = 0 ∨ k = 1 ∨ k = 2 ∨ k = 3 ∨ k = 4 ∨ k = 5) with rfl | rfl | rfl | rfl | rfl | rfl <;> simp [fields5, three]
  have hbe : (encB bs).length = bs.length := by simp [encB]
  by_cases hk5 : k < 5
  · have hkl : k < (fields5 r).length := hk5
    have hx : ∀ Q : AV → Prop, Q (i64 (fields5 r)[k]) → At ((fields5 r).map i64) ((k : Nat) : Int).toNat Q := fun Q q => W.at_map (k := k) hkl q
    have hs : ((fields5 r).take (k + 1)).flatMap three = bs ++ three (fields5 r)[k] := by
      rw [hbs, List.take_succ_eq_append_getElem hkl, List.flatMap_append, List.flatMap_cons, List.flatMap_nil, List.append_nil]
    generalize (fields5 r)[k] = v at *
    (refine gw ?_; refine IfB.tt (by simp; omega) ?_)
    (refine gw ?_)
    refine InB.mk (by omega) (by simp [fields5]; omega) ?_
    (refine gw ?_)
    refine hx _ ?_
    (refine gw ?_)
    refine Fits.mk ?_
    (refine gw ?_)
    refine Fits.mk ?_
    (refine gw ?_)
    refine Fits.mk ?_
    (refine gw ?_)
    refine Room.mk (by rw [hbe]; simp; omega) ?_
    have e3 : encB (bs ++ three v) = encB bs ++ encB (three v) := encB_app _ _
    (refine gw ?_)
    refine ⟨[], [0, 4, 2], rfl, ⟨k + 1, bs ++ three v, rfl, by rw [e3]; rfl, hk5, by rw [hs]⟩, (by omega : 5 - ((k : Int) + 1).toNat < 5 - (k : Int).toNat)⟩
  obtain rfl : k = 5 := by omega
  have hb5 : bs = three r.g ++ three r.l ++ three r.m ++ three r.p ++ three r.b := by rw [hbs]; simp [fields5]
  have e1 : encB (encF r l) = (encB bs ++ [.int .u8 (w8 r.s)]) ++ encB (putAll l) := by
    unfold encF headF
    rw [encB_app, encB_app, hb5]; rfl
  rw [e1]
  (refine gw ?_)
  refine Fits.mk ?_
  (refine gw ?_)
  refine Room.mk (by rw [hbe]; simp; omega) ?_
  (refine gw ?_; refine Choice.mk ⟨false, Choice.mk ⟨false, _, _, c1, ?_⟩⟩)
  (refine gw ?_)
  refine Room.mk (by rw [List.length_append, hbe, hle]; simp; omega) ?_
  (refine gw ?_)
  exact RetN.fz ⟨[true], [], rfl, rfl, rfl⟩
end Go.Ev.X
namespace Go.Ev.X
open Go.Ev Go.Ev.N

theorem w8_mod (v : Int) : w8 v = v % 256 := by unfold w8; rw [IntKind.wrap_u8]
theorem three_eq (v : Int) : three v = [v / 65536 % 256, v / 256 % 256, v % 256] := by
  have e1 : (2 : Int) ^ min (Int.toNat 16) IntKind.i64.bits = 65536 := by decide
  have e2 : (2 : Int) ^ min (Int.toNat 8) IntKind.i64.bits = 256 := by decide
  unfold three
  rw [e1, e2, w8_mod, w8_mod, w8_mod, Int.fdiv_eq_ediv_of_nonneg _ (by omega), Int.fdiv_eq_ediv_of_nonneg _ (by omega)]

/-- A call that its own bytes say. -/
def Good (o : O) : Prop := take (putO o) = [o]

theorem fillO_k : ∀ (fs : List UInt8) (bs : List Int) (o : O), (fillO fs bs o).1.k = o.k
  | [], bs, o => rfl
  | f :: fs, [], o => rfl
  | f :: fs, [_], o => rfl
  | f :: fs, [_, _], o => rfl
  | f :: fs, _ :: _ :: _ :: bs, o => by
    simp only [fillO]
    rw [fillO_k fs bs]
    unfold setO
    repeat' split
    all_goals rfl
theorem one_k (k : Int) (bs : List Int) : (one k bs).1.k = k := by
  have h := fillO_k (fieldsOf k) bs ⟨k, 0, 0, 0, 0, 0⟩
  unfold one
  split
  · rename_i o e; rw [e] at h; exact h
  · rename_i o r e
    rw [e] at h
    split
    · exact h
    · split <;> exact h

def setAll (v : UInt8 → Int) : List UInt8 → O → O
  | [], o => o
  | f :: fs, o => setAll v fs (setO o f (rd3 (v f / 65536 % 256) (v f / 256 % 256) (v f % 256)))
theorem fillO_flat (v : UInt8 → Int) : ∀ (fs : List UInt8) (r : List Int) (o : O), fillO fs ((fs.flatMap fun f => three (v f)) ++ r) o = (setAll v fs o, some r)
  | [], r, o => rfl
  | f :: fs, r, o => by
    rw [List.flatMap_cons, three_eq]
    simp only [List.cons_append, List.nil_append, fillO, List.append_assoc]
    exact fillO_flat v fs r _

/-- What a call's own bytes say, whatever is behind. -/
theorem one_own (o : O) (r : List Int) : one o.k (((fieldsOf o.k).flatMap fun f => three (getO o f)) ++ ((if o.k = 8 then [o.b] else []) ++ r)) =
    ((if o.k = 8 then { setAll (getO o) (fieldsOf o.k) ⟨o.k, 0, 0, 0, 0, 0⟩ with b := o.b } else setAll (getO o) (fieldsOf o.k) ⟨o.k, 0, 0, 0, 0, 0⟩),
      (((fieldsOf o.k).flatMap fun f => three (getO o f)) ++ (if o.k = 8 then [o.b] else [])).length, true) := by
  unfold one
  rw [fillO_flat]
  by_cases h8 : o.k = 8
  · simp only [h8, if_true, ne_eq, not_true, if_false, List.cons_append, List.nil_append, List.length_append, List.length_cons, List.length_nil]
    congr 2; omega
  · simp only [h8, if_false, ne_eq, not_false_iff, if_true, List.nil_append, List.append_nil, List.length_append]
    congr 2; omega

theorem take_own {o : O} (hk : w8 o.k % 11 = o.k) (h0 : o.k ≠ 0) (r : List Int) : ∃ o', take (putO o ++ r) = o' :: take r ∧ take (putO o) = [o'] := by
  have step : ∀ r, take (putO o ++ r) = (one o.k (((fieldsOf o.k).flatMap fun f => three (getO o f)) ++ ((if o.k = 8 then [o.b] else []) ++ r))).1 :: take r := by
    intro r
    unfold putO
    rw [List.cons_append, List.cons_append, take_cons, if_neg (by rw [hk]; exact h0), hk, List.append_assoc, one_own]
    simp only
    rw [← List.append_assoc, List.drop_left]
  refine ⟨(one o.k (((fieldsOf o.k).flatMap fun f => three (getO o f)) ++ ((if o.k = 8 then [o.b] else []) ++ r))).1, step r, ?_⟩
  have := step []
  rw [List.append_nil] at this
  rw [this, one_own, one_own]
  rfl

theorem fieldsOf_none {k : Int} (h1 : k < 1 ∨ 8 < k) : fieldsOf k = [] := by
  unfold fieldsOf
  repeat' split
  all_goals first
    | rfl
    | omega

theorem Good.kind {o : O} (h : Good o) : w8 o.k % 11 = o.k ∧ o.k ≠ 0 := by
  unfold Good putO at h
  rw [List.cons_append, take_cons] at h
  split at h
  · rename_i h0
    rw [w8_mod] at h0
    have hr : o.k < 1 ∨ 8 < o.k := by
      rcases Classical.em (1 ≤ o.k ∧ o.k ≤ 8) with hc | hc
      · have e : o.k % 256 = o.k := by omega
        rw [e] at h0; omega
      · omega
    rw [fieldsOf_none hr, if_neg (by omega)] at h
    simp [take_nil] at h
  · rename_i h0
    have hk := one_k (w8 o.k % 11) (((fieldsOf o.k).flatMap fun f => three (getO o f)) ++ (if o.k = 8 then [o.b] else []))
    generalize one (w8 o.k % 11) (((fieldsOf o.k).flatMap fun f => three (getO o f)) ++ (if o.k = 8 then [o.b] else [])) = q at h hk
    obtain ⟨o', n, ok⟩ := q
    cases ok with
    | false => simp at h
    | true =>
      simp only [List.cons.injEq] at h
      obtain ⟨rfl, _⟩ := h
      simp only at hk
      exact ⟨hk.symm, by rw [hk]; exact h0⟩

theorem Good.app {o : O} (h : Good o) (r : List Int) : take (putO o ++ r) = o :: take r := by
  obtain ⟨h1, h2⟩ := h.kind
  obtain ⟨o', h3, h4⟩ := take_own h1 h2 r
  unfold Good at h
  rw [h] at h4
  cases h4
  exact h3
theorem putAll_good {l : List O} (h : ∀ o ∈ l, Good o) (r : List Int) : take (putAll l ++ r) = l ++ take r := by
  induction l with
  | nil => rfl
  | cons o l ih =>
    have ho : take (putO o) = [o] := h o (by simp)
    have : putAll (o :: l) = putO o ++ putAll l := by
      unfold putAll; rw [List.flatMap_cons, if_pos ho]
    rw [this, List.append_assoc, Good.app ho, ih fun x hx => h x (by simp [hx])]
    rfl
theorem putAll_cons {o : O} {l : List O} (h : Good o) : putAll (o :: l) = putO o ++ putAll l := by
  unfold putAll; rw [List.flatMap_cons, if_pos (show take (putO o) = [o] from h)]

end Go.Ev.X
namespace Go.Ev.X
open Go.Ev Go.Ev.N
open Go.Ev.W (i64 idx_map wrapU64)

def rdB (bs : List Int) (sh : Bool) : Blk := .var (.agg [.lst t_uint8 (encB bs), .bool sh])
theorem encB_len (bs : List Int) : (encB bs).length = bs.length := by simp [encB]
theorem IsB.hd {b : Int} {bs : List Int} (h : IsB (b :: bs)) : 0 ≤ b ∧ b < 256 := h b (by simp)
set_option maxRecDepth 20000 in
set_option maxHeartbeats 4000000 in
theorem num_short (bs : List Int) (sh : Bool) {n : Nat} (h : sh = true ∨ bs.length < n) (hl : bs.length ≤ 1000000) (hn : n ≤ 100) : Told P T ref17_reader_num [rdB bs sh] [.ptr 0 0 0, i64 n] (i64 0) [rdB bs true] := by
  have hle := encB_len bs
  refine told_of_ev (fn := ref17_reader_num_fn) tabOk mixed (by kernel_rfl) (by kernel_rfl) (by kernel_rfl) (by kernel_rfl) ?_
  by_cases h1 : bs.length < n
  · (refine gw ?_; refine IfB.tt (by rw [hle]; simp; omega) ?_)
    (refine gw ?_; exact RetN.mk ⟨[], rfl, rfl, rfl⟩)
  · have hs : sh = true := by rcases h with h | h; exact h; omega
    subst hs
    (refine gw ?_; refine IfB.ff (by rw [hle]; simp; omega) ?_)
    (refine gw ?_; exact RetN.mk ⟨[], rfl, rfl, rfl⟩)
def valF (bs : List Int) : Nat → Int
  | 0 => 0
  | k + 1 => valF bs k * 256 + bs.getD k 0
theorem valF_bd {bs : List Int} (hb : IsB bs) : ∀ {k : Nat}, k ≤ bs.length → k ≤ 3 → 0 ≤ valF bs k ∧ valF bs k < 256 ^ k
  | 0, _, _ => by simp [valF]
  | k + 1, h, h3 => by
    have ih := valF_bd hb (k := k) (by omega) (by omega)
    have hk : k < bs.length := by omega
    have hx := hb _ (List.getElem_mem hk)
    have e : bs.getD k 0 = bs[k] := by simp [List.getD_eq_getElem?_getD, hk]
    unfold valF
    rw [e, Int.pow_succ]
    rcases (by omega : k = 0 ∨ k = 1 ∨ k = 2) with h | h | h <;> subst h <;> simp at ih ⊢ <;> omega
set_option maxRecDepth 20000 in
set_option maxHeartbeats 4000000 in
theorem num_ok {bs : List Int} (hb : IsB bs) (hl : bs.length ≤ 1000000) {n : Nat} (hn : n ≤ 3) (h : n ≤ bs.length) : Told P T ref17_reader_num [rdB bs false] [.ptr 0 0 0, i64 n] (i64 (valF bs n)) [rdB (bs.drop n) false] := by
  have hle := encB_len bs
  refine told_of_ev (fn := ref17_reader_num_fn) tabOk mixed (by kernel_rfl) (by kernel_rfl) (by kernel_rfl) (by kernel_rfl) ?_
  (refine gw ?_; refine IfB.ff (by rw [hle]; simp; omega) ?_)
  (refine gw ?_; refine LoopN.mk ⟨[0,1,5,6], fun vs L => ∃ k : Nat, vs = [.ptr 0 0 0, i64 n, i64 (valF bs k), i64 k] ∧ L = [rdB bs false] ∧ k ≤ n, fun vs L => match vs with | [_, _, _, .int _ i] => n - i.toNat | _ => 0, [], [], rfl, ⟨0, rfl, rfl, by omega⟩, ?_⟩)
  rintro vs L ⟨k, rfl, rfl, hk⟩
  by_cases hkn : k < n
  · have hkb : k < bs.length := by omega
    have hbd := valF_bd hb (k := k) (by omega) (by omega)
    have hx := hb _ (List.getElem_mem hkb)
    have e : bs.getD k 0 = bs[k] := by simp [List.getD_eq_getElem?_getD, hkb]
    have hv : valF bs (k + 1) = valF bs k * 256 + bs[k] := by rw [← e]; rfl
    have hp : (256 : Int) ^ k ≤ 65536 := by
      rcases (by omega : k = 0 ∨ k = 1 ∨ k = 2) with h | h | h <;> subst h <;> decide
    (refine gw ?_; refine IfB.tt (by simp; omega) ?_)
    (refine gw ?_; refine idx_map (hkb) ?_)
    (refine gw ?_; refine ⟨[], [], rfl, ⟨k + 1, by rw [hv]; rfl, rfl, hkn⟩, (by omega : n - ((k : Int) + 1).toNat < n - (k : Int).toNat)⟩)
  · have e : k = n := by omega
    subst e
    have hd : encB (bs.drop k) = (encB bs).drop k := (encB_drop bs k).symm
    unfold rdB
    rw [hd]
    (refine gw ?_; refine Cut.mk (by first | omega | (simp; omega) | (simp <;> fail)) (by first | omega | (simp; omega) | (simp <;> fail)) (by first | omega | (simp; omega) | (simp <;> fail)) ?_)
    (refine gw ?_; exact RetN.mk ⟨[], rfl, rfl, rfl⟩)
set_option maxRecDepth 20000 in
set_option maxHeartbeats 4000000 in
theorem three_told (es : List Int) (v : Int) (hl : es.length ≤ 1000) : Told P T ref17_three [.row t_uint8 (encB es)] [.ref 0, i64 v] (.ref 1) [.dead, .row t_uint8 (encB (es ++ three v))] := by
  have hle := encB_len es
  rw [encB_app]
  refine told_of_ev_drop (fn := ref17_three_fn) tabOk mixed (by kernel_rfl) (by kernel_rfl) (by kernel_rfl) (by kernel_rfl) ?_
  (refine gw ?_)
  refine ⟨?_⟩
  (refine gw ?_)
  refine ⟨?_⟩
  (refine gw ?_)
  refine ⟨?_⟩
  (refine gw ?_; refine Room.mk (by rw [hle]; simp; omega) ?_)
  (refine gw ?_)
  refine RetN.mk ⟨[3], rfl, rfl, .inl rfl, .inl rfl, trivial⟩
end Go.Ev.X
namespace Go.Ev.X
open Go.Ev Go.Ev.N
open Go.Ev.W (i64 idx_map wrapU64)

set_option maxRecDepth 20000 in
set_option maxHeartbeats 8000000 in
theorem putOp_told (o : O) : Told P T ref17_putOp [] [encO o] (.ref 0) [.row t_uint8 (encB (putO o))] := by
  obtain ⟨k, p, s, a, n, b⟩ := o
  have l3 := three_len
  have d1 : ∀ v w : Int, ([w] ++ three v).length ≤ 1000 := fun v w => by simp [three]
  have e1 : ∀ v w : Int, [w] ++ three v = w :: three v := fun v w => rfl
  refine told_of_ev (fn := ref17_putOp_fn) tabOk mixed (by kernel_rfl) (by kernel_rfl) (by kernel_rfl) (by kernel_rfl) ?_
  (refine gw ?_)
  refine ⟨?_⟩
  by_cases h1 : k = 1
  · subst h1
    (refine gw ?_; refine Choice.mk ⟨true, Choice.mk ⟨false, _, _, three_told [w8 1] s (by simp), ?_⟩⟩)
    (refine gw ?_)
    exact RetN.mk ⟨[3], rfl, rfl, rfl⟩
  (refine gw ?_; refine IfB.ff (by simp [h1]) ?_)
  by_cases h2 : k = 2
  · subst h2
    (refine gw ?_; refine Choice.mk ⟨true, Choice.mk ⟨false, _, _, three_told [w8 2] n (by simp), ?_⟩⟩)
    (refine gw ?_; refine Choice.mk ⟨true, Choice.mk ⟨false, _, _, three_told ([w8 2] ++ three n) s (d1 _ _), ?_⟩⟩)
    (refine gw ?_)
    exact RetN.mk ⟨[4], rfl, rfl, rfl⟩
  (refine gw ?_; refine IfB.ff (by simp [h2]) ?_)
  by_cases h3 : k = 3
  · subst h3
    (refine gw ?_; refine Choice.mk ⟨true, Choice.mk ⟨false, _, _, three_told [w8 3] s (by simp), ?_⟩⟩)
    (refine gw ?_; refine Choice.mk ⟨true, Choice.mk ⟨false, _, _, three_told ([w8 3] ++ three s) a (d1 _ _), ?_⟩⟩)
    (refine gw ?_)
    exact RetN.mk ⟨[4], rfl, rfl, rfl⟩
  (refine gw ?_; refine IfB.ff (by simp [h3]) ?_)
  by_cases h4 : k = 4
  · subst h4
    (refine gw ?_; refine Choice.mk ⟨true, Choice.mk ⟨false, _, _, three_told [w8 4] p (by simp), ?_⟩⟩)
    (refine gw ?_; refine Choice.mk ⟨true, Choice.mk ⟨false, _, _, three_told ([w8 4] ++ three p) s (d1 _ _), ?_⟩⟩)
    (refine gw ?_)
    exact RetN.mk ⟨[4], rfl, rfl, rfl⟩
  (refine gw ?_; refine IfB.ff (by simp [h4]) ?_)
  by_cases h5 : k = 5
  · subst h5
    (refine gw ?_; refine Choice.mk ⟨true, Choice.mk ⟨false, _, _, three_told [w8 5] p (by simp), ?_⟩⟩)
    (refine gw ?_)
    exact RetN.mk ⟨[3], rfl, rfl, rfl⟩
  (refine gw ?_; refine IfB.ff (by simp [h5]) ?_)
  by_cases h6 : k = 6
  · subst h6
    (refine gw ?_; refine Choice.mk ⟨true, Choice.mk ⟨false, _, _, three_told [w8 6] p (by simp), ?_⟩⟩)
    (refine gw ?_)
    exact RetN.mk ⟨[3], rfl, rfl, rfl⟩
  (refine gw ?_; refine IfB.ff (by simp [h6]) ?_)
  by_cases h7 : k = 7
  · subst h7
    (refine gw ?_; refine Choice.mk ⟨true, Choice.mk ⟨false, _, _, three_told [w8 7] p (by simp), ?_⟩⟩)
    (refine gw ?_; refine Choice.mk ⟨true, Choice.mk ⟨false, _, _, three_told ([w8 7] ++ three p) n (d1 _ _), ?_⟩⟩)
    (refine gw ?_)
    exact RetN.mk ⟨[4], rfl, rfl, rfl⟩
  (refine gw ?_; refine IfB.ff (by simp [h7]) ?_)
  by_cases h8 : k = 8
  · subst h8
    (refine gw ?_; refine Choice.mk ⟨true, Choice.mk ⟨false, _, _, three_told [w8 8] p (by simp), ?_⟩⟩)
    (refine gw ?_; refine Choice.mk ⟨true, Choice.mk ⟨false, _, _, three_told ([w8 8] ++ three p) n (d1 _ _), ?_⟩⟩)
    (refine gw ?_; refine Room.mk (by simp [encB, three]) ?_)
    (refine gw ?_)
    exact RetN.mk ⟨[6], rfl, rfl, rfl⟩
  (refine gw ?_; refine IfB.ff (by simp [h8]) ?_)
  have hf : putO ⟨k, p, s, a, n, b⟩ = [w8 k] := by
    unfold putO fieldsOf; simp [h1, h2, h3, h4, h5, h6, h7, h8]
  rw [hf]
  (refine gw ?_)
  exact RetN.mk ⟨[2], rfl, rfl, rfl⟩
end Go.Ev.X
