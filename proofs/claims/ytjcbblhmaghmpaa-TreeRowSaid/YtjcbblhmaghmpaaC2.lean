/- Words and lemmas, part 2, for laws of this seat (a part of their proofs). -/
import Derived.Test.YtjcbblhmaghmpaaC1
set_option linter.unusedVariables false
set_option linter.unusedSimpArgs false
namespace Go.Ev.W
open Go.Ev Go.Ev.N

theorem rMadeNo_told {n : Int} (h : n < 1 ∨ n > 65536) (bs : List AV) : Told P T ref3_Made [] [i64 n, .lst t_bool bs] (eT 0 []) [] := by
  by_cases h1 : n < 1
  · refine told_of_ev (fn := ref3_Made_fn) tabOk mixed (by kernel_rfl) (by kernel_rfl) (by kernel_rfl) (by kernel_rfl) ?_
    (refine gw ?_; refine IfB.tt (by simp; omega) ?_)
    (refine gw ?_)
    exact RetN.fz ⟨[true], [], rfl, rfl, rfl⟩
  · refine told_of_ev (fn := ref3_Made_fn) tabOk mixed (by kernel_rfl) (by kernel_rfl) (by kernel_rfl) (by kernel_rfl) ?_
    (refine gw ?_; refine IfB.ff (by simp; omega) ?_)
    (refine gw ?_; refine IfB.tt (by simp; omega) ?_)
    (refine gw ?_)
    exact RetN.fz ⟨[true], [], rfl, rfl, rfl⟩
/-- Picks.Tree: a round. -/
def trS (n : Nat) (a : Pk × (Nat → Bool)) : Pk × (Nat → Bool) :=
  let p := a.1
  let p1 := p.next 16
  let p2 := p1.next 200
  let p3 := p2.next 5
  (p3.next 3, setZ a.2 ((p.num 16 : Int) * (max (n / 16) 1 : Nat)) ((p1.num 200 : Int) + (p2.num 5 : Int) * 64) (decide (0 < p3.num 3)))
def trI (n : Nat) (a : Pk × (Nat → Bool)) : Nat → Pk × (Nat → Bool)
  | 0 => a
  | k + 1 => trI n (trS n a) k
theorem trS_ok {n : Nat} {a : Pk × (Nat → Bool)} (h : a.1.Ok) : (trS n a).1.Ok := (((h.next 16).next 200).next 5).next 3
theorem trI_ok {n : Nat} : ∀ (k : Nat) {a : Pk × (Nat → Bool)}, a.1.Ok → (trI n a k).1.Ok
  | 0, _, h => h
  | k + 1, _, h => trI_ok k (trS_ok h)
def treeP (n : Nat) (p : Pk) : Pk × (Nat → Bool) := trI n (p.next 5, fun _ => false) (p.num 5)
theorem max_nat (a b : Nat) : max (a : Int) (b : Int) = ((max a b : Nat) : Int) := by omega
set_option maxHeartbeats 2000000 in
theorem pTree_told {n : Nat} (hn : 1 ≤ n) (hn2 : n ≤ 65536) (p : Pk) (ok : p.Ok) : Told P T mk_Picks_Tree [pkB p] [.ptr 0 0 0, i64 n] (eTr n (treeP n p).2) [pkB (treeP n p).1] := by
  have c1 := rMade_told hn hn2 fun _ => false
  have hb : bitR n (fun _ => false) = List.replicate n (.bool false) := by
    apply List.ext_getElem (by simp [bitR_len])
    intro k h1 h2
    simp [bitR]
  have hmax : max (n : Int) 0 = n := by omega
  have hdv : ((n : Nat) : Int).tdiv 16 = ((n / 16 : Nat) : Int) := (Int.ofNat_tdiv n 16).symm
  rw [hb] at c1
  have c2 := num_told p ok 5 (by omega)
  have k1 := ok.next 5
  have hn5 := p.num_lt (m := 5) (by omega)
  unfold treeP
  generalize p.num 5 = c at *
  generalize p.next 5 = q at *
  have hif : (if (0 : Int) > (n : Int) then (0 : Int) else (n : Int)).toNat = n := by rw [if_neg (by omega)]; omega
  refine told_of_ev (fn := mk_Picks_Tree_fn) tabOk mixed (by kernel_rfl) (by kernel_rfl) (by kernel_rfl) (by kernel_rfl) ?_
  (refine gw ?_)
  rw [hif]
  refine Room.mk (by omega) ?_
  (refine gw ?_; refine Choice.mk ⟨false, Choice.mk ⟨false, _, _, c1, ?_⟩⟩)
  (refine gw ?_; refine Choice.mk ⟨true, Choice.mk ⟨false, _, _, c2, ?_⟩⟩)
  (refine gw ?_; refine LoopN.mk ⟨[0,1,4,5,6], fun vs L => ∃ (k : Nat) (a : Pk × (Nat → Bool)), vs = [.ptr 0 0 0, i64 n, .ptr 1 0 0, .ptr 2 0 0, i64 k] ∧ L = [pkB a.1, .var (.agg [i64 0, .und]), .var (eTr n a.2)] ∧ a.1.Ok ∧ k < 5 ∧ trI n a k = trI n (q, fun _ => false) c, fun vs L => match vs with | [_, _, _, _, .int _ i] => i.toNat | _ => 0, [], [1,4], rfl, ⟨c, (q, fun _ => false), rfl, rfl, k1, hn5, rfl⟩, ?_⟩)
  rintro vs L ⟨k, ⟨p, b⟩, rfl, rfl, h1, h2, h3⟩
  by_cases hk : 0 < k
  · obtain ⟨k, rfl⟩ : ∃ j, k = j + 1 := ⟨k - 1, by omega⟩
    have j1 := h1.next 16
    have j2 := j1.next 200
    have j3 := j2.next 5
    have j4 := j3.next 3
    have d1 := num_told p h1 16 (by omega)
    have d2 := num_told _ j1 200 (by omega)
    have d3 := num_told _ j2 5 (by omega)
    have d4 := num_told _ j3 3 (by omega)
    have b1 := p.num_lt (m := 16) (by omega)
    have b2 := (p.next 16).num_lt (m := 200) (by omega)
    have b3 := ((p.next 16).next 200).num_lt (m := 5) (by omega)
    have b4 := (((p.next 16).next 200).next 5).num_lt (m := 3) (by omega)
    have hS : trS n (p, b) = ((((p.next 16).next 200).next 5).next 3, setZ b ((p.num 16 : Int) * (max (n / 16) 1 : Nat)) (((p.next 16).num 200 : Int) + (((p.next 16).next 200).num 5 : Int) * 64) (decide (0 < (((p.next 16).next 200).next 5).num 3))) := rfl
    have hI : trI n (trS n (p, b)) k = trI n (q, fun _ => false) c := h3
    rw [hS] at hI
    generalize p.num 16 = n1 at *
    generalize p.next 16 = p1 at *
    generalize p1.num 200 = n2 at *
    generalize p1.next 200 = p2 at *
    generalize p2.num 5 = n3 at *
    generalize p2.next 5 = p3 at *
    generalize p3.num 3 = n4 at *
    generalize p3.next 3 = p4 at *
    have hmx : (if (1 : Int) > ((n / 16 : Nat) : Int) then (1 : Int) else ((n / 16 : Nat) : Int)) = ((max (n / 16) 1 : Nat) : Int) := by split <;> omega
    have hmul : (n1 : Int) * ((max (n / 16) 1 : Nat) : Int) ≤ 15 * 5000 := by
      have : n1 * max (n / 16) 1 ≤ 15 * 5000 := Nat.mul_le_mul (by omega) (by omega)
      rw [← Int.natCast_mul]; omega
    have hmul0 : 0 ≤ (n1 : Int) * ((max (n / 16) 1 : Nat) : Int) := by rw [← Int.natCast_mul]; omega
    have hon : decide ((n4 : Int) > 0) = decide (0 < n4) := decide_eq_decide.2 (by omega)
    generalize hMM : ((n1 : Int) * ((max (n / 16) 1 : Nat) : Int)) = MM at *
    have d5 := rSetTree_told hn hn2 b MM ((n2 : Int) + (n3 : Int) * 64) (by omega) (decide (0 < n4))
    (refine gw ?_; refine Choice.mk ⟨true, Choice.mk ⟨false, _, _, d1, ?_⟩⟩)
    (refine gw ?_)
    rw [hdv, hmx, hMM]
    (refine gw ?_; refine Choice.mk ⟨true, Choice.mk ⟨false, _, _, d2, ?_⟩⟩)
    (refine gw ?_; refine Choice.mk ⟨true, Choice.mk ⟨false, _, _, d3, ?_⟩⟩)
    (refine gw ?_; refine Choice.mk ⟨true, Choice.mk ⟨false, _, _, d4, ?_⟩⟩)
    (refine gw ?_)
    rw [hon]
    (refine gw ?_; refine Choice.mk ⟨false, Choice.mk ⟨false, _, _, d5, ?_⟩⟩)
    (refine gw ?_)
    rw [show ((k + 1 : Nat) : Int) - 1 = (k : Int) by omega]
    (refine gw ?_; refine ⟨[], [1,2], rfl, ⟨k, (p4, setZ b MM ((n2 : Int) + (n3 : Int) * 64) (decide (0 < n4))), rfl, rfl, j4, by omega, hI⟩, (by omega : ((k : Int)).toNat < ((k + 1 : Nat) : Int).toNat)⟩)
  · have e : k = 0 := by omega
    subst e
    have h3 : (p, b) = trI n (q, fun _ => false) c := h3
    rw [← h3]
    (refine gw ?_)
    exact RetN.fz ⟨[true], [], rfl, rfl, rfl⟩
theorem hasT_nat {n : Nat} {b : Nat → Bool} {x : Nat} (h : x < n) : hasT n b x = b x := by unfold hasT; rw [decide_eq_true (by omega)]; rfl
theorem bitR_off (n : Nat) : bitR n offB = List.replicate n (.bool false) := by
  apply List.ext_getElem (by simp [bitR_len])
  intro k h1 h2
  simp [bitR, offB]
end Go.Ev.W
namespace Go.Ev.W
open Go.Ev Go.Ev.N

def onB : Nat → Bool := setZ offB 0 64 true
set_option maxHeartbeats 1000000 in
theorem begun5_told : Told P T law5_begun [] [] (.bool true) [] := by
  have c1 : Told P T tree_New [] [i64 100] (eTr 100 offB) [] := newR_told (n := 100) (by omega) (by omega)
  have c2 : Told P T tree_Set [] [eTr 100 offB, i64 0, i64 64, .bool true] (eTr 100 onB) [] := treeSet_told (n := 100) (by omega) (by omega) offB 0 64 (by omega) true
  have c3 := treeFirst_told (n := 100) (by omega) (by omega) onB 0 (by omega)
  have e3 : firI 100 onB 0 = some 64 := by decide
  rw [e3] at c3
  have c4 := treeHas_told (n := 100) (by omega) (by omega) onB 63 (by omega)
  have e4 : hasT 100 onB 63 = true := by decide
  have c5 := treeHas_told (n := 100) (by omega) (by omega) onB 64 (by omega)
  have e5 : hasT 100 onB 64 = false := by decide
  rw [e4] at c4
  rw [e5] at c5
  have c6 := may_eTr (n := 100) (by omega) (by omega) onB
  have c7 := may_none
  have hVl : (lvT 100 offB).length = 2 := by rw [lvT_len]; decide
  have hV0 : ∀ h : 0 < (lvT 100 offB).length, (lvT 100 offB)[0].length = 2 := fun h => by
    rw [show (lvT 100 offB)[0] = (List.range (lenT 100 0)).map (fT 100 offB 0) from tabV_get h]; simp [lenT, szT]
  clear e3 e4 e5
  generalize onB = B at *
  unfold eTr at *
  generalize lvT 100 offB = V at *
  generalize lvT 100 B = W at *
  have hgl : (V.map lR).length = 2 := by rw [List.length_map]; exact hVl
  have h0 : 0 < V.length := by omega
  have hl0 : (V[0].map u64).length = 2 := by rw [List.length_map]; exact hV0 h0
  refine told_of_ev (fn := law5_begun_fn) tabOk mixed (by kernel_rfl) (by kernel_rfl) (by kernel_rfl) (by kernel_rfl) ?_
  (refine gw ?_; refine Choice.mk ⟨false, Choice.mk ⟨false, _, _, c1, ?_⟩⟩)
  (refine gw ?_; refine Choice.mk ⟨false, Choice.mk ⟨false, _, _, c2, ?_⟩⟩)
  (refine gw ?_; refine Choice.mk ⟨false, Choice.mk ⟨false, _, _, c3, ?_⟩⟩)
  (refine gw ?_; refine IfB.tt (by rw [hgl]; rfl) ?_)
  (refine gw ?_; refine idx_map (h0) ?_)
  (refine gw ?_; refine IfB.tt (by rw [hl0]; rfl) ?_)
  (refine gw ?_; refine Choice.mk ⟨false, Choice.mk ⟨false, _, _, c4, ?_⟩⟩)
  (refine gw ?_; refine Choice.mk ⟨false, Choice.mk ⟨false, _, _, c5, ?_⟩⟩)
  (refine gw ?_; refine Choice.mk ⟨false, Choice.mk ⟨false, _, _, c6, ?_⟩⟩)
  (refine gw ?_; refine Choice.mk ⟨false, Choice.mk ⟨false, _, _, c7, ?_⟩⟩)
  (refine gw ?_; exact RetN.mk ⟨[], rfl, rfl, rfl⟩)
end Go.Ev.W
namespace Go.Ev.W
open Go.Ev Go.Ev.N

/-- All bits set: all words are full. -/
theorem all_bt {n : Nat} {b : Nat → Bool} (h : ∀ x, x < n → b x = true) : ∀ l x, x < szT n l → btT n b l x = true := by
  intro l
  induction l with
  | zero => intro x hx; exact h x hx
  | succ l ih =>
    intro x hx
    show decide (fT n b l x = FW) = true
    refine decide_eq_true ?_
    apply Nat.eq_of_testBit_eq
    intro j
    by_cases hj : j < 64
    · rw [fT_bit hj, FW_bit hj]
      by_cases h2 : szT n l ≤ 64 * x + j
      · rw [decide_eq_true h2]; rfl
      · rw [ih _ (by omega)]; simp
    · rw [Nat.testBit_lt_two_pow (Nat.lt_of_lt_of_le (fT_lt n b l x) (Nat.pow_le_pow_right (n := 2) (by omega) (show 64 ≤ j by omega))), Nat.testBit_lt_two_pow (Nat.lt_of_lt_of_le (show FW < 2 ^ 64 by decide) (Nat.pow_le_pow_right (n := 2) (by omega) (show 64 ≤ j by omega)))]
theorem all_word {n : Nat} (hn : 1 ≤ n) {b : Nat → Bool} (h : ∀ x, x < n → b x = true) (l : Nat) : fT n b l 0 = FW := by
  have := all_bt h (l + 1) 0 (szT_pos hn (l + 1))
  exact of_decide_eq_true (show decide (fT n b l 0 = FW) = true from this)
def allB (n : Nat) : Nat → Bool := setZ offB 0 n true
def lastB (n : Nat) : Nat → Bool := setZ (allB n) ((n : Int) - 1) 1 false
theorem allB_at {n x : Nat} (h : x < n) : allB n x = true := by unfold allB setZ; rw [if_pos (by omega)]
theorem fir_off {n : Nat} (h : 1 ≤ n) : firI n offB 0 = some 0 := by
  unfold firI
  rw [if_neg (by omega)]
  exact firZ_some (by omega) (by simp) rfl fun x _ h2 => by omega
theorem fir_all (n : Nat) : firI n (allB n) 0 = none := by
  unfold firI
  split
  · rfl
  · exact firZ_none fun x _ h => allB_at h
theorem fir_last {n : Nat} (h : 1 ≤ n) : firI n (lastB n) 0 = some (n - 1) := by
  unfold firI
  rw [if_neg (by omega)]
  refine firZ_some (by omega) (by simp) ?_ fun x _ h2 => ?_
  · unfold lastB setZ; rw [if_pos (by omega)]
  · unfold lastB setZ; rw [if_neg (by omega)]; exact allB_at (by omega)
def szs : List Nat := [1, 64, 65, 4096, 4097, 65536]
def lvs : List Nat := [1, 1, 2, 2, 3, 3]
def nI (n : Nat) : AV := i64 n
theorem szs_ok : ∀ (i : Nat) (h : i < szs.length), 1 ≤ szs[i] ∧ szs[i] ≤ 65536 ∧ ∃ h2 : i < lvs.length, lvs[i] = hT szs[i] := by decide
set_option maxRecDepth 20000 in
set_option maxHeartbeats 4000000 in
theorem treeForms_walk : Told P T law5_TreeForms [] [] (.bool true) [] := by
  have cb := begun5_told
  have d1 := newNo_told (m := 0) (by omega)
  have d2 := newNo_told (m := -5) (by omega)
  have d3 := newNo_told (m := 65537) (by omega)
  have hsl : (szs.map nI).length = 6 := rfl
  refine told_of_ev (fn := law5_TreeForms_fn) tabOk mixed (by kernel_rfl) (by kernel_rfl) (by kernel_rfl) (by kernel_rfl) ?_
  (refine gw ?_; refine Choice.mk ⟨false, Choice.mk ⟨false, _, _, cb, ?_⟩⟩)
  (refine gw ?_; refine LoopN.mk ⟨[1,2,3], fun vs L => ∃ i : Nat, vs = [.ref 0, .ref 1, i64 i] ∧ L = [.row t_int (szs.map nI), .row t_int (lvs.map nI)] ∧ i ≤ szs.length, fun vs L => match vs with | [_, _, .int _ i] => 6 - i.toNat | _ => 0, [], [0,1], rfl, ⟨0, rfl, rfl, by decide⟩, ?_⟩)
  rintro vs L ⟨i, rfl, rfl, hi⟩
  have hi6 : i ≤ 6 := hi
  have hll : (lvs.map nI).length = 6 := rfl
  have hs6 : szs.length = 6 := rfl
  by_cases hlt : i < szs.length
  · have hlt6 : i < 6 := hlt
    obtain ⟨n, hne, hn, hn2, h2, hv⟩ : ∃ n, szs[i]'hlt = n ∧ 1 ≤ n ∧ n ≤ 65536 ∧ ∃ h2 : i < lvs.length, lvs[i]'h2 = hT n := ⟨_, rfl, szs_ok i hlt⟩
    have hh := hT_le n
    have c1 := newR_told hn hn2
    have c2 := treeFirst_told hn hn2 offB 0 (by omega)
    rw [fir_off hn] at c2
    have c3 : Told P T tree_Set [] [eTr n offB, i64 0, i64 n, .bool true] (eTr n (allB n)) [] := treeSet_told hn hn2 offB 0 n (by omega) true
    have c4 := treeFirst_told hn hn2 (allB n) 0 (by omega)
    rw [fir_all n] at c4
    have c5 : Told P T tree_Set [] [eTr n (allB n), i64 ((n : Int) - 1), i64 1, .bool false] (eTr n (lastB n)) [] := treeSet_told hn hn2 (allB n) ((n : Int) - 1) 1 (by omega) false
    have c6 := treeFirst_told hn hn2 (lastB n) 0 (by omega)
    rw [fir_last hn] at c6
    have c7 := treeFirst_told hn hn2 (lastB n) n (by omega)
    rw [show firI n (lastB n) n = none by unfold firI; rw [if_pos (by omega)]] at c7
    have c8 := treeFirst_told hn hn2 (lastB n) (-1) (by omega)
    rw [show firI n (lastB n) (-1) = none by unfold firI; rw [if_pos (by omega)]] at c8
    (refine gw ?_; refine IfB.tt (by rw [hsl]; simp; omega) ?_)
    have hszs : ∀ Q : AV → Prop, Q (i64 n) → At (szs.map nI) ((i : Nat) : Int).toNat Q := fun Q q => at_map (k := i) hlt (by rw [hne]; exact q)
    have hlvs : ∀ Q : AV → Prop, Q (i64 (hT n : Nat)) → At (lvs.map nI) ((i : Nat) : Int).toNat Q := fun Q q => at_map (k := i) h2 (by rw [hv]; exact q)
    (refine gw ?_)
    refine hszs _ ?_
    (refine gw ?_; refine Choice.mk ⟨false, Choice.mk ⟨false, _, _, c1, ?_⟩⟩)
    have hvl : ∀ b, ((lvT n b).map lR).length = hT n := fun b => by simp [lvT_len]
    have hlst : ∀ b, hT n - 1 < (lvT n b).length := fun b => by rw [lvT_len]; omega
    have hrow : ∀ b, (((lvT n b)[hT n - 1]'(hlst b)).map u64).length = 1 := fun b => by
      rw [show (lvT n b)[hT n - 1]'(hlst b) = (List.range (lenT n (hT n - 1))).map (fT n b (hT n - 1)) from tabV_get (hlst b)]
      simp [lenT_last hn hn2]
    have hlr : ∀ b, ∀ Q : AV → Prop, Q (lR ((lvT n b)[hT n - 1]'(hlst b))) → Idx ((lvT n b).map lR) (((hT n : Nat) : Int) - 1) Q := fun b Q q => idx_map' (hT n - 1) (by omega) (hlst b) q
    (refine gw ?_)
    refine hszs _ ?_
    (refine gw ?_)
    refine hlvs _ ?_
    (refine gw ?_; refine IfB.ff (by rw [hvl]; simp) ?_)
    (refine gw ?_)
    rw [hvl]
    (refine gw ?_)
    refine hlr _ _ ?_
    (refine gw ?_; refine IfB.ff (by rw [hrow]; rfl) ?_)
    (refine gw ?_; refine Choice.mk ⟨false, Choice.mk ⟨false, _, _, c2, ?_⟩⟩)
    (refine gw ?_)
    refine hszs _ ?_
    (refine gw ?_; refine Choice.mk ⟨false, Choice.mk ⟨false, _, _, c3, ?_⟩⟩)
    (refine gw ?_; refine Choice.mk ⟨false, Choice.mk ⟨false, _, _, c4, ?_⟩⟩)
    (refine gw ?_)
    refine hszs _ ?_
    (refine gw ?_; refine Choice.mk ⟨false, Choice.mk ⟨false, _, _, c5, ?_⟩⟩)
    (refine gw ?_; refine Choice.mk ⟨false, Choice.mk ⟨false, _, _, c6, ?_⟩⟩)
    (refine gw ?_)
    refine hszs _ ?_
    (refine gw ?_; refine Choice.mk ⟨false, Choice.mk ⟨false, _, _, c7, ?_⟩⟩)
    have hw0 : ∀ Q : AV → Prop, Q (u64 FW) → Idx (((lvT n (allB n))[hT n - 1]'(hlst _)).map u64) 0 Q := fun Q q => by
      have hr0 : 0 < ((lvT n (allB n))[hT n - 1]'(hlst _)).length := by have := hrow (allB n); rw [List.length_map] at this; omega
      refine idx_map' 0 rfl hr0 ?_
      have he : ((lvT n (allB n))[hT n - 1]'(hlst _)) = (List.range (lenT n (hT n - 1))).map (fT n (allB n) (hT n - 1)) := tabV_get (hlst _)
      have : ((lvT n (allB n))[hT n - 1]'(hlst _))[0] = FW := by
        have h9 : ∀ (r : List Nat) (h : 0 < r.length), r = (List.range (lenT n (hT n - 1))).map (fT n (allB n) (hT n - 1)) → r[0] = FW := fun r h e => by
          subst e
          rw [List.getElem_map, List.getElem_range]
          exact all_word hn (fun x hx => allB_at hx) _
        exact h9 _ hr0 he
      rw [this]; exact q
    (refine gw ?_; refine Choice.mk ⟨false, Choice.mk ⟨false, _, _, c8, ?_⟩⟩)
    (refine gw ?_)
    refine hlvs _ ?_
    (refine gw ?_; refine IfB.ff (by rw [hvl]; simp) ?_)
    (refine gw ?_)
    refine hlvs _ ?_
    (refine gw ?_)
    refine hlr _ _ ?_
    (refine gw ?_; refine IfB.ff (by rw [hrow]; rfl) ?_)
    (refine gw ?_)
    refine hszs _ ?_
    (refine gw ?_; refine IfB.ff (by simp; omega) ?_)
    (refine gw ?_)
    refine hlvs _ ?_
    (refine gw ?_)
    refine hlr _ _ ?_
    (refine gw ?_)
    refine hw0 _ ?_
    (refine gw ?_; refine ⟨[], [0,1], rfl, ⟨i + 1, rfl, rfl, by omega⟩, (by omega : 6 - ((i : Int) + 1).toNat < 6 - (i : Int).toNat)⟩)
  · (refine gw ?_; refine IfB.ff (by rw [hsl]; simp; omega) ?_)
    (refine gw ?_; refine Choice.mk ⟨false, Choice.mk ⟨false, _, _, d1, ?_⟩⟩)
    (refine gw ?_)
    (refine gw ?_; refine Choice.mk ⟨false, Choice.mk ⟨false, _, _, d2, ?_⟩⟩)
    (refine gw ?_)
    (refine gw ?_; refine Choice.mk ⟨false, Choice.mk ⟨false, _, _, d3, ?_⟩⟩)
    (refine gw ?_; exact RetN.mk ⟨[], rfl, rfl, rfl⟩)
end Go.Ev.W
namespace Go.Ev.W
open Go.Ev Go.Ev.N

def szL : List Nat := [1, 63, 64, 65, 100, 128, 1000, 4095, 4096, 4097, 5000]
def szOf (n : Nat) : Nat := szL.getD (n % 11) 1
theorem szOf_ok (n : Nat) : 1 ≤ szOf n ∧ szOf n ≤ 5000 := by
  have h : ∀ k, k < 11 → 1 ≤ szL.getD k 1 ∧ szL.getD k 1 ≤ 5000 := by decide
  exact h _ (Nat.mod_lt _ (by omega))
theorem size_told (n : Nat) (hn : n < 65536) : Told P T law5_size [] [.int .u16 (n : Nat)] (i64 (szOf n : Nat)) [] := by
  have hw : IntKind.i64.wrap (n : Int) = n := wrap64 (by omega) (by omega)
  have hmd : ((n : Nat) : Int).tmod 11 = ((n % 11 : Nat) : Int) := by rw [Int.tmod_eq_emod_of_nonneg (by omega)]; omega
  have hl : n % 11 < szL.length := by show n % 11 < 11; omega
  have e : szL.map nI = [i64 1, i64 63, i64 64, i64 65, i64 100, i64 128, i64 1000, i64 4095, i64 4096, i64 4097, i64 5000] := rfl
  have hg : szL[n % 11] = szOf n := by unfold szOf; rw [List.getD_eq_getElem?_getD, List.getElem?_eq_getElem hl]; rfl
  have hll : ((([i64 1, i64 63, i64 64, i64 65, i64 100, i64 128, i64 1000, i64 4095, i64 4096, i64 4097, i64 5000] : List AV).length : Nat) : Int) = 11 := rfl
  refine told_of_ev (fn := law5_size_fn) tabOk mixed (by kernel_rfl) (by kernel_rfl) (by kernel_rfl) (by kernel_rfl) ?_
  (refine gw ?_)
  refine Need.mk (by decide) ?_
  rw [hll, hmd]
  (refine gw ?_)
  refine InB.mk (by omega) (by rw [hll]; omega) ?_
  (refine gw ?_)
  refine at_map (f := nI) (l := szL) (k := n % 11) hl ?_
  rw [hg]
  (refine gw ?_; exact RetN.mk ⟨[], rfl, rfl, rfl⟩)
def asT (a : Int) : List Int := [a, 64, 3, 0, 4090]
def bsT (b : Int) : List Int := [b, 70, 1, 1099511627776, 5]
theorem asT_ok {a : Int} (h : -9223372036854775808 ≤ a ∧ a ≤ 9223372036854775807) : ∀ x ∈ asT a, -9223372036854775808 ≤ x ∧ x ≤ 9223372036854775807 := by
  intro x hx
  simp [asT] at hx
  omega
theorem sameT_told {n : Nat} (hn : 1 ≤ n) (hn2 : n ≤ 65536) (b : Nat → Bool) : Told P T ref3_SameTree [] [eTr n b, eTr n b] (.bool true) [] := by
  have hh := hT_le n
  have c := rSameTree (s := n) (t := n) (lvT n b) (lvT n b) (by rw [lvT_len]; omega) (by rw [lvT_len]; omega) (mixT_all_row hn hn2 b) (mixT_all_row hn hn2 b)
  rw [decide_eq_true ⟨rfl, rfl⟩] at c
  exact c
theorem sameNo_told : Told P T ref3_SameTree [] [eT 0 [], eT 0 []] (.bool true) [] := by
  have c := rSameTree (s := 0) (t := 0) [] [] (by simp) (by simp) (by simp) (by simp)
  rw [decide_eq_true ⟨rfl, rfl⟩] at c
  exact c
theorem rowB_has {n : Nat} (hn : 1 ≤ n) (b : Nat → Bool) {x : Int} (hx : x < n) (h : 0 < (lvT n b).length) : rowB (lvT n b)[0] x = hasT n b x := by
  by_cases h0 : 0 ≤ x
  · obtain ⟨i, rfl⟩ : ∃ i : Nat, x = i := ⟨x.toNat, by omega⟩
    rw [rowB_lv hn b (by omega) h]
    unfold hasT
    rw [decide_eq_true (by omega)]; rfl
  · unfold rowB hasT
    rw [decide_eq_false (by omega), decide_eq_false (by omega)]; rfl
theorem hasT_no {n : Nat} {b : Nat → Bool} {x : Int} (hx : ¬ x < n) : hasT n b x = false := by unfold hasT; rw [decide_eq_false (by omega)]; rfl
theorem lenI (g : Nat) (h : g ≤ 3000) : (if (0 : Int) > (if (3000 : Int) < (g : Int) then (3000 : Int) else (g : Int)) then (0 : Int) else (if (3000 : Int) < (g : Int) then (3000 : Int) else (g : Int))).toNat = g := by
  rw [if_neg (show ¬ (3000 : Int) < (g : Int) by omega), if_neg (by omega)]; omega
theorem lenI3 (g : Int) (h : 3000 < g) : (if (0 : Int) > (if (3000 : Int) < g then (3000 : Int) else g) then (0 : Int) else (if (3000 : Int) < g then (3000 : Int) else g)).toNat = 3000 := by
  rw [if_pos h, if_neg (by omega)]; omega
theorem lenI0 (g : Int) (h : g < 1) : (if (0 : Int) > (if (3000 : Int) < g then (3000 : Int) else g) then (0 : Int) else (if (3000 : Int) < g then (3000 : Int) else g)).toNat = 0 := by
  rw [if_neg (show ¬ (3000 : Int) < g by omega)]; split <;> omega
set_option maxRecDepth 20000 in
set_option maxHeartbeats 4000000 in
theorem treeAll_told (l : List Nat) (hl : IsB l) (hlm : l.length ≤ maxLen) (n : Nat) (hn : n < 65536) (a b : Int) (ha : -9223372036854775808 ≤ a ∧ a ≤ 9223372036854775807) (on : Bool) (fr : Int) (hfr : -9223372036854775808 ≤ fr ∧ fr ≤ 9223372036854775807) :
    Told P T law5_TreeAll [] [lB l, .int .u16 (n : Nat), i64 a, i64 b, .bool on, i64 fr] (.bool true) [] := by
  have cb := begun5_told
  have hml : (l.map u8).length = l.length := by simp
  refine told_of_ev (fn := law5_TreeAll_fn) tabOk mixed (by kernel_rfl) (by kernel_rfl) (by kernel_rfl) (by kernel_rfl) ?_
  (refine gw ?_; refine Choice.mk ⟨false, Choice.mk ⟨false, _, _, cb, ?_⟩⟩)
  by_cases h20 : l.length ≤ 20
  · have c1 := made_told l
    have c2 := size_told n hn
    have hsz := szOf_ok n
    generalize szOf n = m at *
    have c3 := pTree_told (n := m) (by omega) (by omega) ⟨l, 0⟩ ⟨hl, by simp, hlm⟩
    generalize (treeP m ⟨l, 0⟩).2 = t at *
    generalize (treeP m ⟨l, 0⟩).1 = p at *
    (refine gw ?_; refine IfB.ff (by rw [hml]; simp; omega) ?_)
    (refine gw ?_; refine Choice.mk ⟨false, Choice.mk ⟨false, _, _, c1, ?_⟩⟩)
    (refine gw ?_; refine Choice.mk ⟨false, Choice.mk ⟨false, _, _, c2, ?_⟩⟩)
    (refine gw ?_; refine Choice.mk ⟨true, Choice.mk ⟨false, _, _, c3, ?_⟩⟩)
    have hh := hT_le m
    have h0 : 0 < (lvT m t).length := by rw [lvT_len]; omega
    have hmlv : ((lvT m t).map lR).length = hT m := by rw [List.length_map, lvT_len]
    (refine gw ?_; refine LoopN.mk ⟨[4,5,13,14,15,16], fun vs L => ∃ i : Nat, vs = [.bool on, i64 fr, .ptr 0 0 0, .lst t_int ((asT a).map i64), .lst t_int ((bsT b).map i64), i64 i] ∧ L = [.var (eTr m t)] ∧ i ≤ 5, fun vs L => match vs with | [_, _, _, _, _, .int _ i] => 5 - i.toNat | _ => 0, [14,15], [1], rfl, ⟨0, rfl, rfl, by omega⟩, ?_⟩)
    rintro vs L ⟨i, rfl, rfl, hi⟩
    by_cases h5 : i < 5
    · have hal : i < (asT a).length := h5
      have hbl : i < (bsT b).length := h5
      have hx := asT_ok ha _ (List.getElem_mem hal)
      have hA : ∀ Q : AV → Prop, Q (i64 ((asT a)[i]'hal)) → Idx ((asT a).map i64) ((i : Nat) : Int) Q := fun Q q => idx_map hal q
      have hB : ∀ Q : AV → Prop, Q (i64 ((bsT b)[i]'hbl)) → Idx ((bsT b).map i64) ((i : Nat) : Int) Q := fun Q q => idx_map hbl q
      generalize (asT a)[i] = x at *
      generalize (bsT b)[i] = y at *
      have d1 := treeFirst_told (n := m) (by omega) (by omega) t x hx
      have d2 := rFirst_told (n := m) (by omega) (by omega) t x hx
      have d3 := treeHas_told (n := m) (by omega) (by omega) t x hx
      have d4 := treeSet_told (n := m) (by omega) (by omega) t x y hx on
      have d5 := rSetTree_told (n := m) (by omega) (by omega) t x y hx on
      have d6 := sameT_told (n := m) (by omega) (by omega) (setZ t x y on)
      have d7 := rHas_told (r := (lvT m t)[0]) (by have := mixT_all_row (n := m) (by omega) (by omega) t _ (List.getElem_mem h0); omega) (fun u hu => lvT_w m t _ (List.getElem_mem h0) u hu) x hx
      obtain ⟨k, q, hk⟩ : ∃ (k : Nat) (q : Bool), eFir (firI m t x) = .tup [i64 k, .bool q] := by
        cases firI m t x with
        | none => exact ⟨0, false, rfl⟩
        | some k => exact ⟨k, true, rfl⟩
      rw [hk] at d1 d2
      generalize setZ t x y on = z at *
      have hno := hasT_no (n := m) (b := t) (x := x)
      have hyes := fun h => rowB_has (n := m) (by omega) t (x := x) h h0
      generalize hasT m t x = hs at *
      (refine gw ?_; refine IfB.tt (by simp; omega) ?_)
      (refine gw ?_)
      refine hA _ ?_
      (refine gw ?_; refine Choice.mk ⟨false, Choice.mk ⟨false, _, _, d1, ?_⟩⟩)
      (refine gw ?_)
      refine hA _ ?_
      (refine gw ?_; refine Choice.mk ⟨false, Choice.mk ⟨false, _, _, d2, ?_⟩⟩)
      (refine gw ?_)
      refine hA _ ?_
      by_cases hxm : x < m
      · have d7 := d7
        rw [hyes hxm] at d7
        (refine gw ?_; refine IfB.tt (by simp; omega) ?_)
        (refine gw ?_)
        refine idx_map (k := 0) h0 ?_
        (refine gw ?_)
        refine hA _ ?_
        (refine gw ?_; refine Choice.mk ⟨false, Choice.mk ⟨false, _, _, d7, ?_⟩⟩)
        (refine gw ?_)
        refine hA _ ?_
        cases hs <;> cases q <;> (
          (refine gw ?_; refine Choice.mk ⟨false, Choice.mk ⟨false, _, _, d3, ?_⟩⟩)
          (refine gw ?_)
          refine hA _ ?_
          (refine gw ?_)
          refine hB _ ?_
          (refine gw ?_; refine Choice.mk ⟨false, Choice.mk ⟨false, _, _, d4, ?_⟩⟩)
          (refine gw ?_)
          refine hA _ ?_
          (refine gw ?_)
          refine hB _ ?_
          (refine gw ?_; refine Choice.mk ⟨false, Choice.mk ⟨false, _, _, d5, ?_⟩⟩)
          (refine gw ?_; refine Choice.mk ⟨false, Choice.mk ⟨false, _, _, d6, ?_⟩⟩)
          (refine gw ?_; refine ⟨[], [0], rfl, ⟨i + 1, rfl, rfl, h5⟩, (by omega : 5 - ((i : Int) + 1).toNat < 5 - (i : Int).toNat)⟩))
      · have d3 := d3
        rw [hno hxm] at d3
        (refine gw ?_; refine IfB.ff (by simp; omega) ?_)
        (refine gw ?_)
        refine hA _ ?_
        cases q <;> (
          (refine gw ?_; refine Choice.mk ⟨false, Choice.mk ⟨false, _, _, d3, ?_⟩⟩)
          (refine gw ?_)
          refine hA _ ?_
          (refine gw ?_)
          refine hB _ ?_
          (refine gw ?_; refine Choice.mk ⟨false, Choice.mk ⟨false, _, _, d4, ?_⟩⟩)
          (refine gw ?_)
          refine hA _ ?_
          (refine gw ?_)
          refine hB _ ?_
          (refine gw ?_; refine Choice.mk ⟨false, Choice.mk ⟨false, _, _, d5, ?_⟩⟩)
          (refine gw ?_; refine Choice.mk ⟨false, Choice.mk ⟨false, _, _, d6, ?_⟩⟩)
          (refine gw ?_; refine ⟨[], [0], rfl, ⟨i + 1, rfl, rfl, h5⟩, (by omega : 5 - ((i : Int) + 1).toNat < 5 - (i : Int).toNat)⟩))
    · have e : i = 5 := by omega
      subst e
      have c4 := may_eTr (n := m) (by omega) (by omega) t
      have fin : ∀ g : Nat, 1 ≤ g → g ≤ 3000 → Told P T tree_New [] [i64 g] (eTr g offB) [] ∧ Told P T ref3_Made [] [i64 g, .lst t_bool (List.replicate g (.bool false))] (eTr g offB) [] ∧ Told P T ref3_SameTree [] [eTr g offB, eTr g offB] (.bool true) [] := fun g h1 h2 => ⟨newR_told (by omega) (by omega), by
        have c := rMade_told (n := g) (by omega) (by omega) offB
        rw [show bitR g offB = List.replicate g (.bool false) by
          apply List.ext_getElem (by simp [bitR_len])
          intro k h1 h2
          simp [bitR, offB]] at c
        exact c, sameT_told (by omega) (by omega) offB⟩
      by_cases hf1 : fr > 1
      · (refine gw ?_; refine IfB.tt (by simp; omega) ?_)
        by_cases hf2 : fr ≤ 65536
        · obtain ⟨f, rfl⟩ : ∃ f : Nat, fr = f := ⟨fr.toNat, by omega⟩
          have hmd : ((f : Nat) : Int).tmod 3000 = ((f % 3000 : Nat) : Int) := by rw [Int.tmod_eq_emod_of_nonneg (by omega)]; omega
          obtain ⟨d1, d2, d3⟩ := fin (1 + f % 3000) (by omega) (by omega)
          (refine gw ?_; refine IfB.tt (by simp; omega) ?_)
          (refine gw ?_)
          rw [hmd, show (1 : Int) + ((f % 3000 : Nat) : Int) = ((1 + f % 3000 : Nat) : Int) by omega]
          (refine gw ?_; refine Choice.mk ⟨false, Choice.mk ⟨false, _, _, c4, ?_⟩⟩)
          (refine gw ?_; refine Choice.mk ⟨false, Choice.mk ⟨false, _, _, d1, ?_⟩⟩)
          (refine gw ?_)
          rw [lenI (1 + f % 3000) (by omega)]
          refine Room.mk (by omega) ?_
          (refine gw ?_; refine Choice.mk ⟨false, Choice.mk ⟨false, _, _, d2, ?_⟩⟩)
          (refine gw ?_; refine Choice.mk ⟨false, Choice.mk ⟨false, _, _, d3, ?_⟩⟩)
          (refine gw ?_; exact RetN.mk ⟨[], rfl, rfl, rfl⟩)
        · have d1 := newNo_told (m := fr) (.inr (by omega))
          have d2 := rMadeNo_told (n := fr) (.inr (by omega)) (List.replicate 3000 (.bool false))
          have d3 := sameNo_told
          (refine gw ?_; refine IfB.ff (by simp; omega) ?_)
          (refine gw ?_; refine Choice.mk ⟨false, Choice.mk ⟨false, _, _, c4, ?_⟩⟩)
          (refine gw ?_; refine Choice.mk ⟨false, Choice.mk ⟨false, _, _, d1, ?_⟩⟩)
          (refine gw ?_)
          rw [lenI3 fr (by omega)]
          refine Room.mk (by omega) ?_
          (refine gw ?_; refine Choice.mk ⟨false, Choice.mk ⟨false, _, _, d2, ?_⟩⟩)
          (refine gw ?_; refine Choice.mk ⟨false, Choice.mk ⟨false, _, _, d3, ?_⟩⟩)
          (refine gw ?_; exact RetN.mk ⟨[], rfl, rfl, rfl⟩)
      · (refine gw ?_; refine IfB.ff (by simp; omega) ?_)
        by_cases hf3 : fr = 1
        · subst hf3
          obtain ⟨d1, d2, d3⟩ := fin 1 (by omega) (by omega)
          have d1 : Told P T tree_New [] [i64 1] _ _ := d1
          have d2 : Told P T ref3_Made [] [i64 1, _] _ _ := d2
          (refine gw ?_; refine Choice.mk ⟨false, Choice.mk ⟨false, _, _, c4, ?_⟩⟩)
          (refine gw ?_; refine Choice.mk ⟨false, Choice.mk ⟨false, _, _, d1, ?_⟩⟩)
          (refine gw ?_)
          refine Room.mk (by decide) ?_
          (refine gw ?_; refine Choice.mk ⟨false, Choice.mk ⟨false, _, _, d2, ?_⟩⟩)
          (refine gw ?_; refine Choice.mk ⟨false, Choice.mk ⟨false, _, _, d3, ?_⟩⟩)
          (refine gw ?_; exact RetN.mk ⟨[], rfl, rfl, rfl⟩)
        · have d1 := newNo_told (m := fr) (.inl (by omega))
          have d2 := rMadeNo_told (n := fr) (.inl (by omega)) []
          have d3 := sameNo_told
          (refine gw ?_; refine Choice.mk ⟨false, Choice.mk ⟨false, _, _, c4, ?_⟩⟩)
          (refine gw ?_; refine Choice.mk ⟨false, Choice.mk ⟨false, _, _, d1, ?_⟩⟩)
          (refine gw ?_)
          rw [lenI0 fr (by omega)]
          refine Room.mk (by omega) ?_
          (refine gw ?_; refine Choice.mk ⟨false, Choice.mk ⟨false, _, _, d2, ?_⟩⟩)
          (refine gw ?_; refine Choice.mk ⟨false, Choice.mk ⟨false, _, _, d3, ?_⟩⟩)
          (refine gw ?_; exact RetN.mk ⟨[], rfl, rfl, rfl⟩)
  · (refine gw ?_; refine IfB.tt (by rw [hml]; simp; omega) ?_)
    (refine gw ?_; exact RetN.mk ⟨[], rfl, rfl, rfl⟩)
end Go.Ev.W
namespace Go.Ev.W
open Go.Ev Go.Ev.N

theorem treeAll {x0 x1 x2 x3 x4 x5 : AV} (h0 : Shp T 8 22 x0) (h1 : Shp T 8 23 x1) (h2 : Shp T 8 3 x2) (h3 : Shp T 8 3 x3) (h4 : Shp T 8 4 x4) (h5 : Shp T 8 3 x5) : Told P T law5_TreeAll [] [x0, x1, x2, x3, x4, x5] (.bool true) [] := by
  obtain ⟨l, rfl, hl, hlm⟩ := shp_bytes h0
  obtain ⟨n, rfl, hn⟩ := shp_u16 (by kernel_rfl) h1
  obtain ⟨a, rfl, ha⟩ := shp_i64 (by kernel_rfl) h2
  obtain ⟨b, rfl, hb⟩ := shp_i64 (by kernel_rfl) h3
  obtain ⟨on, rfl⟩ := shp_bool (by kernel_rfl) h4
  obtain ⟨f, rfl, hf⟩ := shp_i64 (by kernel_rfl) h5
  exact treeAll_told l hl hlm n hn a b ha on f hf
/-- Bits that are set again, as far as one. -/
def agB (b2 t : Nat → Bool) (f j : Nat) : Nat → Bool := fun x => if f ≤ x ∧ x < j ∧ t x = true then true else b2 x
theorem agB_zero (b2 t : Nat → Bool) (f : Nat) : agB b2 t f f = b2 := by
  funext x
  unfold agB
  rw [if_neg (by omega)]
theorem agB_set {b2 t : Nat → Bool} {f j : Nat} (hf : f ≤ j) (h : t j = true) : setZ (agB b2 t f j) j 1 true = agB b2 t f (j + 1) := by
  funext x
  unfold setZ agB
  by_cases e : x = j
  · subst e
    rw [if_pos (by omega), if_pos ⟨hf, by omega, h⟩]
  · rw [if_neg (by omega)]
    by_cases hq : f ≤ x ∧ x < j ∧ t x = true
    · rw [if_pos hq, if_pos ⟨hq.1, by omega, hq.2.2⟩]
    · rw [if_neg hq, if_neg fun h => hq ⟨h.1, by omega, h.2.2⟩]
theorem agB_no {b2 t : Nat → Bool} {f j : Nat} (h : t j = false) : agB b2 t f (j + 1) = agB b2 t f j := by
  funext x
  unfold agB
  by_cases e : x = j
  · subst e
    rw [h]
    rw [if_neg (by simp), if_neg (by simp)]
  · by_cases hq : f ≤ x ∧ x < j ∧ t x = true
    · rw [if_pos hq, if_pos ⟨hq.1, by omega, hq.2.2⟩]
    · rw [if_neg hq, if_neg fun h => hq ⟨h.1, by omega, h.2.2⟩]
theorem agB_end {t : Nat → Bool} {m f k j : Nat} (hj : j = m ∨ f + k ≤ j) (hf : f ≤ j) (x : Nat) (hx : x < m) (hjk : j ≤ f + k) : agB (setZ (setZ t f k true) f k false) t f j x = t x := by
  unfold agB
  by_cases hq : f ≤ x ∧ x < j ∧ t x = true
  · rw [if_pos hq, hq.2.2]
  · rw [if_neg hq]
    unfold setZ
    by_cases h : 0 ≤ (f : Int) ∧ (f : Int) ≤ x ∧ (x : Int) < f + k
    · rw [if_pos h]
      cases ht : t x with
      | false => rfl
      | true => exact absurd ⟨by omega, by omega, ht⟩ hq
    · rw [if_neg h, if_neg h]
theorem firI_spec {n : Nat} {b : Nat → Bool} {f : Nat} (hf : f < n) : (firI n b f = none ∧ ∀ x, f ≤ x → x < n → b x = true) ∨ ∃ i, firI n b f = some i ∧ f ≤ i ∧ i < n ∧ b i = false ∧ ∀ x, f ≤ x → x < i → b x = true := by
  have key : ∀ c, c ≤ n → f ≤ c → (∀ x, f ≤ x → x < c → b x = true) ∨ ∃ i, f ≤ i ∧ i < c ∧ b i = false ∧ ∀ x, f ≤ x → x < i → b x = true := by
    intro c
    induction c with
    | zero => intro _ _; exact .inl fun x _ h => by omega
    | succ c ih =>
      intro h1 h2
      by_cases hc : f ≤ c
      · rcases ih (by omega) hc with h | ⟨i, i1, i2, i3, i4⟩
        · cases hb : b c with
          | true =>
            refine .inl fun x e1 e2 => ?_
            by_cases e : x = c
            · rw [e]; exact hb
            · exact h x e1 (by omega)
          | false => exact .inr ⟨c, hc, by omega, hb, h⟩
        · exact .inr ⟨i, i1, by omega, i3, i4⟩
      · exact .inl fun x e1 e2 => by omega
  have hu : firI n b f = firZ n b f := by
    unfold firI
    rw [if_neg (by omega), Int.toNat_natCast]
  rw [hu]
  rcases key n (Nat.le_refl _) (by omega) with h | ⟨i, i1, i2, i3, i4⟩
  · exact .inl ⟨firZ_none h, h⟩
  · exact .inr ⟨i, firZ_some i2 i1 i3 i4, i1, i2, i3, i4⟩
theorem fir_form {n : Nat} {b : Nat → Bool} {f : Nat} (hf : f < n) : ∃ (q : Bool) (i e : Nat), eFir (firI n b f) = .tup [i64 i, .bool q] ∧ (q = true → i = e ∧ f ≤ i ∧ i < n ∧ b i = false) ∧ (q = false → i = 0 ∧ e = n) ∧ (∀ x, f ≤ x → x < e → b x = true) ∧ f ≤ e ∧ e ≤ n := by
  rcases firI_spec (b := b) hf with ⟨h, h2⟩ | ⟨i, h, i1, i2, i3, i4⟩
  · exact ⟨false, 0, n, by rw [h]; rfl, by simp, fun _ => ⟨rfl, rfl⟩, h2, by omega, Nat.le_refl _⟩
  · exact ⟨true, i, i, by rw [h]; rfl, fun _ => ⟨rfl, i1, i2, i3⟩, by simp, i4, i1, by omega⟩
set_option maxRecDepth 20000 in
set_option maxHeartbeats 4000000 in
theorem treeGlance_told (l : List Nat) (hl : IsB l) (hlm : l.length ≤ maxLen) (n : Nat) (hn : n < 65536) (fr : Nat) (hfr : fr < 65536) (ma : Nat) (hma : ma < 65536) (st : Nat) (hst : st < 65536) :
    Told P T law5_TreeGlance [] [lB l, .int .u16 (n : Nat), .int .u16 (fr : Nat), .int .u16 (ma : Nat), .int .u16 (st : Nat)] (.bool true) [] := by
  have cb := begun5_told
  have hml : (l.map u8).length = l.length := by simp
  refine told_of_ev (fn := law5_TreeGlance_fn) tabOk mixed (by kernel_rfl) (by kernel_rfl) (by kernel_rfl) (by kernel_rfl) ?_
  (refine gw ?_; refine Choice.mk ⟨false, Choice.mk ⟨false, _, _, cb, ?_⟩⟩)
  by_cases h20 : l.length ≤ 20
  · have c1 := made_told l
    have c2 := size_told n hn
    have hsz := szOf_ok n
    generalize szOf n = m at *
    have c3 := pTree_told (n := m) (by omega) (by omega) ⟨l, 0⟩ ⟨hl, by simp, hlm⟩
    generalize (treeP m ⟨l, 0⟩).2 = t at *
    generalize (treeP m ⟨l, 0⟩).1 = p at *
    have hm1 : ((fr : Nat) : Int).tmod m = ((fr % m : Nat) : Int) := (Int.ofNat_tmod fr m).symm
    have hm2 : ((ma : Nat) : Int).tmod 700 = ((ma % 700 : Nat) : Int) := (Int.ofNat_tmod ma 700).symm
    have hm3 : ((st : Nat) : Int).tmod m = ((st % m : Nat) : Int) := (Int.ofNat_tmod st m).symm
    have hf := Nat.mod_lt fr (show 0 < m by omega)
    have hk := Nat.mod_lt ma (show 0 < 700 by omega)
    have hs := Nat.mod_lt st (show 0 < m by omega)
    (refine gw ?_; refine IfB.ff (by rw [hml]; simp; omega) ?_)
    (refine gw ?_; refine Choice.mk ⟨false, Choice.mk ⟨false, _, _, c1, ?_⟩⟩)
    (refine gw ?_; refine Choice.mk ⟨false, Choice.mk ⟨false, _, _, c2, ?_⟩⟩)
    (refine gw ?_; refine Choice.mk ⟨true, Choice.mk ⟨false, _, _, c3, ?_⟩⟩)
    (refine gw ?_)
    rw [hm1]
    (refine gw ?_)
    rw [hm2]
    (refine gw ?_)
    rw [hm3]
    generalize fr % m = f at *
    generalize ma % 700 = k at *
    generalize st % m = s at *
    have d1 := treeSet_told (n := m) (by omega) (by omega) t f k (by omega) true
    have d2 := treeFirst_told (n := m) (by omega) (by omega) (setZ t f k true) s (by omega)
    obtain ⟨q, i, e, hq, hqt, hqf, hall, hem⟩ := fir_form (n := m) (b := setZ t f k true) hs
    rw [hq] at d2
    have hag := fun j => agB_end (t := t) (m := m) (f := f) (k := k) (j := j)
    have d5 := treeSet_told (n := m) (by omega) (by omega) (setZ t f k true) f k (by omega) false
    generalize setZ t f k true = b1 at *
    have d3 := treeHas_told (n := m) (by omega) (by omega) b1 i
    (refine gw ?_; refine Choice.mk ⟨false, Choice.mk ⟨false, _, _, d1, ?_⟩⟩)
    (refine gw ?_; refine Choice.mk ⟨false, Choice.mk ⟨false, _, _, d2, ?_⟩⟩)
    cases q with
    | true =>
      obtain ⟨hie, q1, q2, q3⟩ := hqt rfl
      obtain rfl := hie.symm
      have d3 := d3 (by omega)
      rw [hasT_nat q2, q3] at d3
      (refine gw ?_; refine IfB.ff (by simp; omega) ?_)
      (refine gw ?_; refine IfB.ff (by simp; omega) ?_)
      (refine gw ?_; refine Choice.mk ⟨false, Choice.mk ⟨false, _, _, d3, ?_⟩⟩)
      (refine gw ?_; refine LoopN.mk ⟨[11,12,13,15,18,19], fun vs L => ∃ j : Nat, vs = [.ptr 0 0 0, i64 f, i64 k, .ptr 1 0 0, i64 e, i64 j] ∧ L = [.var (eTr m t), .var (eTr m b1)] ∧ s ≤ j ∧ j ≤ e, fun vs L => match vs with | [_, _, _, _, _, .int _ i] => e - i.toNat | _ => 0, [], [1,3], rfl, ⟨s, rfl, rfl, by omega, by omega⟩, ?_⟩)
      rintro vs L ⟨j, rfl, rfl, hj1, hj2⟩
      by_cases hje : j < e
      · have d4 := treeHas_told (n := m) (by omega) (by omega) b1 j (by omega)
        rw [hasT_nat (by omega), hall j hj1 hje] at d4
        (refine gw ?_; refine IfB.tt (by simp; omega) ?_)
        (refine gw ?_; refine Choice.mk ⟨false, Choice.mk ⟨false, _, _, d4, ?_⟩⟩)
        (refine gw ?_; refine ⟨[], [0,1], rfl, ⟨j + 1, rfl, rfl, by omega, by omega⟩, (by omega : e - ((j : Int) + 1).toNat < e - (j : Int).toNat)⟩)
      · (refine gw ?_; refine IfB.ff (by simp; omega) ?_)
        (refine gw ?_; refine Choice.mk ⟨false, Choice.mk ⟨false, _, _, d5, ?_⟩⟩)
        have hmlv : ((lvT m t).map lR).length = hT m := by rw [List.length_map, lvT_len]
        have hh := hT_le m
        have hag0 := agB_zero (setZ b1 f k false) t f
        (refine gw ?_; refine LoopN.mk ⟨[11,12,13,15,20,21], fun vs L => ∃ j : Nat, vs = [.ptr 0 0 0, i64 f, i64 k, .ptr 1 0 0, .ptr 2 0 0, i64 j] ∧ L = [.var (eTr m t), .var (eTr m b1), .var (eTr m (agB (setZ b1 f k false) t f j))] ∧ f ≤ j ∧ j ≤ m ∧ j ≤ f + k, fun vs L => match vs with | [_, _, _, _, _, .int _ i] => m - i.toNat | _ => 0, [], [0,1,2], rfl, ⟨f, rfl, by rw [hag0]; rfl, by omega, by omega, by omega⟩, ?_⟩)
        rintro vs L ⟨j, rfl, rfl, hj3, hj4, hj5⟩
        by_cases hjm : j < m ∧ j < f + k
        · have e1 := treeHas_told (n := m) (by omega) (by omega) t j (by omega)
          rw [hasT_nat hjm.1] at e1
          have hset := agB_set (b2 := setZ b1 f k false) (t := t) hj3
          have hno := agB_no (b2 := setZ b1 f k false) (t := t) (f := f) (j := j)
          have e2 := treeSet_told (n := m) (by omega) (by omega) (agB (setZ b1 f k false) t f j) j 1 (by omega) true
          generalize agB (setZ b1 f k false) t f = A at *
          (refine gw ?_; refine IfB.tt (by simp; omega) ?_)
          (refine gw ?_; refine IfB.tt (by simp; omega) ?_)
          cases htj : t j with
          | true =>
            rw [htj] at e1
            rw [hset htj] at e2
            (refine gw ?_; refine Choice.mk ⟨false, Choice.mk ⟨false, _, _, e1, ?_⟩⟩)
            (refine gw ?_; refine Choice.mk ⟨false, Choice.mk ⟨false, _, _, e2, ?_⟩⟩)
            (refine gw ?_; refine ⟨[], [0,1,2], rfl, ⟨j + 1, rfl, rfl, by omega, by omega, by omega⟩, (by omega : m - ((j : Int) + 1).toNat < m - (j : Int).toNat)⟩)
          | false =>
            rw [htj] at e1
            (refine gw ?_; refine Choice.mk ⟨false, Choice.mk ⟨false, _, _, e1, ?_⟩⟩)
            (refine gw ?_; refine ⟨[], [0,1,2], rfl, ⟨j + 1, rfl, by rw [hno htj]; rfl, by omega, by omega, by omega⟩, (by omega : m - ((j : Int) + 1).toNat < m - (j : Int).toNat)⟩)
        · have hlt : lvT m (agB (setZ b1 f k false) t f j) = lvT m t := lvT_congr fun x hx => hag j (by omega) hj3 x hx (by omega)
          have e0 : eTr m (agB (setZ b1 f k false) t f j) = eTr m t := by unfold eTr; rw [hlt]
          have e1 := may_eTr (n := m) (by omega) (by omega) b1
          have e2 := may_eTr (n := m) (by omega) (by omega) t
          have e3 := sameT_told (n := m) (by omega) (by omega) t
          rw [e0]
          by_cases hjm1 : j < m
          · (refine gw ?_; refine IfB.tt (by simp; omega) ?_)
            (refine gw ?_; refine IfB.ff (by simp; omega) ?_)
            (refine gw ?_; refine Choice.mk ⟨false, Choice.mk ⟨false, _, _, e1, ?_⟩⟩)
            (refine gw ?_; refine Choice.mk ⟨false, Choice.mk ⟨false, _, _, e2, ?_⟩⟩)
            (refine gw ?_; refine Choice.mk ⟨false, Choice.mk ⟨false, _, _, e3, ?_⟩⟩)
            (refine gw ?_; refine IfB.tt (by rw [hmlv]; simp; omega) ?_)
            (refine gw ?_; refine RetN.mk ⟨[], rfl, ?_, rfl⟩)
            simp [ren3, ren2, ren1]
            rfl
          · (refine gw ?_; refine IfB.ff (by simp; omega) ?_)
            (refine gw ?_; refine Choice.mk ⟨false, Choice.mk ⟨false, _, _, e1, ?_⟩⟩)
            (refine gw ?_; refine Choice.mk ⟨false, Choice.mk ⟨false, _, _, e2, ?_⟩⟩)
            (refine gw ?_; refine Choice.mk ⟨false, Choice.mk ⟨false, _, _, e3, ?_⟩⟩)
            (refine gw ?_; refine IfB.tt (by rw [hmlv]; simp; omega) ?_)
            (refine gw ?_; refine RetN.mk ⟨[], rfl, ?_, rfl⟩)
            simp [ren3, ren2, ren1]
            rfl
    | false =>
      obtain ⟨rfl, he⟩ := hqf rfl
      subst e
      (refine gw ?_; refine LoopN.mk ⟨[11,12,13,15,18,19], fun vs L => ∃ j : Nat, vs = [.ptr 0 0 0, i64 f, i64 k, .ptr 1 0 0, i64 m, i64 j] ∧ L = [.var (eTr m t), .var (eTr m b1)] ∧ s ≤ j ∧ j ≤ m, fun vs L => match vs with | [_, _, _, _, _, .int _ i] => m - i.toNat | _ => 0, [], [1,3], rfl, ⟨s, rfl, rfl, by omega, by omega⟩, ?_⟩)
      rintro vs L ⟨j, rfl, rfl, hj1, hj2⟩
      by_cases hje : j < m
      · have d4 := treeHas_told (n := m) (by omega) (by omega) b1 j (by omega)
        rw [hasT_nat (by omega), hall j hj1 hje] at d4
        (refine gw ?_; refine IfB.tt (by simp; omega) ?_)
        (refine gw ?_; refine Choice.mk ⟨false, Choice.mk ⟨false, _, _, d4, ?_⟩⟩)
        (refine gw ?_; refine ⟨[], [0,1], rfl, ⟨j + 1, rfl, rfl, by omega, by omega⟩, (by omega : m - ((j : Int) + 1).toNat < m - (j : Int).toNat)⟩)
      · (refine gw ?_; refine IfB.ff (by simp; omega) ?_)
        (refine gw ?_; refine Choice.mk ⟨false, Choice.mk ⟨false, _, _, d5, ?_⟩⟩)
        have hmlv : ((lvT m t).map lR).length = hT m := by rw [List.length_map, lvT_len]
        have hh := hT_le m
        have hag0 := agB_zero (setZ b1 f k false) t f
        (refine gw ?_; refine LoopN.mk ⟨[11,12,13,15,20,21], fun vs L => ∃ j : Nat, vs = [.ptr 0 0 0, i64 f, i64 k, .ptr 1 0 0, .ptr 2 0 0, i64 j] ∧ L = [.var (eTr m t), .var (eTr m b1), .var (eTr m (agB (setZ b1 f k false) t f j))] ∧ f ≤ j ∧ j ≤ m ∧ j ≤ f + k, fun vs L => match vs with | [_, _, _, _, _, .int _ i] => m - i.toNat | _ => 0, [], [0,1,2], rfl, ⟨f, rfl, by rw [hag0]; rfl, by omega, by omega, by omega⟩, ?_⟩)
        rintro vs L ⟨j, rfl, rfl, hj3, hj4, hj5⟩
        by_cases hjm : j < m ∧ j < f + k
        · have e1 := treeHas_told (n := m) (by omega) (by omega) t j (by omega)
          rw [hasT_nat hjm.1] at e1
          have hset := agB_set (b2 := setZ b1 f k false) (t := t) hj3
          have hno := agB_no (b2 := setZ b1 f k false) (t := t) (f := f) (j := j)
          have e2 := treeSet_told (n := m) (by omega) (by omega) (agB (setZ b1 f k false) t f j) j 1 (by omega) true
          generalize agB (setZ b1 f k false) t f = A at *
          (refine gw ?_; refine IfB.tt (by simp; omega) ?_)
          (refine gw ?_; refine IfB.tt (by simp; omega) ?_)
          cases htj : t j with
          | true =>
            rw [htj] at e1
            rw [hset htj] at e2
            (refine gw ?_; refine Choice.mk ⟨false, Choice.mk ⟨false, _, _, e1, ?_⟩⟩)
            (refine gw ?_; refine Choice.mk ⟨false, Choice.mk ⟨false, _, _, e2, ?_⟩⟩)
            (refine gw ?_; refine ⟨[], [0,1,2], rfl, ⟨j + 1, rfl, rfl, by omega, by omega, by omega⟩, (by omega : m - ((j : Int) + 1).toNat < m - (j : Int).toNat)⟩)
          | false =>
            rw [htj] at e1
            (refine gw ?_; refine Choice.mk ⟨false, Choice.mk ⟨false, _, _, e1, ?_⟩⟩)
            (refine gw ?_; refine ⟨[], [0,1,2], rfl, ⟨j + 1, rfl, by rw [hno htj]; rfl, by omega, by omega, by omega⟩, (by omega : m - ((j : Int) + 1).toNat < m - (j : Int).toNat)⟩)
        · have hlt : lvT m (agB (setZ b1 f k false) t f j) = lvT m t := lvT_congr fun x hx => hag j (by omega) hj3 x hx (by omega)
          have e0 : eTr m (agB (setZ b1 f k false) t f j) = eTr m t := by unfold eTr; rw [hlt]
          have e1 := may_eTr (n := m) (by omega) (by omega) b1
          have e2 := may_eTr (n := m) (by omega) (by omega) t
          have e3 := sameT_told (n := m) (by omega) (by omega) t
          rw [e0]
          by_cases hjm1 : j < m
          · (refine gw ?_; refine IfB.tt (by simp; omega) ?_)
            (refine gw ?_; refine IfB.ff (by simp; omega) ?_)
            (refine gw ?_; refine Choice.mk ⟨false, Choice.mk ⟨false, _, _, e1, ?_⟩⟩)
            (refine gw ?_; refine Choice.mk ⟨false, Choice.mk ⟨false, _, _, e2, ?_⟩⟩)
            (refine gw ?_; refine Choice.mk ⟨false, Choice.mk ⟨false, _, _, e3, ?_⟩⟩)
            (refine gw ?_; refine IfB.tt (by rw [hmlv]; simp; omega) ?_)
            (refine gw ?_; refine RetN.mk ⟨[], rfl, ?_, rfl⟩)
            simp [ren3, ren2, ren1]
            rfl
          · (refine gw ?_; refine IfB.ff (by simp; omega) ?_)
            (refine gw ?_; refine Choice.mk ⟨false, Choice.mk ⟨false, _, _, e1, ?_⟩⟩)
            (refine gw ?_; refine Choice.mk ⟨false, Choice.mk ⟨false, _, _, e2, ?_⟩⟩)
            (refine gw ?_; refine Choice.mk ⟨false, Choice.mk ⟨false, _, _, e3, ?_⟩⟩)
            (refine gw ?_; refine IfB.tt (by rw [hmlv]; simp; omega) ?_)
            (refine gw ?_; refine RetN.mk ⟨[], rfl, ?_, rfl⟩)
            simp [ren3, ren2, ren1]
            rfl
  · (refine gw ?_; refine IfB.tt (by rw [hml]; simp; omega) ?_)
    (refine gw ?_; exact RetN.mk ⟨[], rfl, rfl, rfl⟩)
theorem treeGlance {x0 x1 x2 x3 x4 : AV} (h0 : Shp T 8 22 x0) (h1 : Shp T 8 23 x1) (h2 : Shp T 8 23 x2) (h3 : Shp T 8 23 x3) (h4 : Shp T 8 23 x4) : Told P T law5_TreeGlance [] [x0, x1, x2, x3, x4] (.bool true) [] := by
  obtain ⟨l, rfl, hl, hlm⟩ := shp_bytes h0
  obtain ⟨n, rfl, hn⟩ := shp_u16 (by kernel_rfl) h1
  obtain ⟨a, rfl, ha⟩ := shp_u16 (by kernel_rfl) h2
  obtain ⟨b, rfl, hb⟩ := shp_u16 (by kernel_rfl) h3
  obtain ⟨c, rfl, hc⟩ := shp_u16 (by kernel_rfl) h4
  exact treeGlance_told l hl hlm n hn a ha b hb c hc
end Go.Ev.W
namespace Go.Ev.W
open Go.Ev Go.Ev.N

abbrev enc3 (p : Nat × Nat × Nat) : AV := .agg [u8 p.1, u8 p.2.1, u8 p.2.2]
theorem shp_3 {n t : Nat} {x : AV} (hk : (T t).k = .slice tx_a3_uint8) (h : Shp T (n + 3) t x) : ∃ l : List (Nat × Nat × Nat), x = .lst tx_a3_uint8 (l.map enc3) ∧ l.length ≤ maxLen ∧ ∀ p ∈ l, p.1 < 256 ∧ p.2.1 < 256 ∧ p.2.2 < 256 :=
  shp_list enc3 (fun p => p.1 < 256 ∧ p.2.1 < 256 ∧ p.2.2 < 256) hk h fun y hy => by
    obtain ⟨ys, rfl, hl, hn⟩ := (show ∃ ys : List AV, y = .agg (ys.flatMap cells) ∧ ys.length = 3 ∧ ∀ z ∈ ys, Shp T (n + 1) t_uint8 z from hy)
    match ys, hl, hn with
    | [u, v, w], _, hn =>
      obtain ⟨a, rfl, ha⟩ := shp_u8 (by kernel_rfl) (hn u (by simp))
      obtain ⟨b, rfl, hb⟩ := shp_u8 (by kernel_rfl) (hn v (by simp))
      obtain ⟨c, rfl, hc⟩ := shp_u8 (by kernel_rfl) (hn w (by simp))
      exact ⟨(a, b, c), rfl, ha, hb, hc⟩
def onF (o : Nat) : Bool := decide (((o : Nat) : Int).tmod 3 > 0)
/-- Bits set from one as far as another. -/
def setJ (b : Nat → Bool) (f j : Nat) (on : Bool) : Nat → Bool := fun x => if f ≤ x ∧ x < j then on else b x
theorem setJ_zero (b : Nat → Bool) (f : Nat) (on : Bool) : setJ b f f on = b := by
  funext x
  unfold setJ
  rw [if_neg (by omega)]
theorem setJ_set {m : Nat} {b : Nat → Bool} {f j : Nat} {on : Bool} (h : f ≤ j) : (bitR m (setJ b f j on)).set j (.bool on) = bitR m (setJ b f (j + 1) on) := by
  rw [bitR_set]
  refine bitR_congr fun x _ => ?_
  unfold setJ
  by_cases e : x = j
  · rw [if_pos e, if_pos (by omega)]
  · rw [if_neg e]
    by_cases hq : f ≤ x ∧ x < j
    · rw [if_pos hq, if_pos (by omega)]
    · rw [if_neg hq, if_neg (by omega)]
theorem setJ_end {m : Nat} {b : Nat → Bool} {f n j : Nat} {on : Bool} (h : m ≤ j ∨ j = f + n) (h2 : j ≤ f + n) : bitR m (setJ b f j on) = bitR m (setZ b f n on) := by
  refine bitR_congr fun x hx => ?_
  unfold setJ setZ
  by_cases hq : f ≤ x ∧ x < j
  · rw [if_pos hq, if_pos (by omega)]
  · rw [if_neg hq, if_neg (by omega)]
/-- The first one that is not set, from so many on. -/
def LowAt (b : Nat → Bool) (s k F : Nat) : Prop := (F = 200 ∧ ∀ x, k ≤ x → x < 200 → s ≤ x → b x = true) ∨ (F < 200 ∧ k ≤ F ∧ s ≤ F ∧ b F = false ∧ ∀ x, k ≤ x → x < F → s ≤ x → b x = true)
theorem LowAt.yes {b : Nat → Bool} {s k F : Nat} (h : LowAt b s (k + 1) F) (hb : b k = true ∨ k < s) : LowAt b s k F := by
  have key : ∀ x, k ≤ x → s ≤ x → (k + 1 ≤ x → b x = true) → b x = true := fun x h1 h2 h3 => by
    by_cases e : x = k
    · subst e
      rcases hb with hb | hb
      · exact hb
      · omega
    · exact h3 (by omega)
  rcases h with ⟨h1, h2⟩ | ⟨h1, h2, h3, h4, h5⟩
  · exact .inl ⟨h1, fun x e1 e2 e3 => key x e1 e3 fun e4 => h2 x e4 e2 e3⟩
  · exact .inr ⟨h1, by omega, h3, h4, fun x e1 e2 e3 => key x e1 e3 fun e4 => h5 x e4 e2 e3⟩
theorem LowAt.no {b : Nat → Bool} {s k F : Nat} (hk : k < 200) (hb : b k = false) (hs : s ≤ k) : LowAt b s k k := .inr ⟨hk, by omega, hs, hb, fun x h1 h2 => by omega⟩
theorem LowAt.fir {b : Nat → Bool} {s F : Nat} (h : LowAt b s 0 F) (hs : s < 200) : (F = 200 ∧ firI 200 b s = none) ∨ (F < 200 ∧ firI 200 b s = some F) := by
  have hu : firI 200 b s = firZ 200 b s := by
    unfold firI
    rw [if_neg (by omega), Int.toNat_natCast]
  rw [hu]
  rcases h with ⟨h1, h2⟩ | ⟨h1, h2, h3, h4, h5⟩
  · exact .inl ⟨h1, firZ_none fun x e1 e2 => h2 x (by omega) e2 e1⟩
  · exact .inr ⟨h1, firZ_some h1 h3 h4 fun x e1 e2 => h5 x (by omega) e2 e1⟩
set_option maxRecDepth 20000 in
set_option maxHeartbeats 4000000 in
theorem treeRow_told (l : List (Nat × Nat × Nat)) (hb : ∀ p ∈ l, p.1 < 256 ∧ p.2.1 < 256 ∧ p.2.2 < 256) (at' : Nat) (hat : at' < 256) : Told P T law5_TreeRow [] [.lst tx_a3_uint8 (l.map enc3), u8 at'] (.bool true) [] := by
  have cb := begun5_told
  have hml : (l.map enc3).length = l.length := by simp
  have cn : Told P T tree_New [] [i64 200] (eTr 200 offB) [] := newR_told (n := 200) (by omega) (by omega)
  have hz := bitR_off 200
  refine told_of_ev (fn := law5_TreeRow_fn) tabOk mixed (by kernel_rfl) (by kernel_rfl) (by kernel_rfl) (by kernel_rfl) ?_
  (refine gw ?_; refine Choice.mk ⟨false, Choice.mk ⟨false, _, _, cb, ?_⟩⟩)
  by_cases h12 : l.length ≤ 12
  · (refine gw ?_; refine IfB.ff (by rw [hml]; simp; omega) ?_)
    (refine gw ?_; refine Choice.mk ⟨false, Choice.mk ⟨false, _, _, cn, ?_⟩⟩)
    (refine gw ?_)
    (refine gw ?_; refine LoopN.mk ⟨[0,1,5,6,7], fun vs L => ∃ (i : Nat) (b : Nat → Bool), vs = [.lst tx_a3_uint8 (l.map enc3), u8 at', .ptr 0 0 0, .ptr 1 0 0, i64 i] ∧ L = [.var (eTr 200 b), .row t_bool (bitR 200 b)] ∧ i ≤ l.length, fun vs L => match vs with | [_, _, _, _, .int _ i] => l.length - i.toNat | _ => 0, [], [0,2], rfl, ⟨0, offB, rfl, by rw [hz]; rfl, by omega⟩, ?_⟩)
    rintro vs L ⟨i, b, rfl, rfl, hi⟩
    by_cases hil : i < l.length
    · have hbi := hb _ (List.getElem_mem hil)
      have hx : ∀ Q : AV → Prop, Q (enc3 l[i]) → Idx (l.map enc3) ((i : Nat) : Int) Q := fun Q q => idx_map hil q
      generalize l[i] = p3 at *
      obtain ⟨f, n, o⟩ := p3
      have hmo : ((o : Nat) : Int).tmod 3 = ((o % 3 : Nat) : Int) := (Int.ofNat_tmod o 3).symm
      (refine gw ?_; refine IfB.tt (by rw [hml]; simp; omega) ?_)
      (refine gw ?_)
      refine hx _ ?_
      (refine gw ?_)
      refine hx _ ?_
      (refine gw ?_)
      refine hx _ ?_
      (refine gw ?_)
      have hf : f < 256 := hbi.1
      have hn : n < 256 := hbi.2.1
      have d1 := treeSet_told (n := 200) (by omega) (by omega) b f n (by omega) (onF o)
      have d2 := may_eTr (n := 200) (by omega) (by omega) (setZ b f n (onF o))
      have hz0 := setJ_zero b f (onF o)
      (refine gw ?_; refine Choice.mk ⟨false, Choice.mk ⟨false, _, _, d1, ?_⟩⟩)
      (refine gw ?_; refine LoopN.mk ⟨[0,1,5,6,7,8,9,10,11], fun vs L => ∃ j : Nat, vs = [.lst tx_a3_uint8 (l.map enc3), u8 at', .ptr 0 0 0, .ptr 1 0 0, i64 i, i64 f, i64 n, .bool (onF o), i64 j] ∧ L = [.var (eTr 200 (setZ b f n (onF o))), .row t_bool (bitR 200 (setJ b f j (onF o)))] ∧ f ≤ j ∧ j ≤ f + n, fun vs L => match vs with | [_, _, _, _, _, _, _, _, .int _ i] => f + n - i.toNat | _ => 0, [], [0,1], rfl, ⟨f, rfl, by rw [hz0]; rfl, by omega, by omega⟩, ?_⟩)
      rintro vs L ⟨j, rfl, rfl, hj1, hj2⟩
      have hbl := bitR_len 200 (setJ b f j (onF o))
      by_cases hj3 : j < f + n
      · by_cases hj4 : j < 200
        · have hst := setJ_set (m := 200) (b := b) (on := onF o) hj1
          generalize setJ b f = A at *
          (refine gw ?_; refine IfB.tt (by simp; omega) ?_)
          (refine gw ?_; refine IfB.tt (by simp; omega) ?_)
          (refine gw ?_)
          rw [Int.toNat_natCast, hst]
          (refine gw ?_; refine ⟨[], [0,1], rfl, ⟨j + 1, rfl, rfl, by omega, by omega⟩, (by omega : f + n - ((j : Int) + 1).toNat < f + n - (j : Int).toNat)⟩)
        · have he := setJ_end (m := 200) (b := b) (f := f) (n := n) (j := j) (on := onF o) (.inl (by omega)) hj2
          (refine gw ?_; refine IfB.tt (by simp; omega) ?_)
          (refine gw ?_; refine IfB.ff (by simp; omega) ?_)
          (refine gw ?_; refine Choice.mk ⟨false, Choice.mk ⟨false, _, _, d2, ?_⟩⟩)
          (refine gw ?_; refine ⟨[], [0,1], rfl, ⟨i + 1, setZ b f n (onF o), rfl, by rw [← he]; rfl, by omega⟩, (by omega : l.length - ((i : Int) + 1).toNat < l.length - (i : Int).toNat)⟩)
      · have he := setJ_end (m := 200) (b := b) (f := f) (n := n) (j := j) (on := onF o) (.inr (by omega)) hj2
        (refine gw ?_; refine IfB.ff (by simp; omega) ?_)
        (refine gw ?_; refine Choice.mk ⟨false, Choice.mk ⟨false, _, _, d2, ?_⟩⟩)
        (refine gw ?_; refine ⟨[], [0,1], rfl, ⟨i + 1, setZ b f n (onF o), rfl, by rw [← he]; rfl, by omega⟩, (by omega : l.length - ((i : Int) + 1).toNat < l.length - (i : Int).toNat)⟩)
    · have hma : ((at' : Nat) : Int).tmod 200 = ((at' % 200 : Nat) : Int) := (Int.ofNat_tmod at' 200).symm
      have hs : at' % 200 < 200 := Nat.mod_lt _ (by omega)
      (refine gw ?_; refine IfB.ff (by rw [hml]; simp; omega) ?_)
      (refine gw ?_; refine LoopN.mk ⟨[1,5,6,12,13], fun vs L => ∃ k F : Nat, vs = [u8 at', .ptr 0 0 0, .ptr 1 0 0, i64 F, i64 ((k : Int) - 1)] ∧ L = [.var (eTr 200 b), .row t_bool (bitR 200 b)] ∧ k ≤ 200 ∧ LowAt b (at' % 200) k F, fun vs L => match vs with | [_, _, _, _, .int _ i] => (i + 1).toNat | _ => 0, [], [0,1], rfl, ⟨200, 200, rfl, rfl, by omega, .inl ⟨rfl, fun x h1 h2 => by omega⟩⟩, ?_⟩)
      rintro vs L ⟨k, F, rfl, rfl, hk, hF⟩
      have hbl := bitR_len 200 b
      by_cases hk0 : 0 < k
      · obtain ⟨k, rfl⟩ : ∃ j, k = j + 1 := ⟨k - 1, by omega⟩
        have d1 := treeHas_told (n := 200) (by omega) (by omega) b k (by omega)
        rw [hasT_nat (by omega)] at d1
        rw [show ((k + 1 : Nat) : Int) - 1 = (k : Int) by omega]
        have hbq : ∀ Q : AV → Prop, Q (.bool (b k)) → At (bitR 200 b) ((k : Nat) : Int).toNat Q := fun Q q => bitR_at (by omega) q
        (refine gw ?_; refine Choice.mk ⟨false, Choice.mk ⟨false, _, _, d1, ?_⟩⟩)
        (refine gw ?_)
        refine hbq _ ?_
        cases hbk : b k with
        | true =>
          rw [hbk] at d1
          (refine gw ?_)
          refine hbq _ ?_
          rw [hbk]
          (refine gw ?_; refine ⟨[], [0,1], rfl, ⟨k, F, rfl, rfl, by omega, hF.yes (.inl hbk)⟩, (by omega : (((k : Int) - 1) + 1).toNat < ((k : Int) + 1).toNat)⟩)
        | false =>
          (refine gw ?_)
          refine hbq _ ?_
          rw [hbk]
          by_cases hsk : at' % 200 ≤ k
          · (refine gw ?_; refine IfB.tt (by rw [hma]; simp; omega) ?_)
            (refine gw ?_; refine ⟨[], [0,1], rfl, ⟨k, k, rfl, rfl, by omega, LowAt.no (F := F) (by omega) hbk hsk⟩, (by omega : (((k : Int) - 1) + 1).toNat < ((k : Int) + 1).toNat)⟩)
          · (refine gw ?_; refine IfB.ff (by rw [hma]; simp; omega) ?_)
            (refine gw ?_; refine ⟨[], [0,1], rfl, ⟨k, F, rfl, rfl, by omega, hF.yes (.inr (by omega))⟩, (by omega : (((k : Int) - 1) + 1).toNat < ((k : Int) + 1).toNat)⟩)
      · obtain rfl : k = 0 := by omega
        have d1 := treeFirst_told (n := 200) (by omega) (by omega) b (at' % 200 : Nat) (by omega)
        have hmod : ∀ Q : Int → Prop, Q ((at' % 200 : Nat) : Int) → Q (((at' : Nat) : Int).tmod 200) := fun Q q => by rw [hma]; exact q
        rw [← hma] at d1
        rcases hF.fir hs with ⟨rfl, hfi⟩ | ⟨hf2, hfi⟩
        · rw [hma, hfi, ← hma] at d1
          (refine gw ?_; refine Choice.mk ⟨false, Choice.mk ⟨false, _, _, d1, ?_⟩⟩)
          (refine gw ?_; exact RetN.mk ⟨[], rfl, rfl, rfl⟩)
        · rw [hma, hfi, ← hma] at d1
          (refine gw ?_; refine Choice.mk ⟨false, Choice.mk ⟨false, _, _, d1, ?_⟩⟩)
          (refine gw ?_)
          rw [show decide ((F : Int) < 200) = true from decide_eq_true (by omega)]
          (refine gw ?_; refine RetN.mk ⟨[], rfl, ?_, rfl⟩)
          simp [ren3, ren2, ren1]
          rfl
  · (refine gw ?_; refine IfB.tt (by rw [hml]; simp; omega) ?_)
    (refine gw ?_; exact RetN.mk ⟨[], rfl, rfl, rfl⟩)
theorem treeRow {x0 x1 : AV} (h0 : Shp T 8 46 x0) (h1 : Shp T 8 5 x1) : Told P T law5_TreeRow [] [x0, x1] (.bool true) [] := by
  obtain ⟨l, rfl, _, hb⟩ := shp_3 (by kernel_rfl) h0
  obtain ⟨a, rfl, ha⟩ := shp_u8 (by kernel_rfl) h1
  exact treeRow_told l hb a ha
end Go.Ev.W
