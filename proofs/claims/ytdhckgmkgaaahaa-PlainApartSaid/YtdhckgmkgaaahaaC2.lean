/- Words and lemmas, part 2, for laws of this seat (a part of their proofs). -/
import Derived.Test.YtdhckgmkgaaahaaC1
set_option linter.unusedVariables false
set_option linter.unusedSimpArgs false
namespace Go.Ev.W
open Go.Ev Go.Ev.N

theorem findB_lt {l : List Bk} {y : Int} {i : Nat} (h : findB l y = some i) : ∃ hi : i < l.length, l[i].a = y := by
  unfold findB at h
  rw [List.findIdx?_eq_some_iff_getElem] at h
  obtain ⟨h1, h2, _⟩ := h
  exact ⟨h1, of_decide_eq_true h2⟩
set_option maxRecDepth 20000 in
set_option maxHeartbeats 8000000 in
theorem do17_told {m : Mo} (hm : MoOk m) {o : X.O} (ho : OpOk o) : Told P T ref17_Do [] [eM m, X.encO o] (.tup [eM (doF m o).1, eA (doF m o).2]) [] := by
  have hH := hm.c.h2
  have hlen := hm.a.len
  have hpg := hm.c.pgpos
  have c1 := give17_told hm ho
  have hol : m.on.length ≤ 65536 := by have := hm.o; have := Nat.div_le_self m.c.H m.c.Pg; omega
  have hml : (metF m.c.Pg m.c.H m.bs).length = m.on.length := by rw [hm.o]; simp [metF]
  unfold doF
  refine told_of_ev (fn := ref17_Do_fn) tabOk mixed (by kernel_rfl) (by kernel_rfl) (by kernel_rfl) (by kernel_rfl) ?_
  by_cases h1 : o.k = 1
  · rw [if_pos (.inl h1)]
    (refine gw ?_; refine IfB.tt (by simp [h1]) ?_)
    (refine gw ?_; refine IfB.tt (by simp [h1]) ?_)
    (refine gw ?_; refine Choice.mk ⟨false, Choice.mk ⟨false, _, _, c1, ?_⟩⟩)
    (refine gw ?_; exact RetN.mk ⟨[], rfl, rfl, rfl⟩)
  (refine gw ?_; refine IfB.ff (by simp [h1]) ?_)
  by_cases h3 : o.k = 3
  · rw [if_pos (.inr (.inl h3))]
    (refine gw ?_; refine IfB.tt (by simp [h3]) ?_)
    (refine gw ?_; refine IfB.tt (by simp [h3]) ?_)
    (refine gw ?_; refine Choice.mk ⟨false, Choice.mk ⟨false, _, _, c1, ?_⟩⟩)
    (refine gw ?_; exact RetN.mk ⟨[], rfl, rfl, rfl⟩)
  (refine gw ?_; refine IfB.ff (by simp [h3]) ?_)
  by_cases h2 : o.k = 2
  · rw [if_pos (.inr (.inr h2))]
    (refine gw ?_; refine IfB.tt (by simp [h2]) ?_)
    (refine gw ?_; refine Choice.mk ⟨false, Choice.mk ⟨false, _, _, c1, ?_⟩⟩)
    (refine gw ?_; exact RetN.mk ⟨[], rfl, rfl, rfl⟩)
  (refine gw ?_; refine IfB.ff (by simp [h2]) ?_)
  rw [if_neg (by omega)]
  by_cases h9 : o.k = 9
  · rw [if_pos h9]
    (refine gw ?_; refine IfB.tt (by simp [h9]) ?_)
    (refine gw ?_; refine Choice.mk ⟨false, Choice.mk ⟨false, _, _, met8_told (pg := m.c.Pg) (size := m.c.H) hpg hH (l := m.bs) (by omega) hm.a.b, ?_⟩⟩)
    (refine gw ?_; refine Choice.mk ⟨false, Choice.mk ⟨false, _, _, trim8_told (on := m.on) hml hol, ?_⟩⟩)
    (refine gw ?_; exact RetN.mk ⟨[], rfl, rfl, rfl⟩)
  rw [if_neg h9]
  (refine gw ?_; refine IfB.ff (by simp [h9]) ?_)
  by_cases h10 : o.k = 10
  · rw [if_pos h10]
    (refine gw ?_; refine IfB.tt (by simp [h10]) ?_)
    (refine gw ?_; refine Choice.mk ⟨false, Choice.mk ⟨false, _, _, count8_told m.on (by omega), ?_⟩⟩)
    (refine gw ?_; exact RetN.mk ⟨[], rfl, rfl, rfl⟩)
  rw [if_neg h10]
  (refine gw ?_; refine IfB.ff (by simp [h10]) ?_)
  by_cases hk : o.k = 4 ∨ o.k = 5 ∨ o.k = 6 ∨ o.k = 7 ∨ o.k = 8
  · rw [if_pos hk]
    have c2 := find17_told m.bs (by omega) o.p
    have key : ∀ Q : Prop, (o.k = 4 → Q) → (o.k = 5 → Q) → (o.k = 6 → Q) → (o.k = 7 → Q) → (o.k = 8 → Q) → Q := fun Q a b c d e => by
      rcases hk with h | h | h | h | h
      · exact a h
      · exact b h
      · exact c h
      · exact d h
      · exact e h
    cases hf : findB m.bs o.p with
    | none =>
      rw [hf] at c2
      refine key _ ?_ ?_ ?_ ?_ ?_ <;> intro hx
      · (refine gw ?_; refine IfB.tt (by simp [hx]) ?_)
        (refine gw ?_; refine IfB.tt (by simp [hx]) ?_)
        (refine gw ?_; refine Choice.mk ⟨false, Choice.mk ⟨true, _, _, c2, ?_⟩⟩)
        (refine gw ?_; refine Choice.mk ⟨false, Choice.mk ⟨false, _, _, wrong17_told m 8, ?_⟩⟩)
        (refine gw ?_; exact RetN.mk ⟨[], rfl, rfl, rfl⟩)
      · (refine gw ?_; refine IfB.ff (by simp [hx]) ?_)
        (refine gw ?_; refine IfB.tt (by simp [hx]) ?_)
        (refine gw ?_; refine IfB.tt (by simp [hx]) ?_)
        (refine gw ?_; refine Choice.mk ⟨false, Choice.mk ⟨true, _, _, c2, ?_⟩⟩)
        (refine gw ?_; refine Choice.mk ⟨false, Choice.mk ⟨false, _, _, wrong17_told m 8, ?_⟩⟩)
        (refine gw ?_; exact RetN.mk ⟨[], rfl, rfl, rfl⟩)
      · (refine gw ?_; refine IfB.ff (by simp [hx]) ?_)
        (refine gw ?_; refine IfB.ff (by simp [hx]) ?_)
        (refine gw ?_; refine IfB.tt (by simp [hx]) ?_)
        (refine gw ?_; refine IfB.tt (by simp [hx]) ?_)
        (refine gw ?_; refine Choice.mk ⟨false, Choice.mk ⟨true, _, _, c2, ?_⟩⟩)
        (refine gw ?_; refine Choice.mk ⟨false, Choice.mk ⟨false, _, _, wrong17_told m 8, ?_⟩⟩)
        (refine gw ?_; exact RetN.mk ⟨[], rfl, rfl, rfl⟩)
      · (refine gw ?_; refine IfB.ff (by simp [hx]) ?_)
        (refine gw ?_; refine IfB.ff (by simp [hx]) ?_)
        (refine gw ?_; refine IfB.ff (by simp [hx]) ?_)
        (refine gw ?_; refine IfB.tt (by simp [hx]) ?_)
        (refine gw ?_; refine IfB.tt (by simp [hx]) ?_)
        (refine gw ?_; refine Choice.mk ⟨false, Choice.mk ⟨true, _, _, c2, ?_⟩⟩)
        (refine gw ?_; refine Choice.mk ⟨false, Choice.mk ⟨false, _, _, wrong17_told m 8, ?_⟩⟩)
        (refine gw ?_; exact RetN.mk ⟨[], rfl, rfl, rfl⟩)
      · (refine gw ?_; refine IfB.ff (by simp [hx]) ?_)
        (refine gw ?_; refine IfB.ff (by simp [hx]) ?_)
        (refine gw ?_; refine IfB.ff (by simp [hx]) ?_)
        (refine gw ?_; refine IfB.ff (by simp [hx]) ?_)
        (refine gw ?_; refine IfB.tt (by simp [hx]) ?_)
        (refine gw ?_; refine Choice.mk ⟨false, Choice.mk ⟨true, _, _, c2, ?_⟩⟩)
        (refine gw ?_; refine Choice.mk ⟨false, Choice.mk ⟨false, _, _, wrong17_told m 8, ?_⟩⟩)
        (refine gw ?_; exact RetN.mk ⟨[], rfl, rfl, rfl⟩)
    | some i =>
      rw [hf] at c2
      obtain ⟨hi, _⟩ := findB_lt hf
      have c3 := of17_told hm ho hi hk
      refine key _ ?_ ?_ ?_ ?_ ?_ <;> intro hx
      · (refine gw ?_; refine IfB.tt (by simp [hx]) ?_)
        (refine gw ?_; refine IfB.tt (by simp [hx]) ?_)
        (refine gw ?_; refine Choice.mk ⟨false, Choice.mk ⟨true, _, _, c2, ?_⟩⟩)
        (refine gw ?_; refine Choice.mk ⟨false, Choice.mk ⟨false, _, _, c3, ?_⟩⟩)
        (refine gw ?_; exact RetN.mk ⟨[], rfl, rfl, rfl⟩)
      · (refine gw ?_; refine IfB.ff (by simp [hx]) ?_)
        (refine gw ?_; refine IfB.tt (by simp [hx]) ?_)
        (refine gw ?_; refine IfB.tt (by simp [hx]) ?_)
        (refine gw ?_; refine Choice.mk ⟨false, Choice.mk ⟨true, _, _, c2, ?_⟩⟩)
        (refine gw ?_; refine Choice.mk ⟨false, Choice.mk ⟨false, _, _, c3, ?_⟩⟩)
        (refine gw ?_; exact RetN.mk ⟨[], rfl, rfl, rfl⟩)
      · (refine gw ?_; refine IfB.ff (by simp [hx]) ?_)
        (refine gw ?_; refine IfB.ff (by simp [hx]) ?_)
        (refine gw ?_; refine IfB.tt (by simp [hx]) ?_)
        (refine gw ?_; refine IfB.tt (by simp [hx]) ?_)
        (refine gw ?_; refine Choice.mk ⟨false, Choice.mk ⟨true, _, _, c2, ?_⟩⟩)
        (refine gw ?_; refine Choice.mk ⟨false, Choice.mk ⟨false, _, _, c3, ?_⟩⟩)
        (refine gw ?_; exact RetN.mk ⟨[], rfl, rfl, rfl⟩)
      · (refine gw ?_; refine IfB.ff (by simp [hx]) ?_)
        (refine gw ?_; refine IfB.ff (by simp [hx]) ?_)
        (refine gw ?_; refine IfB.ff (by simp [hx]) ?_)
        (refine gw ?_; refine IfB.tt (by simp [hx]) ?_)
        (refine gw ?_; refine IfB.tt (by simp [hx]) ?_)
        (refine gw ?_; refine Choice.mk ⟨false, Choice.mk ⟨true, _, _, c2, ?_⟩⟩)
        (refine gw ?_; refine Choice.mk ⟨false, Choice.mk ⟨false, _, _, c3, ?_⟩⟩)
        (refine gw ?_; exact RetN.mk ⟨[], rfl, rfl, rfl⟩)
      · (refine gw ?_; refine IfB.ff (by simp [hx]) ?_)
        (refine gw ?_; refine IfB.ff (by simp [hx]) ?_)
        (refine gw ?_; refine IfB.ff (by simp [hx]) ?_)
        (refine gw ?_; refine IfB.ff (by simp [hx]) ?_)
        (refine gw ?_; refine IfB.tt (by simp [hx]) ?_)
        (refine gw ?_; refine Choice.mk ⟨false, Choice.mk ⟨true, _, _, c2, ?_⟩⟩)
        (refine gw ?_; refine Choice.mk ⟨false, Choice.mk ⟨false, _, _, c3, ?_⟩⟩)
        (refine gw ?_; exact RetN.mk ⟨[], rfl, rfl, rfl⟩)
  · rw [if_neg hk]
    (refine gw ?_; refine IfB.ff (by simp; omega) ?_)
    (refine gw ?_; refine IfB.ff (by simp; omega) ?_)
    (refine gw ?_; refine IfB.ff (by simp; omega) ?_)
    (refine gw ?_; refine IfB.ff (by simp; omega) ?_)
    (refine gw ?_; refine IfB.ff (by simp; omega) ?_)
    (refine gw ?_; refine Choice.mk ⟨false, Choice.mk ⟨false, _, _, wrong17_told m 2, ?_⟩⟩)
    (refine gw ?_; exact RetN.mk ⟨[], rfl, rfl, rfl⟩)

theorem giveG_ok {m : Mo} (hm : MoOk m) (ce : Nat × Nat) (q : Int) (f : Mo × Int × Nat → Mo) (hf : ∀ p : Mo × Int × Nat, MoOk p.1 → p.1.c = m.c → MoOk (f p) ∧ (f p).c = m.c) (h : ce.2 = 0 → (∃ k, k ≤ m.c.L ∧ ce.1 = m.c.G * 2 ^ k) ∧ 0 ≤ q ∧ q ≤ ce.1 ∧ m.live + ce.1 ≤ m.c.M) :
    MoOk (if ce.2 ≠ 0 then (m, anE ce.2) else if (placeF m m.bs ce.1 q).2.2 ≠ 0 then (m, anE (placeF m m.bs ce.1 q).2.2) else (f (placeF m m.bs ce.1 q), { an0 with at' := (placeF m m.bs ce.1 q).2.1 })).1 ∧
    (if ce.2 ≠ 0 then (m, anE ce.2) else if (placeF m m.bs ce.1 q).2.2 ≠ 0 then (m, anE (placeF m m.bs ce.1 q).2.2) else (f (placeF m m.bs ce.1 q), { an0 with at' := (placeF m m.bs ce.1 q).2.1 })).1.c = m.c := by
  by_cases h1 : ce.2 = 0
  · rw [if_neg (by simpa using h1)]
    obtain ⟨a1, a2, a3, a4⟩ := h h1
    by_cases h2 : (placeF m m.bs ce.1 q).2.2 = 0
    · rw [if_neg (by simpa using h2)]
      have hput := placeF_ok hm hm.a hm.z a1 ⟨a2, a3⟩ (by rw [← hm.l]; exact a4) hm.k.1 h2
      exact hf _ hput.ok hput.c
    · rw [if_pos h2]; exact ⟨hm, rfl⟩
  · rw [if_pos h1]; exact ⟨hm, rfl⟩
theorem doF_ok {m : Mo} (hm : MoOk m) {o : X.O} (ho : OpOk o) : MoOk (doF m o).1 ∧ (doF m o).1.c = m.c := by
  have hkeep : MoOk m ∧ m.c = m.c := ⟨hm, rfl⟩
  have hmm := hm.mm
  have htb := totalB_nonneg hm.a
  unfold doF
  split
  · unfold giveF
    simp only
    by_cases h2 : o.k = 2
    · simp only [if_pos h2]
      refine giveG_ok hm (manyF m.c m.live o.n o.s) (o.n * o.s) (fun p => { p.1 with mem := zeroF p.1.mem p.2.1.toNat (manyF m.c m.live o.n o.s).1 }) (fun p hok hc => ⟨⟨hok.c, hok.a, hok.z, hok.l, hok.lM, hok.p, hok.k, hok.o, hok.on, ?_, zeroF_b hok.b _ _⟩, hc⟩) fun h => ?_
      · rw [zeroF_len]; exact hok.mm
      · have := manyF_ok hm.c h
        exact ⟨this.1, this.2.1, this.2.2.1, this.2.2.2.1⟩
    · simp only [if_neg h2]
      refine giveG_ok hm (newF m.c m.live o.s (if o.k = 3 then o.a else 1)) o.s (fun p => p.1) (fun p hok hc => ⟨hok, hc⟩) fun h => ?_
      have := newF_ok hm.c h
      exact ⟨this.1, this.2.1, this.2.2.1, this.2.2.2⟩
  · split
    · refine ⟨⟨hm.c, hm.a, hm.z, hm.l, hm.lM, hm.p, hm.k, ?_, ?_, hm.mm, hm.b⟩, rfl⟩
      · simp only [trimF, List.length_map, List.length_range]; exact hm.o
      · have h := hm.on
        refine Nat.le_trans ?_ h
        have e : m.on = (List.range m.on.length).map fun i => m.on.getD i false := by
          refine List.ext_getElem (by simp) fun i h1 h2 => ?_
          simp [List.getD_eq_getElem?_getD, h1]
        conv => rhs; rw [e]
        exact cnt_mono fun i hi => by rw [Bool.and_eq_true] at hi; exact hi.1
    · split
      · exact hkeep
      · split
        · split
          · exact hkeep
          · rename_i hk i hf
            obtain ⟨hi, _⟩ := findB_lt hf
            have hg : m.bs.getD i bk0 = m.bs[i] := by simp [List.getD_eq_getElem?_getD, hi]
            have hdt := dropB_tot hi
            have hds := dropB_sub m.bs i
            have hb := hm.a.b _ (List.getElem_mem hi)
            unfold ofB
            rw [hg]
            simp only
            split
            · split
              · exact hkeep
              · rename_i h1
                have h1 := Decidable.of_not_not h1
                have hn := newF_ok hm.c h1
                split
                · exact hkeep
                · rename_i h2
                  have h2 := Decidable.of_not_not h2
                  have had := hm.a.sub hds
                  have hput : Put m (dropB m.bs i) _ _ _ _ := placeF_ok hm had (fun x hx => hm.z x (hds.subset hx)) hn.1 ⟨hn.2.1, hn.2.2.1⟩ (by rw [hdt, ← hm.l]; exact hn.2.2.2) (fun x hx => hm.k.1 x (hds.subset hx)) h2
                  have hok := hput.ok
                  have hy := hput.y0
                  have hyH := hput.yH
                  have hml := hput.ml
                  generalize placeF m (dropB m.bs i) (newF m.c (m.live - m.bs[i].c) o.s 1).1 o.s = p at *
                  generalize (newF m.c (m.live - m.bs[i].c) o.s 1).1 = ch at *
                  refine ⟨⟨hok.c, hok.a, hok.z, hok.l, hok.lM, hok.p, hok.k, hok.o, hok.on, ?_, ?_⟩, hput.c⟩
                  · simp only [List.length_append, List.length_take, List.length_drop]
                    rw [hput.c]
                    omega
                  · intro x hx
                    simp only [List.mem_append] at hx
                    rcases hx with (hx | hx) | hx
                    · exact hok.b x (List.mem_of_mem_take hx)
                    · exact hm.b x (List.mem_of_mem_take (List.mem_of_mem_drop hx))
                    · exact hok.b x (List.mem_of_mem_drop hx)
            · split
              · have had := hm.a.sub hds
                have hdn := totalB_nonneg had
                have hl := hm.l
                have hlM := hm.lM
                have hp := hm.p
                refine ⟨⟨hm.c, had, fun x hx => hm.z x (hds.subset hx), by rw [hdt, ← hl], by simp only; omega, by simp only; omega, ⟨fun x hx => hm.k.1 x (hds.subset hx), hm.k.2⟩, hm.o, hm.on, hm.mm, hm.b⟩, rfl⟩
              · split
                · exact hkeep
                · split
                  · exact hkeep
                  · split
                    · exact hkeep
                    · refine ⟨⟨hm.c, hm.a, hm.z, hm.l, hm.lM, hm.p, hm.k, hm.o, hm.on, by rw [List.length_set]; exact hm.mm, fun x hx => ?_⟩, rfl⟩
                      have hob := ho.b
                      rcases List.mem_or_eq_of_mem_set hx with hx | rfl
                      · exact hm.b x hx
                      · omega
        · exact hkeep
end Go.Ev.W
namespace Go.Ev.W
open Go.Ev Go.Ev.N

theorem up_told (v : Nat) (h1 : 1 ≤ v) (h2 : v ≤ 1000000) : Told P T calc_Up [] [i64 v] (.tup [i64 (upN v : Nat), .bool true]) [] := by
  have hu := upN_lt h1
  have hsh : ∀ x : Int, x * 2 ^ min (Int.toNat 1) IntKind.i64.bits = x * 2 := fun x => by
    have : (2 : Int) ^ min (Int.toNat 1) IntKind.i64.bits = 2 := by decide
    rw [this]
  refine told_of_ev (fn := calc_Up_fn) tabOk mixed (by kernel_rfl) (by kernel_rfl) (by kernel_rfl) (by kernel_rfl) ?_
  (refine gw ?_; first | refine IfB.dec (fun h3 => ?_) (fun h3 => ?_) | refine IfB.eq (fun h3 => ?_) (fun h3 => ?_) | refine IfB.ne (fun h3 => ?_) (fun h3 => ?_) | refine IfB.mk (fun h3 => ?_) (fun h3 => ?_))
  · omega
  · (refine gw ?_; first | refine IfB.dec (fun h4 => ?_) (fun h4 => ?_) | refine IfB.eq (fun h4 => ?_) (fun h4 => ?_) | refine IfB.ne (fun h4 => ?_) (fun h4 => ?_) | refine IfB.mk (fun h4 => ?_) (fun h4 => ?_))
    · omega
    · (refine gw ?_; refine LoopN.mk ⟨[0,4], fun vs L => ∃ j : Nat, vs = [i64 v, i64 (2 ^ j : Nat)] ∧ L = [] ∧ 2 ^ j ≤ upN v, fun vs L => match vs with | [_, .int _ i] => 4000000 - i.toNat | _ => 0, [], [], rfl, ⟨0, rfl, rfl, upN_pos v⟩, ?_⟩)
      rintro vs L ⟨j, rfl, rfl, hj⟩
      obtain ⟨p, hp⟩ : ∃ p, 2 ^ j = p := ⟨_, rfl⟩
      obtain ⟨k, hk⟩ := upN_pow v
      have hle := le_upN v
      (refine gw ?_; first | refine IfB.dec (fun h5 => ?_) (fun h5 => ?_) | refine IfB.eq (fun h5 => ?_) (fun h5 => ?_) | refine IfB.ne (fun h5 => ?_) (fun h5 => ?_) | refine IfB.mk (fun h5 => ?_) (fun h5 => ?_))
      · have hd : 2 ^ j * 2 ≤ upN v := by rw [hk]; exact pow_lt_dbl (by omega)
        have e : ((2 ^ (j + 1) : Nat) : Int) = ((2 ^ j : Nat) : Int) * 2 := by rw [Nat.pow_succ]; omega
        rw [hp] at hd e ⊢
        have hpos : 1 ≤ p := by rw [← hp]; exact Nat.one_le_two_pow
        (refine gw ?_)
        rw [hsh]
        (refine gw ?_; refine ⟨[], [], rfl, ⟨j + 1, by rw [e]; rfl, rfl, by rw [Nat.pow_succ, hp]; exact hd⟩, (by omega : 4000000 - ((p : Int) * 2).toNat < 4000000 - (p : Int).toNat)⟩)
      · have e : upN v = 2 ^ j := by
          have := upN_le (v := v) (k := j) (by omega)
          omega
        rw [e]
        (refine gw ?_; exact RetN.mk ⟨[], rfl, rfl, rfl⟩)
theorem pinCount_told (l : List Bool) (hl : l.length ≤ 1000000) : Told P T pin_Count [] [lT l] (i64 (cntB l : Nat)) [] := by
  have hml : (l.map AV.bool).length = l.length := by simp
  refine told_of_ev (fn := pin_Count_fn) tabOk mixed (by kernel_rfl) (by kernel_rfl) (by kernel_rfl) (by kernel_rfl) ?_
  (refine gw ?_; refine LoopN.mk ⟨[2,5,6,7], fun vs L => ∃ i : Nat, vs = [i64 (cntB (l.take i) : Nat), lT l, i64 (l.map AV.bool).length, i64 i] ∧ L = [] ∧ i ≤ l.length, fun vs L => match vs with | [_, _, _, .int _ i] => l.length - i.toNat | _ => 0, [], [], rfl, ⟨0, rfl, rfl, by omega⟩, ?_⟩)
  rintro vs L ⟨i, rfl, rfl, hi⟩
  (refine gw ?_; first | refine IfB.dec (fun h1 => ?_) (fun h1 => ?_) | refine IfB.eq (fun h1 => ?_) (fun h1 => ?_) | refine IfB.ne (fun h1 => ?_) (fun h1 => ?_) | refine IfB.mk (fun h1 => ?_) (fun h1 => ?_))
  · have hlt : i < l.length := by omega
    have hs := cntB_succ hlt
    have hb := cntB_le (l.take i)
    rw [List.length_take] at hb
    (refine gw ?_; refine idx_map (hlt) ?_)
    cases hb : l[i] with
    | false =>
      rw [hb, if_neg (by simp)] at hs
      (refine gw ?_; refine ⟨[], [], rfl, ⟨i + 1, by rw [hs]; rfl, rfl, hlt⟩, (by omega : l.length - ((i : Int) + 1).toNat < l.length - (i : Int).toNat)⟩)
    | true =>
      rw [hb, if_pos rfl] at hs
      (refine gw ?_; refine ⟨[], [], rfl, ⟨i + 1, by rw [hs]; rfl, rfl, hlt⟩, (by omega : l.length - ((i : Int) + 1).toNat < l.length - (i : Int).toNat)⟩)
  · have : i = l.length := by omega
    subst this
    rw [List.take_length]
    (refine gw ?_; exact RetN.mk ⟨[], rfl, rfl, rfl⟩)
end Go.Ev.W
namespace Go.Ev.W
open Go.Ev Go.Ev.N

theorem junkByte_told (seed page k : Nat) : Told P T junk_Byte [] [i64 seed, i64 page, i64 k] (u8 (byteF seed page k)) [] := by
  refine told_of_ev (fn := junk_Byte_fn) tabOk mixed (by kernel_rfl) (by kernel_rfl) (by kernel_rfl) (by kernel_rfl) ?_
  (refine gw ?_)
  refine ⟨?_⟩
  (refine gw ?_)
  refine ⟨?_⟩
  (refine gw ?_)
  refine ⟨?_⟩
  (refine gw ?_)
  refine ⟨?_⟩
  (refine gw ?_)
  refine ⟨?_⟩
  (refine gw ?_)
  refine ⟨?_⟩
  (refine gw ?_)
  refine ⟨?_⟩
  (refine gw ?_)
  refine ⟨?_⟩
  (refine gw ?_; refine RetN.mk ⟨[], rfl, ?_, rfl⟩)
  unfold byteF
  simp only [IntKind.wrap_u8]
  refine congrArg (AV.int .u8) ?_
  omega
theorem pinPages_told {pg y n : Nat} (hp : 1 ≤ pg) (hn : 1 ≤ n) (hy : y + n ≤ 1000000) : Told P T pin_Pages [] [i64 pg, i64 y, i64 n] (.tup [i64 (y / pg : Nat), i64 ((y + n - 1) / pg + 1 : Nat)]) [] := by
  have e1 : ((y : Nat) : Int).tdiv (pg : Nat) = ((y / pg : Nat) : Int) := by rw [Int.tdiv_eq_ediv_of_nonneg (by omega)]; omega
  have e0 : ((y : Nat) : Int) + ((n : Nat) : Int) - 1 = ((y + n - 1 : Nat) : Int) := by omega
  have e2 : (((y + n - 1 : Nat)) : Int).tdiv (pg : Nat) = (((y + n - 1) / pg : Nat) : Int) := by rw [Int.tdiv_eq_ediv_of_nonneg (by omega)]; omega
  have d1 := Nat.div_le_self y pg
  have d2 := Nat.div_le_self (y + n - 1) pg
  generalize y / pg = q at *
  generalize (y + n - 1) / pg = r at *
  refine told_of_ev (fn := pin_Pages_fn) tabOk mixed (by kernel_rfl) (by kernel_rfl) (by kernel_rfl) (by kernel_rfl) ?_
  (refine gw ?_; refine IfB.ff (by simp; omega) ?_)
  (refine gw ?_)
  rw [e1]
  (refine gw ?_; refine IfB.ff (by simp; omega) ?_)
  (refine gw ?_; refine IfB.tt (by simp; omega) ?_)
  (refine gw ?_)
  rw [e0]
  (refine gw ?_)
  rw [e2]
  (refine gw ?_; exact RetN.mk ⟨[], rfl, rfl, rfl⟩)
theorem memWithin_told {mem : List Nat} (hl : mem.length ≤ 65536) {a n : Nat} (h : a + n ≤ mem.length) : Told P T mem_within [] [lU mem, i64 a, i64 n] (.bool true) [] := by
  have hmu : (mem.map u8).length = mem.length := by simp
  refine told_of_ev (fn := mem_within_fn) tabOk mixed (by kernel_rfl) (by kernel_rfl) (by kernel_rfl) (by kernel_rfl) ?_
  (refine gw ?_; refine IfB.tt (by simp; omega) ?_)
  (refine gw ?_; refine RetN.mk ⟨[], rfl, ?_, rfl⟩)
  rw [hmu]
  refine congrArg AV.bool (decide_eq_true ?_)
  omega
end Go.Ev.W
namespace Go.Ev.W
open Go.Ev Go.Ev.N

theorem clone_Block (es : List AV) (hl : es.length ≤ 1000000) : Told P T slices_Clone_api_Block_api_Block [] [.lst t_api_Block es] (.ref 0) [.row t_api_Block es] := by
  refine told_of_ev (fn := slices_Clone_api_Block_api_Block_fn) tabOk mixed (by kernel_rfl) (by kernel_rfl) (by kernel_rfl) (by kernel_rfl) ?_
  refine AnyB.mk (fun b hb => ?_)
  refine IfB.mk (fun h1 => ?_) (fun h1 => ?_)
  · obtain rfl := hb h1
    exact RetN.mk ⟨[1], rfl, rfl, rfl⟩
  · refine Room.mk (by first | omega | (simp; omega) | (simp; done)) ?_
    exact RetN.mk ⟨[2], rfl, rfl, rfl⟩
theorem clone_bool (es : List AV) (hl : es.length ≤ 1000000) : Told P T slices_Clone_bool_bool [] [.lst t_bool es] (.ref 0) [.row t_bool es] := by
  refine told_of_ev (fn := slices_Clone_bool_bool_fn) tabOk mixed (by kernel_rfl) (by kernel_rfl) (by kernel_rfl) (by kernel_rfl) ?_
  refine AnyB.mk (fun b hb => ?_)
  refine IfB.mk (fun h1 => ?_) (fun h1 => ?_)
  · obtain rfl := hb h1
    exact RetN.mk ⟨[1], rfl, rfl, rfl⟩
  · refine Room.mk (by first | omega | (simp; omega) | (simp; done)) ?_
    exact RetN.mk ⟨[2], rfl, rfl, rfl⟩
theorem clone_byte (es : List AV) (hl : es.length ≤ 1000000) : Told P T slices_Clone_byte_byte [] [.lst t_uint8 es] (.ref 0) [.row t_uint8 es] := by
  refine told_of_ev (fn := slices_Clone_byte_byte_fn) tabOk mixed (by kernel_rfl) (by kernel_rfl) (by kernel_rfl) (by kernel_rfl) ?_
  refine AnyB.mk (fun b hb => ?_)
  refine IfB.mk (fun h1 => ?_) (fun h1 => ?_)
  · obtain rfl := hb h1
    exact RetN.mk ⟨[1], rfl, rfl, rfl⟩
  · refine Room.mk (by first | omega | (simp; omega) | (simp; done)) ?_
    exact RetN.mk ⟨[2], rfl, rfl, rfl⟩
theorem zero_list {mem : List Nat} {a n : Nat} (h : a + n ≤ mem.length) : (zeroF mem a n).map u8 = (mem.map u8).take a ++ (List.replicate n (.int .u8 0) ++ (mem.map u8).drop (a + n)) := by
  refine List.ext_getElem (by simp [zeroF]; omega) fun i h1 h2 => ?_
  have hi : i < mem.length := by simpa [zeroF] using h1
  have hz : ∀ (hx : i < (zeroF mem a n).length), (zeroF mem a n)[i] = if a ≤ i ∧ i < a + n then 0 else mem.getD i 0 := fun hx => by simp [zeroF]
  rw [List.getElem_map, hz, List.getElem_append]
  have hg : mem.getD i 0 = mem[i] := by simp [List.getD_eq_getElem?_getD, hi]
  have hta : ((mem.map u8).take a).length = a := by simp; omega
  by_cases h3 : i < a
  · rw [dif_pos (by omega), if_neg (by omega), List.getElem_take, List.getElem_map, hg]
  · rw [dif_neg (by omega), List.getElem_append]
    by_cases h4 : i < a + n
    · rw [dif_pos (by rw [List.length_replicate]; omega), if_pos (by omega), List.getElem_replicate]; rfl
    · rw [dif_neg (by rw [List.length_replicate]; omega), if_neg (by omega), List.getElem_drop, List.getElem_map, hg]
      congr 2
      simp only [hta, List.length_replicate]; omega
set_option maxHeartbeats 4000000 in
theorem memPut_told {mem : List Nat} (hl : mem.length ≤ 65536) {a : Nat} {b : Int} (h : a + 1 ≤ mem.length) : Told P T mem_Put [] [lU mem, i64 a, .int .u8 b] (.tup [.lst t_uint8 ((mem.map u8).set a (.int .u8 b)), .bool true]) [] := by
  have hmu : (mem.map u8).length = mem.length := by simp
  have c1 := clone_byte (mem.map u8) (by omega)
  have c2 := memWithin_told hl h
  refine told_of_ev (fn := mem_Put_fn) tabOk mixed (by kernel_rfl) (by kernel_rfl) (by kernel_rfl) (by kernel_rfl) ?_
  (refine gw ?_; refine Choice.mk ⟨false, Choice.mk ⟨false, _, _, c1, ?_⟩⟩)
  (refine gw ?_; refine Choice.mk ⟨false, Choice.mk ⟨true, _, _, c2, ?_⟩⟩)
  (refine gw ?_)
  (refine gw ?_; refine RetN.fz ⟨[true, true], [], rfl, ?_, rfl⟩)
  rfl
set_option maxHeartbeats 4000000 in
theorem memGet_told {mem : List Nat} (hl : mem.length ≤ 65536) {a : Nat} (h : a + 1 ≤ mem.length) : Told P T mem_Get [] [lU mem, i64 a] (.tup [u8 (mem.getD a 0), .bool true]) [] := by
  have hmu : (mem.map u8).length = mem.length := by simp
  have c2 := memWithin_told hl h
  have ha : a < mem.length := by omega
  have hg : mem.getD a 0 = mem[a] := by simp [List.getD_eq_getElem?_getD, ha]
  rw [hg]
  refine told_of_ev (fn := mem_Get_fn) tabOk mixed (by kernel_rfl) (by kernel_rfl) (by kernel_rfl) (by kernel_rfl) ?_
  (refine gw ?_; refine Choice.mk ⟨false, Choice.mk ⟨true, _, _, c2, ?_⟩⟩)
  (refine gw ?_; refine idx_map (ha) ?_)
  (refine gw ?_; exact RetN.mk ⟨[], rfl, rfl, rfl⟩)
set_option maxHeartbeats 4000000 in
theorem memZero_told {mem : List Nat} (hl : mem.length ≤ 65536) {a n : Nat} (h : a + n ≤ mem.length) : Told P T mem_Zero [] [lU mem, i64 a, i64 n] (.tup [lU (zeroF mem a n), .bool true]) [] := by
  have hmu : (mem.map u8).length = mem.length := by simp
  have c1 := clone_byte (mem.map u8) (by omega)
  have c2 := memWithin_told hl h
  refine told_of_ev (fn := mem_Zero_fn) tabOk mixed (by kernel_rfl) (by kernel_rfl) (by kernel_rfl) (by kernel_rfl) ?_
  (refine gw ?_; refine Choice.mk ⟨false, Choice.mk ⟨false, _, _, c1, ?_⟩⟩)
  (refine gw ?_; refine Choice.mk ⟨false, Choice.mk ⟨true, _, _, c2, ?_⟩⟩)
  (refine gw ?_; refine Cut.mk (by first | omega | (simp; omega) | (simp <;> fail)) (by first | omega | (simp; omega) | (simp <;> fail)) (by first | omega | (simp; omega) | (simp <;> fail)) ?_)
  have e : (zeroF mem a n).map u8 = (mem.map u8).take ((a : Nat) : Int).toNat ++ (List.replicate ((((a : Nat) : Int) + ((n : Nat) : Int)).toNat - ((a : Nat) : Int).toNat) (.int .u8 0) ++ (mem.map u8).drop (((a : Nat) : Int).toNat + ((((a : Nat) : Int) + ((n : Nat) : Int)).toNat - ((a : Nat) : Int).toNat))) := by
    rw [show (((a : Nat) : Int) + ((n : Nat) : Int)).toNat - ((a : Nat) : Int).toNat = n by omega, Int.toNat_natCast]
    exact zero_list h
  (refine gw ?_; refine RetN.fz ⟨[true, true], [], rfl, ?_, rfl⟩)
  refine Eq.trans ?_ (congrArg (fun z => AV.tup [.lst t_uint8 z, .bool true]) e.symm)
  rfl
end Go.Ev.W
namespace Go.Ev.W
open Go.Ev Go.Ev.N

set_option maxHeartbeats 4000000 in
theorem trim_told {on met : List Bool} (hN : met.length = on.length) (hl : on.length ≤ 65536) : Told P T commit_Trim [] [lT on, lT met] (.tup [lT (trimF on met).1, i64 ((trimF on met).2 : Nat)]) [] := by
  have hmo : (on.map AV.bool).length = on.length := by simp
  have hmm : (met.map AV.bool).length = met.length := by simp
  obtain ⟨D, hD⟩ : ∃ D, on.length = D := ⟨_, rfl⟩
  have c1 := clone_bool (on.map AV.bool) (by omega)
  refine told_of_ev (fn := commit_Trim_fn) tabOk mixed (by kernel_rfl) (by kernel_rfl) (by kernel_rfl) (by kernel_rfl) ?_
  (refine gw ?_; refine Choice.mk ⟨false, Choice.mk ⟨false, _, _, c1, ?_⟩⟩)
  (refine gw ?_; refine LoopN.mk ⟨[1,4,5,10,11,12], fun vs L => ∃ i : Nat, vs = [lT met, .ref 0, i64 (((List.range i).filter fun i => on.getD i false && !met.getD i false).length : Nat), lT on, i64 (on.map AV.bool).length, i64 i] ∧ L = [.row t_bool (tabF D fun j => .bool (on.getD j false && or (decide (i ≤ j)) (met.getD j false)))] ∧ i ≤ D, fun vs L => match vs with | [_, _, _, _, _, .int _ i] => D - i.toNat | _ => 0, [], [1], rfl, ⟨0, rfl, ?_, by omega⟩, ?_⟩)
  · show [Blk.row t_bool (on.map AV.bool)] = _
    rw [tabF_map on AV.bool false, hD]
    refine congrArg (fun z => [Blk.row t_bool z]) (tabF_congr fun k _ => ?_)
    rw [decide_eq_true (Nat.zero_le k)]; simp
  rintro vs L ⟨i, rfl, rfl, hi⟩
  have hset : ∀ (v : Bool), i < D → v = (on.getD i false && met.getD i false) → (tabF D fun j => AV.bool (on.getD j false && or (decide (i ≤ j)) (met.getD j false))).set ((i : Nat) : Int).toNat (.bool v) = tabF D fun j => AV.bool (on.getD j false && or (decide (i + 1 ≤ j)) (met.getD j false)) := fun v hiD hv => by
    rw [Int.toNat_natCast]
    refine tabF_set hiD fun j hj => ?_
    by_cases e : j = i
    · subst e; rw [if_pos rfl, decide_eq_false (show ¬ j + 1 ≤ j by omega), hv]; rfl
    · rw [if_neg e]
      have : decide (i + 1 ≤ j) = decide (i ≤ j) := decide_eq_decide.2 (by omega)
      rw [this]
  have hkeep : i < D → (on.getD i false = true → met.getD i false = true) → (tabF D fun j => AV.bool (on.getD j false && or (decide (i ≤ j)) (met.getD j false))) = tabF D fun j => AV.bool (on.getD j false && or (decide (i + 1 ≤ j)) (met.getD j false)) := fun hiD hv => by
    refine tabF_congr fun j hj => ?_
    by_cases e : j = i
    · subst e
      rw [decide_eq_false (show ¬ j + 1 ≤ j by omega), decide_eq_true (Nat.le_refl j)]
      cases ho : on.getD j false with
      | true => rw [hv ho]; rfl
      | false => rfl
    · have : decide (i + 1 ≤ j) = decide (i ≤ j) := decide_eq_decide.2 (by omega)
      rw [this]
  (refine gw ?_; first | refine IfB.dec (fun g1 => ?_) (fun g1 => ?_) | refine IfB.eq (fun g1 => ?_) (fun g1 => ?_) | refine IfB.ne (fun g1 => ?_) (fun g1 => ?_) | refine IfB.mk (fun g1 => ?_) (fun g1 => ?_))
  · have hiD : i < D := by omega
    have hio : i < on.length := by omega
    have him : i < met.length := by omega
    have ho := lT_get hio
    have hm := lT_get him
    have hs : (List.filter (fun i => on.getD i false && !met.getD i false) (List.range (i + 1))).length = (List.filter (fun i => on.getD i false && !met.getD i false) (List.range i)).length + if (on[i] && !met[i]) = true then 1 else 0 := by
      rw [List.range_succ, List.filter_append, List.length_append, ← ho, ← hm]; simp only [List.filter_cons, List.filter_nil]; split <;> rfl
    have hs2 : (List.filter (fun i => on.getD i false && !met.getD i false) (List.range i)).length ≤ i := by
      simpa using List.length_filter_le (fun i => on.getD i false && !met.getD i false) (List.range i)
    rw [ho, hm] at hset hkeep
    (refine gw ?_; refine idx_map (hio) ?_)
    rcases hov : on[i] with _ | _
    · rw [hov] at hs hkeep
      rw [Bool.false_and] at hs
      have hs : (List.filter (fun i => on.getD i false && !met.getD i false) (List.range (i + 1))).length = (List.filter (fun i => on.getD i false && !met.getD i false) (List.range i)).length := hs
      (refine gw ?_; refine ⟨[], [0], rfl, ⟨i + 1, by rw [hs]; rfl, by rw [← hkeep hiD (by simp)]; rfl, hiD⟩, (by omega : D - ((i : Int) + 1).toNat < D - (i : Int).toNat)⟩)
    · rw [hov] at hs hset hkeep
      rw [Bool.true_and] at hs hset
      (refine gw ?_; refine IfB.ff (by rw [hmm]; simp; omega) ?_)
      (refine gw ?_; refine idx_map (him) ?_)
      rcases hmv : met[i] with _ | _
      · rw [hmv] at hs hset
        have hs : (List.filter (fun i => on.getD i false && !met.getD i false) (List.range (i + 1))).length = (List.filter (fun i => on.getD i false && !met.getD i false) (List.range i)).length + 1 := hs
        (refine gw ?_; refine InB.mk (by omega) (by rw [tabF_len]; omega) ?_)
        (refine gw ?_; refine ⟨[], [0], rfl, ⟨i + 1, by rw [hs]; rfl, by rw [← hset false hiD rfl]; rfl, hiD⟩, (by omega : D - ((i : Int) + 1).toNat < D - (i : Int).toNat)⟩)
      · rw [hmv] at hs hkeep
        have hs : (List.filter (fun i => on.getD i false && !met.getD i false) (List.range (i + 1))).length = (List.filter (fun i => on.getD i false && !met.getD i false) (List.range i)).length := hs
        (refine gw ?_; refine ⟨[], [0], rfl, ⟨i + 1, by rw [hs]; rfl, by rw [← hkeep hiD (by simp)]; rfl, hiD⟩, (by omega : D - ((i : Int) + 1).toNat < D - (i : Int).toNat)⟩)
  · have e : i = D := by omega
    subst e
    have f1 : (tabF i fun j => AV.bool (on.getD j false && or (decide (i ≤ j)) (met.getD j false))) = ((List.range i).map fun j => on.getD j false && met.getD j false).map AV.bool := by
      rw [← tabF_of]; exact tabF_congr fun j hj => by rw [decide_eq_false (show ¬ i ≤ j by omega)]; simp
    rw [f1]
    unfold trimF
    rw [hD]
    (refine gw ?_; exact RetN.fz ⟨[true, true], [], rfl, rfl, rfl⟩)
end Go.Ev.W
namespace Go.Ev.W
open Go.Ev Go.Ev.N

set_option maxHeartbeats 4000000 in
theorem junkFillR_told {mem : List Nat} (hl : mem.length ≤ 65536) {seed page size : Nat} (hs : 0 < size) (hp : (page + 1) * size ≤ mem.length) : Told P T junk_Fill [] [lU mem, i64 seed, i64 page, i64 size] (.ref 0) [.row t_uint8 ((fillF mem seed page size).map u8)] := by
  have hmu : (mem.map u8).length = mem.length := by simp
  obtain ⟨D, hD⟩ : ∃ D, mem.length = D := ⟨_, rfl⟩
  have c1 := clone_byte (mem.map u8) (by omega)
  have d1 : ((D : Nat) : Int).tdiv ((size : Nat) : Int) = ((D / size : Nat) : Int) := (Int.ofNat_tdiv D size).symm
  have hmul : (page + 1) * size = page * size + size := by rw [Nat.succ_mul]
  have hdv : page + 1 ≤ D / size := (Nat.le_div_iff_mul_le hs).2 (by omega)
  have hdl := Nat.div_le_self D size
  have eps : ((page : Nat) : Int) * ((size : Nat) : Int) = ((page * size : Nat) : Int) := by rw [Int.natCast_mul]
  have hfs : ∀ k, k < size → fAt mem seed page size (page * size + k) = byteF seed page k := fun k hk => by
    have e1 : (page * size + k) / size = page := by rw [Nat.mul_comm, Nat.mul_add_div hs, Nat.div_eq_of_lt hk]; rfl
    have e2 : (page * size + k) % size = k := by rw [Nat.mul_comm, Nat.mul_add_mod, Nat.mod_eq_of_lt hk]
    unfold fAt; rw [if_pos e1, e2]
  have hfo : ∀ j, ¬ (page * size ≤ j ∧ j < page * size + size) → fAt mem seed page size j = mem.getD j 0 := fun j hj => by
    unfold fAt
    rw [if_neg]
    intro e
    apply hj
    have h1 := Nat.div_mul_le_self j size
    have h2 := Nat.lt_mul_div_succ j hs
    rw [e] at h1 h2
    rw [Nat.mul_comm, Nat.succ_mul] at h2
    omega
  rw [hD] at hmu hp
  generalize D / size = q at *
  generalize page * size = ps at *
  have hg := fun k => tabF_len D (fun j => u8 (if ps ≤ j ∧ j < ps + k then fAt mem seed page size j else mem.getD j 0))
  refine told_of_ev (fn := junk_Fill_fn) tabOk mixed (by kernel_rfl) (by kernel_rfl) (by kernel_rfl) (by kernel_rfl) ?_
  (refine gw ?_; refine Choice.mk ⟨false, Choice.mk ⟨false, _, _, c1, ?_⟩⟩)
  (refine gw ?_; refine IfB.ff (by simp; omega) ?_)
  (refine gw ?_)
  rw [hmu, d1]
  (refine gw ?_; refine IfB.ff (by simp; omega) ?_)
  (refine gw ?_; refine LoopN.mk ⟨[0,1,2,3,9], fun vs L => ∃ k : Nat, vs = [.ref 0, i64 seed, i64 page, i64 size, i64 k] ∧ L = [.row t_uint8 (tabF D fun j => u8 (if ps ≤ j ∧ j < ps + k then fAt mem seed page size j else mem.getD j 0))] ∧ k ≤ size, fun vs L => match vs with | [_, _, _, _, .int _ i] => size - i.toNat | _ => 0, [], [1], rfl, ⟨0, rfl, ?_, by omega⟩, ?_⟩)
  · show [Blk.row t_uint8 (mem.map u8)] = _
    rw [lU_tab, hD]
    exact congrArg (fun z => [Blk.row t_uint8 z]) (tabF_congr fun j _ => by rw [if_neg (by omega)])
  rintro vs L ⟨k, rfl, rfl, hk⟩
  have hgk := hg k
  by_cases hks : k < size
  · have hset : (tabF D fun j => u8 (if ps ≤ j ∧ j < ps + k then fAt mem seed page size j else mem.getD j 0)).set (((ps : Nat) : Int) + ((k : Nat) : Int)).toNat (u8 (byteF seed page k)) = tabF D fun j => u8 (if ps ≤ j ∧ j < ps + (k + 1) then fAt mem seed page size j else mem.getD j 0) := by
      rw [show (((ps : Nat) : Int) + ((k : Nat) : Int)).toNat = ps + k by omega]
      refine tabF_set (by omega) fun j hj => ?_
      by_cases e : j = ps + k
      · subst e; rw [if_pos rfl, if_pos (by omega), hfs k hks]
      · rw [if_neg e]
        by_cases e2 : ps ≤ j ∧ j < ps + k
        · rw [if_pos e2, if_pos (by omega)]
        · rw [if_neg e2, if_neg (by omega)]
    (refine gw ?_; refine IfB.tt (by simp; omega) ?_)
    (refine gw ?_)
    rw [eps]
    (refine gw ?_)
    rw [hgk]
    (refine gw ?_; refine IfB.tt (by simp; omega) ?_)
    (refine gw ?_; refine Choice.mk ⟨false, Choice.mk ⟨true, _, _, junkByte_told seed page k, ?_⟩⟩)
    (refine gw ?_)
    rw [eps]
    (refine gw ?_; refine ⟨[], [0], rfl, ⟨k + 1, rfl, by rw [← hset]; rfl, by omega⟩, (by omega : size - ((k : Int) + 1).toNat < size - (k : Int).toNat)⟩)
  · have e : k = size := by omega
    subst e
    have f1 : (tabF D fun j => u8 (if ps ≤ j ∧ j < ps + k then fAt mem seed page k j else mem.getD j 0)) = (fillF mem seed page k).map u8 := by
      rw [fillF_eq, hD, ← tabF_of]
      refine tabF_congr fun j hj => ?_
      by_cases e2 : ps ≤ j ∧ j < ps + k
      · rw [if_pos e2]
      · rw [if_neg e2, hfo j e2]
    rw [f1]
    (refine gw ?_; exact RetN.mk ⟨[0], rfl, rfl, rfl⟩)
theorem junkFill_told {mem : List Nat} (hl : mem.length ≤ 65536) {seed page size : Nat} (hs : 0 < size) (hp : (page + 1) * size ≤ mem.length) : Told P T junk_Fill [] [lU mem, i64 seed, i64 page, i64 size] (lU (fillF mem seed page size)) [] :=
  (junkFillR_told hl hs hp).fz
end Go.Ev.W
namespace Go.Ev.W
open Go.Ev Go.Ev.N

/-- Which are there behind the first so many of what is given. -/
def upF (on : List Bool) (f i j : Nat) : Bool := on.getD j false || (decide (f ≤ j) && decide (j < i))
theorem freshL_at (on : List Bool) {f b i : Nat} (h1 : f ≤ i) (h2 : i ≤ b) : freshL on f b i = (List.range i).filter fun j => decide (f ≤ j) && !on.getD j false := by
  unfold freshL
  refine List.filter_congr fun j hj => ?_
  have hj : j < i := by simpa using hj
  unfold isIn
  have : decide (f ≤ j ∧ j < b) = decide (f ≤ j) := decide_eq_decide.2 ⟨fun h => h.1, fun h => ⟨h, by omega⟩⟩
  rw [this]
theorem freshL_end (on : List Bool) {f b n : Nat} (h1 : f ≤ b) (h2 : b ≤ n) : freshL on f b n = freshL on f b b := by
  unfold freshL
  obtain ⟨d, rfl⟩ : ∃ d, n = b + d := ⟨n - b, by omega⟩
  clear h2
  induction d with
  | zero => rfl
  | succ d ih =>
    rw [show b + (d + 1) = b + d + 1 by omega, List.range_succ, List.filter_append, ih]
    have : isIn f b (b + d) = false := decide_eq_false (by omega)
    simp [this]
theorem freshL_low (on : List Bool) {f b : Nat} : freshL on f b f = [] := by
  unfold freshL
  rw [List.filter_eq_nil_iff]
  intro j hj
  have hj : j < f := by simpa using hj
  have : isIn f b j = false := decide_eq_false (by omega)
  simp [this]
set_option maxHeartbeats 8000000 in
theorem commit_told {on met : List Bool} (hN : met.length = on.length) (hl : on.length ≤ 65536) {f b most : Nat} (hf : f ≤ b) (hb : b ≤ on.length) (hm : most ≤ 65536) : Told P T commit_Commit [] [lT on, lT met, i64 f, i64 b, i64 most] (.tup [lT (commitF on met f b most).1, .lst t_int ((commitF on met f b most).2.1.map fun n => i64 (n : Nat)), .bool (commitF on met f b most).2.2]) [] := by
  have hmo : (on.map AV.bool).length = on.length := by simp
  have hmm : (met.map AV.bool).length = met.length := by simp
  have e3 := commitF_eq on met f b most
  obtain ⟨D, hD⟩ : ∃ D, on.length = D := ⟨_, rfl⟩
  have c1 := clone_bool (on.map AV.bool) (by omega)
  have c2 := clone_bool (met.map AV.bool) (by omega)
  refine told_of_ev (fn := commit_Commit_fn) tabOk mixed (by kernel_rfl) (by kernel_rfl) (by kernel_rfl) (by kernel_rfl) ?_
  (refine gw ?_; refine IfB.ff (by rw [hmm, hmo, hN]; simp) ?_)
  (refine gw ?_; refine IfB.ff (by simp; omega) ?_)
  (refine gw ?_; refine IfB.ff (by rw [hmo]; simp; omega) ?_)
  (refine gw ?_; refine Choice.mk ⟨false, Choice.mk ⟨false, _, _, c1, ?_⟩⟩)
  (refine gw ?_; refine Choice.mk ⟨false, Choice.mk ⟨false, _, _, c2, ?_⟩⟩)
  rw [hD] at hN hl hb hmo e3
  (refine gw ?_; refine LoopN.mk ⟨[0,3,4,10,11,13,14], fun vs L => ∃ i : Nat, vs = [lT on, i64 b, i64 most, .ref 0, .ref 1, .ref 2, i64 i] ∧ L = [.row t_bool (tabF D fun j => .bool (upF on f i j)), .row t_int ((freshL on f b i).map fun n => i64 (n : Nat)), .row t_bool (tabF D fun j => .bool (upF met f i j))] ∧ f ≤ i ∧ i ≤ b, fun vs L => match vs with | [_, _, _, _, _, _, .int _ i] => b - i.toNat | _ => 0, [], [2,1,3], rfl, ⟨f, rfl, ?_, by omega, by omega⟩, ?_⟩)
  · show [Blk.row t_bool (on.map AV.bool), Blk.row t_int [], Blk.row t_bool (met.map AV.bool)] = _
    have e0 : ∀ l : List Bool, l.length = D → l.map AV.bool = tabF D fun j => AV.bool (upF l f f j) := fun l hl => by
      rw [tabF_map l AV.bool false, hl]
      refine tabF_congr fun k _ => ?_
      unfold upF
      have : (decide (f ≤ k) && decide (k < f)) = false := by rw [Bool.and_eq_false_iff]; by_cases h : f ≤ k <;> simp [h]
      rw [this, Bool.or_false]
    rw [e0 on hD, e0 met hN, freshL_low]; rfl
  rintro vs L ⟨i, rfl, rfl, hfi, hib⟩
  have hfl := freshL_len on f b i
  have hfm : ((freshL on f b i).map fun n => i64 (n : Nat)).length = (freshL on f b i).length := by simp
  have hset : ∀ l : List Bool, i < D → (tabF D fun j => AV.bool (upF l f i j)).set ((i : Nat) : Int).toNat (.bool true) = tabF D fun j => AV.bool (upF l f (i + 1) j) := fun l hiD => by
    rw [Int.toNat_natCast]
    refine tabF_set hiD fun j hj => ?_
    unfold upF
    by_cases e : j = i
    · subst e; rw [if_pos rfl, decide_eq_true (show j < j + 1 by omega), decide_eq_true hfi]; simp
    · rw [if_neg e]
      have : decide (j < i + 1) = decide (j < i) := decide_eq_decide.2 (by omega)
      rw [this]
  (refine gw ?_; first | refine IfB.dec (fun g1 => ?_) (fun g1 => ?_) | refine IfB.eq (fun g1 => ?_) (fun g1 => ?_) | refine IfB.ne (fun g1 => ?_) (fun g1 => ?_) | refine IfB.mk (fun g1 => ?_) (fun g1 => ?_))
  · have hiD : i < D := by omega
    have hio : i < on.length := by omega
    have ho := lT_get hio
    have hfs := freshL_succ on f b i
    have hin : isIn f b i = true := decide_eq_true (by omega)
    rw [ho, hin, Bool.true_and] at hfs
    (refine gw ?_; refine idx_map (hio) ?_)
    rcases hov : on[i] with _ | _
    · rw [hov] at hfs
      have hz : (freshL on f b i).map (fun n => i64 (n : Nat)) ++ [i64 (i : Nat)] = (freshL on f b (i + 1)).map fun n => i64 (n : Nat) := by rw [hfs]; simp
      (refine gw ?_; refine Room.mk (by first | omega | (simp; omega) | (simp <;> fail)) ?_)
      (refine gw ?_; refine InB.mk (by omega) (by rw [tabF_len]; omega) ?_)
      (refine gw ?_; refine InB.mk (by omega) (by rw [tabF_len]; omega) ?_)
      (refine gw ?_; refine ⟨[], [0,4,2], rfl, ⟨i + 1, rfl, by rw [← hset on hiD, ← hset met hiD, ← hz]; rfl, by omega, by omega⟩, (by omega : b - ((i : Int) + 1).toNat < b - (i : Int).toNat)⟩)
    · rw [hov] at hfs
      have hz : freshL on f b (i + 1) = freshL on f b i := by rw [hfs]; simp
      (refine gw ?_; refine InB.mk (by omega) (by rw [tabF_len]; omega) ?_)
      (refine gw ?_; refine InB.mk (by omega) (by rw [tabF_len]; omega) ?_)
      (refine gw ?_; refine ⟨[], [0,1,2], rfl, ⟨i + 1, rfl, by rw [← hset on hiD, ← hset met hiD, hz]; rfl, by omega, by omega⟩, (by omega : b - ((i : Int) + 1).toNat < b - (i : Int).toNat)⟩)
  · have e : i = b := by omega
    subst e
    have f1 : ∀ l : List Bool, (tabF D fun j => AV.bool (upF l f i j)) = ((List.range D).map (needF l f i)).map AV.bool := fun l => by
      rw [← tabF_of]
      refine tabF_congr fun j hj => ?_
      unfold upF needF isIn
      congr 2
      rw [Bool.decide_and]
    rw [f1, f1]
    rw [freshL_end on hfi hb] at e3
    have c3 := pinCount_told ((List.range D).map (needF met f i)) (by simp; omega)
    have c4 := pinCount_told ((List.range D).map (needF on f i)) (by simp; omega)
    (refine gw ?_; refine Choice.mk ⟨false, Choice.mk ⟨true, _, _, c3, ?_⟩⟩)
    (refine gw ?_; first | refine IfB.dec (fun g2 => ?_) (fun g2 => ?_) | refine IfB.eq (fun g2 => ?_) (fun g2 => ?_) | refine IfB.ne (fun g2 => ?_) (fun g2 => ?_) | refine IfB.mk (fun g2 => ?_) (fun g2 => ?_))
    · rw [e3, if_pos (by omega)]
      (refine gw ?_; exact RetN.fz ⟨[true, true, true], [], rfl, rfl, rfl⟩)
    · rw [if_neg (by omega)] at e3
      (refine gw ?_; refine Choice.mk ⟨false, Choice.mk ⟨true, _, _, c4, ?_⟩⟩)
      (refine gw ?_; first | refine IfB.dec (fun g3 => ?_) (fun g3 => ?_) | refine IfB.eq (fun g3 => ?_) (fun g3 => ?_) | refine IfB.ne (fun g3 => ?_) (fun g3 => ?_) | refine IfB.mk (fun g3 => ?_) (fun g3 => ?_))
      · rw [if_pos (by omega)] at e3
        have hlA : ((List.range D).map (needF on f i)).length = D := by simp
        have hlN : ((List.range D).map (needF met f i)).length = D := by simp
        have c5 := trim_told (on := (List.range D).map (needF on f i)) (met := (List.range D).map (needF met f i)) (by rw [hlA, hlN]) (by omega)
        have et : (trimF ((List.range D).map (needF on f i)) ((List.range D).map (needF met f i))).1 = (List.range D).map fun j => needF on f i j && needF met f i j := by
          unfold trimF
          rw [hlA]
          refine List.map_congr_left fun j hj => ?_
          have hj : j < D := by simpa using hj
          simp [List.getD_eq_getElem?_getD, hj]
        rw [et] at c5
        (refine gw ?_; refine Choice.mk ⟨false, Choice.mk ⟨false, _, _, c5, ?_⟩⟩)
        rw [e3]
        (refine gw ?_; exact RetN.fz ⟨[true, true, true], [], rfl, rfl, rfl⟩)
      · rw [if_neg (by omega)] at e3
        rw [e3]
        (refine gw ?_; exact RetN.fz ⟨[true, true, true], [], rfl, rfl, rfl⟩)
end Go.Ev.W
namespace Go.Ev.W
open Go.Ev Go.Ev.N

set_option maxHeartbeats 8000000 in
theorem pinMetR_told {pg size : Nat} (hp : 1 ≤ pg) (hs : size ≤ 65536) (hps : pg ≤ size) {l : List Bk} (hl : l.length ≤ 1000000) (hb : ∀ x ∈ l, 0 ≤ x.a ∧ 1 ≤ x.c ∧ x.a + x.c ≤ size) : Told P T pin_Met [] [i64 pg, i64 size, lK l] (.ref 0) [.row t_bool ((metF pg size l).map .bool)] := by
  have hml : (l.map eB).length = l.length := by simp
  have e1 : ((size : Nat) : Int).tdiv (pg : Nat) = ((size / pg : Nat) : Int) := by rw [Int.tdiv_eq_ediv_of_nonneg (by omega)]; omega
  have d1 := Nat.div_le_self size pg
  have d2 : 1 ≤ size / pg := (Nat.le_div_iff_mul_le (by omega)).2 (by omega)
  obtain ⟨D, hD⟩ : ∃ D, size / pg = D := ⟨_, rfl⟩
  have hmet : metF pg size l = (List.range D).map fun i => anyK l pg i l.length := by
    unfold metF; rw [hD]
    refine List.map_congr_left fun i _ => ?_
    unfold anyK; rw [List.take_length]
  rw [hD] at e1 d1 d2
  have hlen : ∀ f : Nat → AV, (tabF D f).length = D := tabF_len D
  rw [hmet]
  refine told_of_ev (fn := pin_Met_fn) tabOk mixed (by kernel_rfl) (by kernel_rfl) (by kernel_rfl) (by kernel_rfl) ?_
  (refine gw ?_; refine IfB.ff (by simp; omega) ?_)
  (refine gw ?_; refine IfB.ff (by simp; omega) ?_)
  (refine gw ?_)
  rw [e1]
  (refine gw ?_; refine IfB.ff (by simp; omega) ?_)
  (refine gw ?_)
  rw [e1]
  (refine gw ?_; refine Room.mk (by first | omega | (simp; omega) | (simp <;> fail)) ?_)
  (refine gw ?_; refine LoopN.mk ⟨[0,1,7,33,34,35], fun vs L => ∃ k : Nat, vs = [i64 pg, i64 size, .ref 0, lK l, i64 (l.map eB).length, i64 k] ∧ L = [.row t_bool (tabF D fun j => .bool (anyK l pg j k))] ∧ k ≤ l.length, fun vs L => match vs with | [_, _, _, _, _, .int _ i] => l.length - i.toNat | _ => 0, [], [1], rfl, ⟨0, rfl, ?_, by omega⟩, ?_⟩)
  · show [Blk.row t_bool (List.replicate ((D : Nat) : Int).toNat (AV.bool false))] = _
    rw [Int.toNat_natCast, tabF_rep]; rfl
  rintro vs L ⟨k, rfl, rfl, hk⟩
  (refine gw ?_; first | refine IfB.dec (fun g1 => ?_) (fun g1 => ?_) | refine IfB.eq (fun g1 => ?_) (fun g1 => ?_) | refine IfB.ne (fun g1 => ?_) (fun g1 => ?_) | refine IfB.mk (fun g1 => ?_) (fun g1 => ?_))
  · have hkl : k < l.length := by omega
    have hx := hb _ (List.getElem_mem hkl)
    have hsu := fun i => anyK_succ (pg := pg) (i := i) hkl
    have emax : ∀ a b : Int, (if b > a then b else a) = max a b := fun a b => by split <;> omega
    (refine gw ?_; refine idx_map (hkl) ?_)
    generalize l[k] = x at *
    obtain ⟨a, ha⟩ : ∃ a : Nat, x.a = (a : Nat) := ⟨x.a.toNat, by omega⟩
    obtain ⟨c, hc⟩ : ∃ c : Nat, x.c = (c : Nat) := ⟨x.c.toNat, by omega⟩
    have hx1 := hx.2.1
    have hx2 := hx.2.2
    rw [hc] at hx1
    rw [ha, hc] at hx2
    have em : (if (0 : Int) > x.a then 0 else x.a) = ((a : Nat) : Int) := by rw [if_neg (by omega), ha]
    have f1 : ((a : Nat) : Int).tdiv (pg : Nat) = ((a / pg : Nat) : Int) := (Int.ofNat_tdiv a pg).symm
    have f2 : (((a + c - 1 : Nat)) : Int).tdiv (pg : Nat) = (((a + c - 1) / pg : Nat) : Int) := (Int.ofNat_tdiv _ pg).symm
    have f0 : ((a + c : Nat) : Int) - 1 = ((a + c - 1 : Nat) : Int) := by omega
    have q1 := Nat.div_le_self a pg
    have q2 := Nat.div_le_self (a + c - 1) pg
    have q3 : a / pg ≤ (a + c - 1) / pg := Nat.div_le_div_right (by omega)
    have hov : ∀ i, ovr (i * pg : Nat) pg a c = (decide (a / pg ≤ i) && decide (i ≤ (a + c - 1) / pg)) := fun i => by
      unfold ovr
      rw [← Bool.decide_and]
      refine decide_eq_decide.2 ?_
      rw [Nat.le_div_iff_mul_le (by omega), ← Nat.lt_succ_iff (m := a / pg), Nat.div_lt_iff_lt_mul (by omega), Nat.succ_mul]
      omega
    have hs' : ∀ i, anyK l pg i (k + 1) = (anyK l pg i k || (decide (a / pg ≤ i) && decide (i ≤ (a + c - 1) / pg))) := fun i => by rw [hsu, ha, hc, hov]
    clear hsu hov
    generalize a / pg = A at *
    generalize (a + c - 1) / pg = C at *
    by_cases hlt : x.c < (size : Int) - x.a
    · have eu : (if (size : Int) < x.a + x.c then (size : Int) else x.a + x.c) = ((a + c : Nat) : Int) := by rw [if_neg (by omega)]; omega
      (refine gw ?_; refine IfB.tt (by simp; omega) ?_)
      (refine gw ?_)
      rw [em]
      (refine gw ?_; refine IfB.ff (by simp; omega) ?_)
      (refine gw ?_)
      rw [eu]
      (refine gw ?_; refine IfB.ff (by simp; omega) ?_)
      (refine gw ?_)
      rw [f1]
      (refine gw ?_; refine LoopN.mk ⟨[0,1,7,11,12,33,34,35], fun vs L => ∃ p : Nat, vs = [i64 pg, i64 size, .ref 0, i64 (a + c : Nat), i64 p, lK l, i64 (l.map eB).length, i64 k] ∧ L = [.row t_bool (tabF D fun j => .bool (or (anyK l pg j k) (decide (A ≤ j) && decide (j < p))))] ∧ A ≤ p ∧ p ≤ C + 1, fun vs L => match vs with | [_, _, _, _, .int _ i, _, _, _] => C + 1 - i.toNat | _ => 0, [], [0], rfl, ⟨A, by rw [← eu]; rfl, ?_, by omega, by omega⟩, ?_⟩)
      · refine congrArg (fun z => [Blk.row t_bool z]) (tabF_congr fun j _ => ?_)
        have : (decide (A ≤ j) && decide (j < A)) = false := by rw [Bool.and_eq_false_iff]; by_cases h : A ≤ j <;> simp [h]
        rw [this, Bool.or_false]
      rintro vs L ⟨p, rfl, rfl, hp1, hp2⟩
      have hlp := hlen fun j => .bool (or (anyK l pg j k) (decide (A ≤ j) && decide (j < p)))
      have hend : ¬ (p ≤ C ∧ p < D) → (tabF D fun j => AV.bool (or (anyK l pg j k) (decide (A ≤ j) && decide (j < p)))) = tabF D fun j => AV.bool (anyK l pg j (k + 1)) := fun hn => by
        refine tabF_congr fun j hj => ?_
        rw [hs']
        have : decide (j < p) = decide (j ≤ C) := decide_eq_decide.2 (by omega)
        rw [this]
      (refine gw ?_)
      rw [f0]
      (refine gw ?_)
      rw [f2]
      by_cases hpC : p ≤ C
      · (refine gw ?_; refine IfB.tt (by simp; omega) ?_)
        (refine gw ?_)
        rw [hlp]
        by_cases hpD : p < D
        · have hset : (tabF D fun j => AV.bool (or (anyK l pg j k) (decide (A ≤ j) && decide (j < p)))).set ((p : Nat) : Int).toNat (.bool true) = tabF D fun j => AV.bool (or (anyK l pg j k) (decide (A ≤ j) && decide (j < p + 1))) := by
            rw [Int.toNat_natCast]
            refine tabF_set hpD fun j hj => ?_
            by_cases e : j = p
            · subst e; rw [if_pos rfl, decide_eq_true hp1, decide_eq_true (show j < j + 1 by omega)]; simp
            · rw [if_neg e]
              have : decide (j < p + 1) = decide (j < p) := decide_eq_decide.2 (by omega)
              rw [this]
          (refine gw ?_; refine IfB.tt (by simp; omega) ?_)
          (refine gw ?_; refine ⟨[], [0], rfl, ⟨p + 1, rfl, by rw [← hset]; rfl, by omega, by omega⟩, (by omega : C + 1 - ((p : Int) + 1).toNat < C + 1 - (p : Int).toNat)⟩)
        · (refine gw ?_; refine IfB.ff (by simp; omega) ?_)
          (refine gw ?_; refine ⟨[], [0], rfl, ⟨k + 1, rfl, by rw [← hend (by omega)]; rfl, hkl⟩, (by omega : l.length - ((k : Int) + 1).toNat < l.length - (k : Int).toNat)⟩)
      · (refine gw ?_; refine IfB.ff (by simp; omega) ?_)
        (refine gw ?_; refine ⟨[], [0], rfl, ⟨k + 1, rfl, by rw [← hend (by omega)]; rfl, hkl⟩, (by omega : l.length - ((k : Int) + 1).toNat < l.length - (k : Int).toNat)⟩)
    · have eu : (size : Int) = ((a + c : Nat) : Int) := by omega
      (refine gw ?_; refine IfB.ff (by simp; omega) ?_)
      (refine gw ?_; refine IfB.ff (by simp; omega) ?_)
      (refine gw ?_)
      rw [em]
      (refine gw ?_; refine IfB.ff (by simp; omega) ?_)
      (refine gw ?_; refine IfB.ff (by simp; omega) ?_)
      (refine gw ?_)
      rw [f1]
      (refine gw ?_; refine LoopN.mk ⟨[0,1,7,11,12,33,34,35], fun vs L => ∃ p : Nat, vs = [i64 pg, i64 size, .ref 0, i64 (a + c : Nat), i64 p, lK l, i64 (l.map eB).length, i64 k] ∧ L = [.row t_bool (tabF D fun j => .bool (or (anyK l pg j k) (decide (A ≤ j) && decide (j < p))))] ∧ A ≤ p ∧ p ≤ C + 1, fun vs L => match vs with | [_, _, _, _, .int _ i, _, _, _] => C + 1 - i.toNat | _ => 0, [], [0], rfl, ⟨A, by rw [← eu]; rfl, ?_, by omega, by omega⟩, ?_⟩)
      · refine congrArg (fun z => [Blk.row t_bool z]) (tabF_congr fun j _ => ?_)
        have : (decide (A ≤ j) && decide (j < A)) = false := by rw [Bool.and_eq_false_iff]; by_cases h : A ≤ j <;> simp [h]
        rw [this, Bool.or_false]
      rintro vs L ⟨p, rfl, rfl, hp1, hp2⟩
      have hlp := hlen fun j => .bool (or (anyK l pg j k) (decide (A ≤ j) && decide (j < p)))
      have hend : ¬ (p ≤ C ∧ p < D) → (tabF D fun j => AV.bool (or (anyK l pg j k) (decide (A ≤ j) && decide (j < p)))) = tabF D fun j => AV.bool (anyK l pg j (k + 1)) := fun hn => by
        refine tabF_congr fun j hj => ?_
        rw [hs']
        have : decide (j < p) = decide (j ≤ C) := decide_eq_decide.2 (by omega)
        rw [this]
      (refine gw ?_)
      rw [f0]
      (refine gw ?_)
      rw [f2]
      by_cases hpC : p ≤ C
      · (refine gw ?_; refine IfB.tt (by simp; omega) ?_)
        (refine gw ?_)
        rw [hlp]
        by_cases hpD : p < D
        · have hset : (tabF D fun j => AV.bool (or (anyK l pg j k) (decide (A ≤ j) && decide (j < p)))).set ((p : Nat) : Int).toNat (.bool true) = tabF D fun j => AV.bool (or (anyK l pg j k) (decide (A ≤ j) && decide (j < p + 1))) := by
            rw [Int.toNat_natCast]
            refine tabF_set hpD fun j hj => ?_
            by_cases e : j = p
            · subst e; rw [if_pos rfl, decide_eq_true hp1, decide_eq_true (show j < j + 1 by omega)]; simp
            · rw [if_neg e]
              have : decide (j < p + 1) = decide (j < p) := decide_eq_decide.2 (by omega)
              rw [this]
          (refine gw ?_; refine IfB.tt (by simp; omega) ?_)
          (refine gw ?_; refine ⟨[], [0], rfl, ⟨p + 1, rfl, by rw [← hset]; rfl, by omega, by omega⟩, (by omega : C + 1 - ((p : Int) + 1).toNat < C + 1 - (p : Int).toNat)⟩)
        · (refine gw ?_; refine IfB.ff (by simp; omega) ?_)
          (refine gw ?_; refine ⟨[], [0], rfl, ⟨k + 1, rfl, by rw [← hend (by omega)]; rfl, hkl⟩, (by omega : l.length - ((k : Int) + 1).toNat < l.length - (k : Int).toNat)⟩)
      · (refine gw ?_; refine IfB.ff (by simp; omega) ?_)
        (refine gw ?_; refine ⟨[], [0], rfl, ⟨k + 1, rfl, by rw [← hend (by omega)]; rfl, hkl⟩, (by omega : l.length - ((k : Int) + 1).toNat < l.length - (k : Int).toNat)⟩)
  · have e : k = l.length := by omega
    subst e
    have f0 : (tabF D fun j => AV.bool (anyK l pg j l.length)) = ((List.range D).map fun j => anyK l pg j l.length).map AV.bool := by rw [← tabF_of]
    rw [f0]
    (refine gw ?_; exact RetN.mk ⟨[0], rfl, rfl, rfl⟩)
theorem pinMet_told {pg size : Nat} (hp : 1 ≤ pg) (hs : size ≤ 65536) (hps : pg ≤ size) {l : List Bk} (hl : l.length ≤ 1000000) (hb : ∀ x ∈ l, 0 ≤ x.a ∧ 1 ≤ x.c ∧ x.a + x.c ≤ size) : Told P T pin_Met [] [i64 pg, i64 size, lK l] (lT (metF pg size l)) [] :=
  (pinMetR_told hp hs hps hl hb).fz
end Go.Ev.W
namespace Go.Ev.W
open Go.Ev Go.Ev.N

theorem bits_xor {x y : Nat} (hx : x < 9223372036854775808) (hy : y < 9223372036854775808) : bitsOp .xor .i64 (x : Int) (y : Int) = ((x ^^^ y : Nat) : Int) ∧ x ^^^ y < 9223372036854775808 := by
  have h0 : x ^^^ y < 2 ^ 63 := Nat.xor_lt_two_pow (n := 63) (by omega) (by omega)
  have e : (BitVec.ofInt 64 (x : Int) ^^^ BitVec.ofInt 64 (y : Int)).toNat = x ^^^ y := by
    rw [BitVec.toNat_xor, BitVec.ofInt_natCast, BitVec.ofInt_natCast, BitVec.toNat_ofNat, BitVec.toNat_ofNat, Nat.mod_eq_of_lt (by omega), Nat.mod_eq_of_lt (by omega)]
  refine ⟨?_, by omega⟩
  show IntKind.i64.wrap ((BitVec.ofInt 64 (x : Int) ^^^ BitVec.ofInt 64 (y : Int)).toNat : Int) = _
  rw [e]
  exact wrap64 (by omega) (by omega)
theorem bits_and {x y : Nat} (hx : x < 9223372036854775808) (hy : y < 9223372036854775808) : bitsOp .and .i64 (x : Int) (y : Int) = ((x &&& y : Nat) : Int) ∧ x &&& y < 9223372036854775808 := by
  have h0 : x &&& y < 2 ^ 63 := Nat.and_lt_two_pow (n := 63) x (by omega)
  have e : (BitVec.ofInt 64 (x : Int) &&& BitVec.ofInt 64 (y : Int)).toNat = x &&& y := by
    rw [BitVec.toNat_and, BitVec.ofInt_natCast, BitVec.ofInt_natCast, BitVec.toNat_ofNat, BitVec.toNat_ofNat, Nat.mod_eq_of_lt (by omega), Nat.mod_eq_of_lt (by omega)]
  refine ⟨?_, by omega⟩
  show IntKind.i64.wrap ((BitVec.ofInt 64 (x : Int) &&& BitVec.ofInt 64 (y : Int)).toNat : Int) = _
  rw [e]
  exact wrap64 (by omega) (by omega)
theorem calcAdd_told {a b : Int} (ha : 0 ≤ a) (hb : 0 ≤ b) (hab : a + b ≤ 9223372036854775807) : Told P T calc_Add [] [i64 a, i64 b] (.tup [i64 (a + b), .bool true]) [] := by
  obtain ⟨x, rfl⟩ : ∃ x : Nat, a = (x : Int) := ⟨a.toNat, by omega⟩
  obtain ⟨y, rfl⟩ : ∃ y : Nat, b = (y : Int) := ⟨b.toNat, by omega⟩
  obtain ⟨h1, h1'⟩ := bits_xor (x := x) (y := x + y) (by omega) (by omega)
  obtain ⟨h2, h2'⟩ := bits_xor (x := y) (y := x + y) (by omega) (by omega)
  obtain ⟨h3, h3'⟩ := bits_and h1' h2'
  rw [← Int.natCast_add]
  have hn : (((x : Int) + (y : Int))) = ((x + y : Nat) : Int) := by omega
  refine told_of_ev (fn := calc_Add_fn) tabOk mixed (by kernel_rfl) (by kernel_rfl) (by kernel_rfl) (by kernel_rfl) ?_
  (refine gw ?_)
  rw [hn, h1, h2, h3]
  (refine gw ?_; exact RetN.mk ⟨[], rfl, rfl, rfl⟩)
theorem calcLog_told (v : Int) (h2 : v ≤ 9223372036854775807) : Told P T calc_Log [] [i64 v] (.tup [i64 ((logF v).1 : Nat), .bool (logF v).2]) [] := by
  have hsh : ∀ m : Nat, (((2 ^ (m + 1) : Nat)) : Int).fdiv (2 ^ min (Int.toNat 1) IntKind.i64.bits) = ((2 ^ m : Nat) : Int) := fun m => by
    have : (2 : Int) ^ min (Int.toNat 1) IntKind.i64.bits = 2 := by decide
    rw [this, Int.fdiv_eq_ediv_of_nonneg _ (by omega), Nat.pow_succ]; omega
  by_cases h1 : v < 1
  · have e : logF v = (0, false) := by unfold logF; rw [if_neg (by omega)]
    rw [e]
    refine told_of_ev (fn := calc_Log_fn) tabOk mixed (by kernel_rfl) (by kernel_rfl) (by kernel_rfl) (by kernel_rfl) ?_
    (refine gw ?_; refine IfB.tt (by simp; omega) ?_)
    (refine gw ?_; exact RetN.mk ⟨[], rfl, rfl, rfl⟩)
  · obtain ⟨n, rfl⟩ : ∃ n : Nat, v = (n : Int) := ⟨v.toNat, by omega⟩
    have hn : n ≠ 0 := by omega
    obtain ⟨b1, b2⟩ := bits_and (x := n) (y := n - 1) (by omega) (by omega)
    have hc : ((n : Int) - 1) = ((n - 1 : Nat) : Int) := by omega
    have hp := Nat.and_sub_one_eq_zero_iff_isPowerOfTwo hn
    by_cases h0 : n &&& (n - 1) = 0
    · obtain ⟨K, hK⟩ := hp.1 h0
      have e : logF (n : Int) = (K, true) := by rw [hK]; exact logF_pow K
      rw [e]
      have hK63 : K < 63 := by
        refine (Nat.pow_lt_pow_iff_right (a := 2) (by omega)).1 ?_
        rw [← hK]; omega
      refine told_of_ev (fn := calc_Log_fn) tabOk mixed (by kernel_rfl) (by kernel_rfl) (by kernel_rfl) (by kernel_rfl) ?_
      (refine gw ?_; refine IfB.ff (by simp; omega) ?_)
      (refine gw ?_)
      rw [hc, b1, h0]
      (refine gw ?_; refine LoopN.mk ⟨[0,2], fun vs L => ∃ j : Nat, vs = [i64 (2 ^ (K - j) : Nat), i64 j] ∧ L = [] ∧ j ≤ K, fun vs L => match vs with | [_, .int _ i] => 63 - i.toNat | _ => 0, [], [], rfl, ⟨0, by rw [Nat.sub_zero, ← hK]; rfl, rfl, by omega⟩, ?_⟩)
      rintro vs L ⟨j, rfl, rfl, hj⟩
      by_cases hjK : j < K
      · obtain ⟨m, hm⟩ : ∃ m, K - j = m + 1 := ⟨K - j - 1, by omega⟩
        rw [hm]
        have hpos : 2 ≤ 2 ^ (m + 1) := by have := Nat.one_le_two_pow (n := m); rw [Nat.pow_succ]; omega
        have hs := hsh m
        generalize hq : 2 ^ (m + 1) = q at *
        (refine gw ?_; refine IfB.tt (by simp; omega) ?_)
        (refine gw ?_)
        rw [hs]
        (refine gw ?_; refine ⟨[], [], rfl, ⟨j + 1, by rw [show K - (j + 1) = m by omega]; rfl, rfl, by omega⟩, (by omega : 63 - ((j : Int) + 1).toNat < 63 - (j : Int).toNat)⟩)
      · have e : j = K := by omega
        subst e
        rw [Nat.sub_self]
        (refine gw ?_; exact RetN.mk ⟨[], rfl, rfl, rfl⟩)
    · have e : logF (n : Int) = (0, false) := by
        unfold logF
        rw [if_neg]
        rintro ⟨_, h4⟩
        refine h0 (hp.2 ⟨Nat.log2 n, ?_⟩)
        rw [Int.toNat_natCast] at h4
        omega
      rw [e]
      refine told_of_ev (fn := calc_Log_fn) tabOk mixed (by kernel_rfl) (by kernel_rfl) (by kernel_rfl) (by kernel_rfl) ?_
      (refine gw ?_; refine IfB.ff (by simp; omega) ?_)
      (refine gw ?_)
      rw [hc, b1]
      (refine gw ?_; refine IfB.tt (by simp; omega) ?_)
      (refine gw ?_; exact RetN.mk ⟨[], rfl, rfl, rfl⟩)
end Go.Ev.W
namespace Go.Ev.W
open Go.Ev Go.Ev.N

theorem classCharge_told {c : Cf} (hc : c.N ≤ 65536) (hg : c.G ≤ 65536) (hg1 : 1 ≤ c.G) (s a : Int) (ha : a ≤ 9223372036854775807) : Told P T class_Charge [] [eC c, i64 s, i64 a] (.tup [i64 ((chargeF c s a).1 : Nat), i64 ((chargeF c s a).2 : Nat)]) [] := by
  refine told_of_ev (fn := class_Charge_fn) tabOk mixed (by kernel_rfl) (by kernel_rfl) (by kernel_rfl) (by kernel_rfl) ?_
  (refine gw ?_; refine Choice.mk ⟨false, Choice.mk ⟨true, _, _, calcLog_told a ha, ?_⟩⟩)
  cases h1 : (logF a).2 with
  | false =>
    rw [show chargeF c s a = (0, 3) by unfold chargeF; rw [if_pos (.inl h1)]]
    (refine gw ?_; exact RetN.mk ⟨[], rfl, rfl, rfl⟩)
  | true =>
    have ha1 : 1 ≤ a := by
      unfold logF at h1; split at h1
      · rename_i h; exact h.1
      · cases h1
    (refine gw ?_; first | refine IfB.dec (fun h2 => ?_) (fun h2 => ?_) | refine IfB.eq (fun h2 => ?_) (fun h2 => ?_) | refine IfB.ne (fun h2 => ?_) (fun h2 => ?_) | refine IfB.mk (fun h2 => ?_) (fun h2 => ?_))
    · rw [show chargeF c s a = (0, 3) by unfold chargeF; rw [if_pos (.inr h2)]]
      (refine gw ?_; exact RetN.mk ⟨[], rfl, rfl, rfl⟩)
    · (refine gw ?_; first | refine IfB.dec (fun h3 => ?_) (fun h3 => ?_) | refine IfB.eq (fun h3 => ?_) (fun h3 => ?_) | refine IfB.ne (fun h3 => ?_) (fun h3 => ?_) | refine IfB.mk (fun h3 => ?_) (fun h3 => ?_))
      · rw [show chargeF c s a = (0, 4) by unfold chargeF; rw [if_neg (by rw [h1]; simp; omega), if_pos (.inl h3)]]
        (refine gw ?_; exact RetN.mk ⟨[], rfl, rfl, rfl⟩)
      · (refine gw ?_; first | refine IfB.dec (fun h4 => ?_) (fun h4 => ?_) | refine IfB.eq (fun h4 => ?_) (fun h4 => ?_) | refine IfB.ne (fun h4 => ?_) (fun h4 => ?_) | refine IfB.mk (fun h4 => ?_) (fun h4 => ?_))
        · rw [show chargeF c s a = (0, 4) by unfold chargeF; rw [if_neg (by rw [h1]; simp; omega), if_pos (.inr h4)]]
          (refine gw ?_; exact RetN.mk ⟨[], rfl, rfl, rfl⟩)
        · have cu := up_told (max (max s.toNat a.toNat) c.G) (by omega) (by omega)
          have e1 : (if a > s then a else s) = ((max s.toNat a.toNat : Nat) : Int) := by split <;> omega
          have e2 : (if ((c.G : Nat) : Int) > ((max s.toNat a.toNat : Nat) : Int) then ((c.G : Nat) : Int) else ((max s.toNat a.toNat : Nat) : Int)) = ((max (max s.toNat a.toNat) c.G : Nat) : Int) := by split <;> omega
          rw [← e2, ← e1] at cu
          rw [show chargeF c s a = (upN (max (max s.toNat a.toNat) c.G), 0) by unfold chargeF; rw [if_neg (by rw [h1]; simp; omega), if_neg (by omega)]]
          (refine gw ?_; refine Choice.mk ⟨false, Choice.mk ⟨true, _, _, cu, ?_⟩⟩)
          (refine gw ?_; exact RetN.mk ⟨[], rfl, rfl, rfl⟩)
theorem admitNew_told {c : Cf} (hc : c.Ok) (live s a : Int) (hl : 0 ≤ live ∧ live ≤ 1000000) (ha : a ≤ 9223372036854775807) : Told P T admit_New [] [eC c, i64 live, i64 s, i64 a] (.tup [i64 ((newF c live s a).1 : Nat), i64 ((newF c live s a).2 : Nat)]) [] := by
  have h1 := hc.nM
  have h2 := hc.mH
  have h3 := hc.gpos
  have h4 : c.G ≤ c.N := by rw [hc.n]; exact Nat.le_mul_of_pos_right _ (Nat.two_pow_pos _)
  have hb := (chargeF_bd hc s a).1
  have c2 := calcAdd_told (a := live) (b := ((chargeF c s a).1 : Nat)) (by omega) (by omega) (by omega)
  refine told_of_ev (fn := admit_New_fn) tabOk mixed (by kernel_rfl) (by kernel_rfl) (by kernel_rfl) (by kernel_rfl) ?_
  (refine gw ?_; refine Choice.mk ⟨false, Choice.mk ⟨true, _, _, classCharge_told (by omega) (by omega) h3 s a ha, ?_⟩⟩)
  (refine gw ?_; first | refine IfB.dec (fun g1 => ?_) (fun g1 => ?_) | refine IfB.eq (fun g1 => ?_) (fun g1 => ?_) | refine IfB.ne (fun g1 => ?_) (fun g1 => ?_) | refine IfB.mk (fun g1 => ?_) (fun g1 => ?_))
  · rw [show newF c live s a = (0, (chargeF c s a).2) by unfold newF; rw [if_pos (by omega)]]
    (refine gw ?_; exact RetN.mk ⟨[], rfl, rfl, rfl⟩)
  · (refine gw ?_; refine Choice.mk ⟨false, Choice.mk ⟨true, _, _, c2, ?_⟩⟩)
    (refine gw ?_; first | refine IfB.dec (fun g2 => ?_) (fun g2 => ?_) | refine IfB.eq (fun g2 => ?_) (fun g2 => ?_) | refine IfB.ne (fun g2 => ?_) (fun g2 => ?_) | refine IfB.mk (fun g2 => ?_) (fun g2 => ?_))
    · rw [show newF c live s a = (0, 5) by unfold newF; rw [if_neg (by omega), if_pos (by omega)]]
      (refine gw ?_; exact RetN.mk ⟨[], rfl, rfl, rfl⟩)
    · rw [show newF c live s a = ((chargeF c s a).1, 0) by unfold newF; rw [if_neg (by omega), if_neg (by omega)]]
      (refine gw ?_; exact RetN.mk ⟨[], rfl, rfl, rfl⟩)
theorem admitAnew_told {c : Cf} (hc : c.Ok) (live old s : Int) (hl : 0 ≤ old ∧ old ≤ live ∧ live ≤ 1000000) : Told P T admit_Anew [] [eC c, i64 live, i64 old, i64 s] (.tup [i64 ((newF c (live - old) s 1).1 : Nat), i64 ((newF c (live - old) s 1).2 : Nat)]) [] := by
  refine told_of_ev (fn := admit_Anew_fn) tabOk mixed (by kernel_rfl) (by kernel_rfl) (by kernel_rfl) (by kernel_rfl) ?_
  (refine gw ?_; refine Choice.mk ⟨false, Choice.mk ⟨true, _, _, admitNew_told hc (live - old) s 1 (by omega) (by omega), ?_⟩⟩)
  (refine gw ?_; exact RetN.mk ⟨[], rfl, rfl, rfl⟩)
end Go.Ev.W
namespace Go.Ev.W
open Go.Ev Go.Ev.N

theorem wrap_both (p : Int) : IntKind.i64.wrap (IntKind.u64.wrap p) = IntKind.i64.wrap p := by
  rw [IntKind.wrap_i64, IntKind.wrap_i64, IntKind.wrap_u64]; omega
theorem calcMul_told (n s : Int) (hn : 0 ≤ n ∧ n ≤ 9223372036854775807) (hs : 0 ≤ s ∧ s ≤ 9223372036854775807) : Told P T calc_Mul [] [i64 n, i64 s] (.tup [i64 (if n * s ≤ 9223372036854775807 then n * s else 0), .bool (decide (n * s ≤ 9223372036854775807))]) [] := by
  refine told_of_ev (fn := calc_Mul_fn) tabOk mixed (by kernel_rfl) (by kernel_rfl) (by kernel_rfl) (by kernel_rfl) ?_
  (refine gw ?_; first | refine IfB.dec (fun h1 => ?_) (fun h1 => ?_) | refine IfB.eq (fun h1 => ?_) (fun h1 => ?_) | refine IfB.ne (fun h1 => ?_) (fun h1 => ?_) | refine IfB.mk (fun h1 => ?_) (fun h1 => ?_))
  · rw [h1, Int.zero_mul]
    (refine gw ?_; exact RetN.mk ⟨[], rfl, rfl, rfl⟩)
  · (refine gw ?_; first | refine IfB.dec (fun h2 => ?_) (fun h2 => ?_) | refine IfB.eq (fun h2 => ?_) (fun h2 => ?_) | refine IfB.ne (fun h2 => ?_) (fun h2 => ?_) | refine IfB.mk (fun h2 => ?_) (fun h2 => ?_))
    · rw [h2, Int.mul_zero]
      (refine gw ?_; exact RetN.mk ⟨[], rfl, rfl, rfl⟩)
    · (refine gw ?_; refine IfB.ff (by simp; omega) ?_)
      (refine gw ?_; refine IfB.ff (by simp; omega) ?_)
      by_cases h : n * s ≤ 9223372036854775807
      · rw [if_pos h, decide_eq_true h]
        have hp : 0 ≤ n * s := Int.mul_nonneg hn.1 hs.1
        have e : (n * s).tdiv s = n := Int.mul_tdiv_cancel _ (by omega)
        (refine gw ?_; refine IfB.ff (by simpa using e) ?_)
        (refine gw ?_; exact RetN.mk ⟨[], rfl, rfl, rfl⟩)
      · rw [if_neg h, decide_eq_false h]
        have hne := mul_over hn.1 (s := s) (by omega) (by omega)
        obtain ⟨w, hw⟩ : ∃ w, IntKind.i64.wrap (n * s) = w := ⟨_, rfl⟩
        have hwr : -9223372036854775808 ≤ w ∧ w ≤ 9223372036854775807 := by
          rw [← hw, IntKind.wrap_i64]; omega
        rw [hw] at hne
        have ht := tdiv_rng hwr.1 hwr.2 (s := s) (by omega)
        (refine gw ?_)
        refine ⟨?_⟩
        (refine gw ?_)
        refine ⟨?_⟩
        rw [wrap_both, hw]
        (refine gw ?_; refine IfB.tt (by simpa using hne) ?_)
        (refine gw ?_; exact RetN.mk ⟨[], rfl, rfl, rfl⟩)
theorem classProd_told {c : Cf} (hc : c.N ≤ 65536) (n s : Int) (hn : -9223372036854775808 ≤ n ∧ n ≤ 9223372036854775807) (hs : -9223372036854775808 ≤ s ∧ s ≤ 9223372036854775807) : Told P T class_Product [] [eC c, i64 n, i64 s] (.tup [i64 ((prodF c n s).1 : Nat), i64 ((prodF c n s).2 : Nat)]) [] := by
  refine told_of_ev (fn := class_Product_fn) tabOk mixed (by kernel_rfl) (by kernel_rfl) (by kernel_rfl) (by kernel_rfl) ?_
  (refine gw ?_; first | refine IfB.dec (fun h1 => ?_) (fun h1 => ?_) | refine IfB.eq (fun h1 => ?_) (fun h1 => ?_) | refine IfB.ne (fun h1 => ?_) (fun h1 => ?_) | refine IfB.mk (fun h1 => ?_) (fun h1 => ?_))
  · rw [show prodF c n s = (0, 2) by unfold prodF; rw [if_pos (.inl h1)]]
    (refine gw ?_; exact RetN.mk ⟨[], rfl, rfl, rfl⟩)
  · (refine gw ?_; first | refine IfB.dec (fun h2 => ?_) (fun h2 => ?_) | refine IfB.eq (fun h2 => ?_) (fun h2 => ?_) | refine IfB.ne (fun h2 => ?_) (fun h2 => ?_) | refine IfB.mk (fun h2 => ?_) (fun h2 => ?_))
    · rw [show prodF c n s = (0, 2) by unfold prodF; rw [if_pos (.inr h2)]]
      (refine gw ?_; exact RetN.mk ⟨[], rfl, rfl, rfl⟩)
    · have hm := calcMul_told n s (by omega) (by omega)
      have hp : 0 ≤ n * s := Int.mul_nonneg (by omega) (by omega)
      by_cases h : n * s ≤ 9223372036854775807
      · rw [if_pos h, decide_eq_true h] at hm
        (refine gw ?_; refine Choice.mk ⟨false, Choice.mk ⟨true, _, _, hm, ?_⟩⟩)
        (refine gw ?_; first | refine IfB.dec (fun h3 => ?_) (fun h3 => ?_) | refine IfB.eq (fun h3 => ?_) (fun h3 => ?_) | refine IfB.ne (fun h3 => ?_) (fun h3 => ?_) | refine IfB.mk (fun h3 => ?_) (fun h3 => ?_))
        · rw [show prodF c n s = (0, 4) by unfold prodF; rw [if_neg (by omega), if_neg (by omega)]]
          (refine gw ?_; exact RetN.mk ⟨[], rfl, rfl, rfl⟩)
        · rw [show prodF c n s = ((n * s).toNat, 0) by unfold prodF; rw [if_neg (by omega), if_pos (by omega)]]
          have e : (((n * s).toNat : Nat) : Int) = n * s := by omega
          rw [e]
          (refine gw ?_; exact RetN.mk ⟨[], rfl, rfl, rfl⟩)
      · rw [if_neg h, decide_eq_false h] at hm
        rw [show prodF c n s = (0, 4) by unfold prodF; rw [if_neg (by omega), if_neg (by omega)]]
        (refine gw ?_; refine Choice.mk ⟨false, Choice.mk ⟨true, _, _, hm, ?_⟩⟩)
        (refine gw ?_; exact RetN.mk ⟨[], rfl, rfl, rfl⟩)
theorem admitMany_told {c : Cf} (hc : c.Ok) (live n s : Int) (hl : 0 ≤ live ∧ live ≤ 1000000) (hn : -9223372036854775808 ≤ n ∧ n ≤ 9223372036854775807) (hs : -9223372036854775808 ≤ s ∧ s ≤ 9223372036854775807) : Told P T admit_Many [] [eC c, i64 live, i64 n, i64 s] (.tup [i64 ((manyF c live n s).1 : Nat), i64 ((manyF c live n s).2 : Nat)]) [] := by
  have h1 := hc.nM
  have h2 := hc.mH
  have h3 := prodF_bd (c := c) n s
  refine told_of_ev (fn := admit_Many_fn) tabOk mixed (by kernel_rfl) (by kernel_rfl) (by kernel_rfl) (by kernel_rfl) ?_
  (refine gw ?_; refine Choice.mk ⟨false, Choice.mk ⟨true, _, _, classProd_told (c := c) (by omega) n s hn hs, ?_⟩⟩)
  (refine gw ?_; first | refine IfB.dec (fun g1 => ?_) (fun g1 => ?_) | refine IfB.eq (fun g1 => ?_) (fun g1 => ?_) | refine IfB.ne (fun g1 => ?_) (fun g1 => ?_) | refine IfB.mk (fun g1 => ?_) (fun g1 => ?_))
  · rw [show manyF c live n s = (0, (prodF c n s).2) by unfold manyF; rw [if_pos (by omega)]]
    (refine gw ?_; exact RetN.mk ⟨[], rfl, rfl, rfl⟩)
  · rw [show manyF c live n s = newF c live (prodF c n s).1 1 by unfold manyF; rw [if_neg (by omega)]]
    (refine gw ?_; refine Choice.mk ⟨false, Choice.mk ⟨true, _, _, admitNew_told hc live ((prodF c n s).1 : Nat) 1 hl (by omega), ?_⟩⟩)
    (refine gw ?_; exact RetN.mk ⟨[], rfl, rfl, rfl⟩)
end Go.Ev.W
namespace Go.Ev.W
open Go.Ev Go.Ev.N

theorem calcRound_told (v t : Nat) (hv : v ≤ 1000000) (h1 : 1 ≤ t) (h2 : t ≤ 1000000) : Told P T calc_Round [] [i64 v, i64 t] (.tup [i64 (rnd v t : Nat), .bool true]) [] := by
  have em : ((v : Nat) : Int).tmod (t : Nat) = ((v % t : Nat) : Int) := by rw [Int.tmod_eq_emod_of_nonneg (by omega)]; omega
  have hm := Nat.mod_lt v h1
  have hd := Nat.mod_le v t
  have e0 : v % t = 0 → rnd v t = v := fun h => by unfold rnd; rw [if_pos h]
  have e1 : v % t ≠ 0 → rnd v t = v - v % t + t := fun h => by unfold rnd; rw [if_neg h]
  generalize v % t = r at *
  refine told_of_ev (fn := calc_Round_fn) tabOk mixed (by kernel_rfl) (by kernel_rfl) (by kernel_rfl) (by kernel_rfl) ?_
  (refine gw ?_; refine IfB.ff (by simp; omega) ?_)
  (refine gw ?_)
  rw [em]
  by_cases h5 : r = 0
  · rw [e0 h5]
    (refine gw ?_; refine IfB.tt (by simp [h5]) ?_)
    (refine gw ?_; exact RetN.mk ⟨[], rfl, rfl, rfl⟩)
  · rw [e1 h5]
    (refine gw ?_; refine IfB.ff (by simp; omega) ?_)
    have c := calcAdd_told (a := (v : Int)) (b := (t : Int) - (r : Int)) (by omega) (by omega) (by omega)
    have e2 : ((v - r + t : Nat) : Int) = (v : Int) + ((t : Int) - (r : Int)) := by omega
    rw [e2]
    (refine gw ?_; refine Choice.mk ⟨false, Choice.mk ⟨true, _, _, c, ?_⟩⟩)
    (refine gw ?_; exact RetN.mk ⟨[], rfl, rfl, rfl⟩)
theorem confWithin_told (l : List Int) (hl : l.length ≤ 1000) : Told P T conf_within [] [.lst t_int (l.map i64)] (.bool (l.all inR)) [] := by
  have hml : (l.map i64).length = l.length := by simp
  refine told_of_ev (fn := conf_within_fn) tabOk mixed (by kernel_rfl) (by kernel_rfl) (by kernel_rfl) (by kernel_rfl) ?_
  (refine gw ?_; refine LoopN.mk ⟨[5,6,7], fun vs L => ∃ i : Nat, vs = [.lst t_int (l.map i64), i64 (l.map i64).length, i64 i] ∧ L = [] ∧ i ≤ l.length ∧ (l.take i).all inR = true, fun vs L => match vs with | [_, _, .int _ i] => l.length - i.toNat | _ => 0, [], [], rfl, ⟨0, rfl, rfl, by omega, rfl⟩, ?_⟩)
  rintro vs L ⟨i, rfl, rfl, hi, hin⟩
  (refine gw ?_; first | refine IfB.dec (fun h1 => ?_) (fun h1 => ?_) | refine IfB.eq (fun h1 => ?_) (fun h1 => ?_) | refine IfB.ne (fun h1 => ?_) (fun h1 => ?_) | refine IfB.mk (fun h1 => ?_) (fun h1 => ?_))
  · have hlt : i < l.length := by omega
    have hbad : inR l[i] = false → l.all inR = false := fun h => by
      rw [List.all_eq_false]
      exact ⟨l[i], List.getElem_mem hlt, by rw [h]; simp⟩
    have hnext : inR l[i] = true → (l.take (i + 1)).all inR = true := fun h => by
      rw [List.take_succ_eq_append_getElem hlt, List.all_append, hin]; simp [h]
    (refine gw ?_; refine idx_map (hlt) ?_)
    generalize l[i] = x at *
    (refine gw ?_; first | refine IfB.dec (fun h2 => ?_) (fun h2 => ?_) | refine IfB.eq (fun h2 => ?_) (fun h2 => ?_) | refine IfB.ne (fun h2 => ?_) (fun h2 => ?_) | refine IfB.mk (fun h2 => ?_) (fun h2 => ?_))
    · rw [hbad (by simp [inR]; omega)]
      (refine gw ?_; exact RetN.mk ⟨[], rfl, rfl, rfl⟩)
    · (refine gw ?_; first | refine IfB.dec (fun h3 => ?_) (fun h3 => ?_) | refine IfB.eq (fun h3 => ?_) (fun h3 => ?_) | refine IfB.ne (fun h3 => ?_) (fun h3 => ?_) | refine IfB.mk (fun h3 => ?_) (fun h3 => ?_))
      · rw [hbad (by simp [inR]; omega)]
        (refine gw ?_; exact RetN.mk ⟨[], rfl, rfl, rfl⟩)
      · (refine gw ?_; refine ⟨[], [], rfl, ⟨i + 1, rfl, rfl, hlt, hnext (by simp [inR]; omega)⟩, (by omega : l.length - ((i : Int) + 1).toNat < l.length - (i : Int).toNat)⟩)
  · have e : i = l.length := by omega
    subst e
    rw [List.take_length] at hin
    rw [hin]
    (refine gw ?_; exact RetN.mk ⟨[], rfl, rfl, rfl⟩)
end Go.Ev.W
namespace Go.Ev.W
open Go.Ev Go.Ev.N

set_option maxHeartbeats 8000000 in
theorem confOf_told (r : Rw) : Told P T conf_Of [] [eR r] (.tup [eC (ofF r).1, i64 ((ofF r).2 : Nat)]) [] := by
  have bad : r.ok = false → ofF r = (cf0, 1) := fun h => by unfold ofF; rw [if_neg (by rw [h]; simp)]
  have hsl : ∀ x : Int, x * 2 ^ min (Int.toNat 1) IntKind.i64.bits = x * 2 := fun x => by
    have : (2 : Int) ^ min (Int.toNat 1) IntKind.i64.bits = 2 := by decide
    rw [this]
  have hsr : ∀ x : Nat, ((x : Nat) : Int).fdiv (2 ^ min (Int.toNat 1) IntKind.i64.bits) = ((x / 2 : Nat) : Int) := fun x => by
    have : (2 : Int) ^ min (Int.toNat 1) IntKind.i64.bits = 2 := by decide
    rw [this, Int.fdiv_eq_ediv_of_nonneg _ (by omega)]; omega
  obtain ⟨g, l, m, p, b, s⟩ := r
  have c0 := confWithin_told [g, l, m, p] (by simp)
  have hr0 : (Rw.ok ⟨g, l, m, p, b, s⟩) = (([g, l, m, p] : List Int).all inR && decide (0 ≤ b ∧ b ≤ 65536) && decide (0 ≤ s ∧ s ≤ 255)) := by
    simp only [Rw.ok, List.all_cons, List.all_nil, Bool.and_true, Bool.and_assoc]
  refine told_of_ev (fn := conf_Of_fn) tabOk mixed (by kernel_rfl) (by kernel_rfl) (by kernel_rfl) (by kernel_rfl) ?_
  (refine gw ?_; refine Choice.mk ⟨false, Choice.mk ⟨true, _, _, c0, ?_⟩⟩)
  by_cases hin : ([g, l, m, p] : List Int).all inR = true
  · rw [hin] at hr0 ⊢
    simp only [List.all_cons, List.all_nil, Bool.and_true, Bool.and_eq_true, inR, decide_eq_true_eq] at hin
    obtain ⟨i1, i2, i3, i4⟩ := hin
    have hr : (Rw.ok ⟨g, l, m, p, b, s⟩) = (decide (0 ≤ b ∧ b ≤ 65536) && decide (0 ≤ s ∧ s ≤ 255)) := by rw [hr0, Bool.true_and]
    by_cases hbs : (0 ≤ b ∧ b ≤ 65536) ∧ 0 ≤ s ∧ s ≤ 255
    · (refine gw ?_; refine IfB.ff (by simp; omega) ?_)
      (refine gw ?_; refine IfB.ff (by simp; omega) ?_)
      (refine gw ?_; refine IfB.ff (by simp; omega) ?_)
      (refine gw ?_; refine IfB.ff (by simp; omega) ?_)
      have hok : Rw.ok ⟨g, l, m, p, b, s⟩ = true := by rw [hr]; simp; omega
      obtain ⟨G, hG⟩ : ∃ G, upN g.toNat = G := ⟨_, rfl⟩
      obtain ⟨N, hN⟩ : ∃ N, upN (max l.toNat G) = N := ⟨_, rfl⟩
      obtain ⟨Pg, hPg⟩ : ∃ Pg, upN (max p.toNat G) = Pg := ⟨_, rfl⟩
      obtain ⟨M, hM⟩ : ∃ M, rnd m.toNat (2 * max N Pg) = M := ⟨_, rfl⟩
      obtain ⟨K, hK⟩ : ∃ K, Nat.log2 (N / G) = K := ⟨_, rfl⟩
      have hcf : cfOf ⟨g, l, m, p, b, s⟩ = ⟨G, N, M, K, Pg, b.toNat, M + K * (M / 2), s.toNat⟩ := by
        unfold cfOf; simp only [hG, hN, hPg, hM, hK]
      have bG := upN_lt (v := g.toNat) (by omega)
      have bG0 := upN_pos g.toNat
      rw [hG] at bG bG0
      have bN := upN_lt (v := max l.toNat G) (by omega)
      rw [hN] at bN
      have bN0 := le_upN (max l.toNat G)
      rw [hN] at bN0
      have bP := upN_lt (v := max p.toNat G) (by omega)
      rw [hPg] at bP
      have c1 := up_told g.toNat (by omega) (by omega)
      rw [hG, show ((g.toNat : Nat) : Int) = g by omega] at c1
      have c2 := up_told (max l.toNat G) (by omega) (by omega)
      rw [hN, show ((max l.toNat G : Nat) : Int) = (if ((G : Nat) : Int) > l then ((G : Nat) : Int) else l) by split <;> omega] at c2
      have c3 := up_told (max p.toNat G) (by omega) (by omega)
      rw [hPg, show ((max p.toNat G : Nat) : Int) = (if ((G : Nat) : Int) > p then ((G : Nat) : Int) else p) by split <;> omega] at c3
      have c4 := calcRound_told m.toNat (2 * max N Pg) (by omega) (by omega) (by omega)
      rw [hM, show ((2 * max N Pg : Nat) : Int) = (if ((Pg : Nat) : Int) > ((N : Nat) : Int) then ((Pg : Nat) : Int) else ((N : Nat) : Int)) * 2 by split <;> omega, show ((m.toNat : Nat) : Int) = m by omega] at c4
      obtain ⟨q, q1, q2, q3⟩ := rnd_spec (v := m.toNat) (t := 2 * max N Pg) (by omega)
      rw [hM] at q1 q2 q3
      obtain ⟨k0, hk0⟩ := pow_up (v := l.toNat) (hG ▸ upN_pow g.toNat)
      rw [hN] at hk0
      have hK0 : K = k0 := by rw [← hK]; exact log_of bG0 hk0
      have c5 := calcLog_told ((N / G : Nat) : Int) (by have := Nat.div_le_self N G; omega)
      have e5 : N / G = 2 ^ K := by rw [hk0, hK0, Nat.mul_div_cancel_left _ (by omega)]
      rw [e5, logF_pow, ← e5, show ((N / G : Nat) : Int) = ((N : Nat) : Int).tdiv ((G : Nat) : Int) by rw [Int.tdiv_eq_ediv_of_nonneg (by omega)]; omega] at c5
      have bK : K < 20 := by
        have h6 : 2 ^ K ≤ 2 ^ 18 := by rw [← e5]; have := Nat.div_le_self N G; omega
        have := (Nat.pow_le_pow_iff_right (a := 2) (by omega)).1 h6
        omega
      have bKM : K * (M / 2) ≤ 20 * (M / 2) := Nat.mul_le_mul_right _ (by omega)
      have hM2 : ((M : Nat) : Int).tdiv 2 = ((M / 2 : Nat) : Int) := by rw [Int.tdiv_eq_ediv_of_nonneg (by omega)]; omega
      have hKM : ((K : Nat) : Int) * ((M / 2 : Nat) : Int) = ((K * (M / 2) : Nat) : Int) := by rw [Int.natCast_mul]
      (refine gw ?_; refine Choice.mk ⟨false, Choice.mk ⟨false, _, _, c1, ?_⟩⟩)
      (refine gw ?_; refine Choice.mk ⟨false, Choice.mk ⟨false, _, _, c2, ?_⟩⟩)
      (refine gw ?_; refine Choice.mk ⟨false, Choice.mk ⟨false, _, _, c3, ?_⟩⟩)
      (refine gw ?_)
      rw [hsl]
      (refine gw ?_; refine Choice.mk ⟨false, Choice.mk ⟨false, _, _, c4, ?_⟩⟩)
      have hdiv : ((N : Nat) : Int).tdiv ((G : Nat) : Int) = ((N / G : Nat) : Int) := by rw [Int.tdiv_eq_ediv_of_nonneg (by omega)]; omega
      have hdle := Nat.div_le_self N G
      have hd0 : (0 : Int) ≤ ((N / G : Nat) : Int) := Int.natCast_nonneg _
      (refine gw ?_)
      (refine gw ?_; refine Choice.mk ⟨false, Choice.mk ⟨true, _, _, c5, ?_⟩⟩)
      (refine gw ?_)
      rw [hsr]
      (refine gw ?_)
      rw [hKM]
      (refine gw ?_)
      have hH : (M : Int) + ((K * (M / 2) : Nat) : Int) = ((M + K * (M / 2) : Nat) : Int) := by omega
      rw [hH]
      (refine gw ?_; first | refine IfB.dec (fun h6 => ?_) (fun h6 => ?_) | refine IfB.eq (fun h6 => ?_) (fun h6 => ?_) | refine IfB.ne (fun h6 => ?_) (fun h6 => ?_) | refine IfB.mk (fun h6 => ?_) (fun h6 => ?_))
      · rw [show ofF ⟨g, l, m, p, b, s⟩ = (cf0, 1) by unfold ofF; rw [if_neg (by rw [hcf]; simp only; omega)]]
        (refine gw ?_; exact RetN.mk ⟨[], rfl, rfl, rfl⟩)
      · rw [show ofF ⟨g, l, m, p, b, s⟩ = (cfOf ⟨g, l, m, p, b, s⟩, 0) by unfold ofF; rw [if_pos ⟨hok, by rw [hcf]; simp only; omega⟩], hcf]
        (refine gw ?_; refine RetN.mk ⟨[], rfl, ?_, rfl⟩)
        rw [show b = ((b.toNat : Nat) : Int) by omega, show s = ((s.toNat : Nat) : Int) by omega]
        rfl

    · rw [bad (by rw [hr]; simp; omega)]
      by_cases h2 : b < 0
      · (refine gw ?_; refine IfB.tt (by simp; omega) ?_)
        (refine gw ?_; exact RetN.mk ⟨[], rfl, rfl, rfl⟩)
      (refine gw ?_; refine IfB.ff (by simp; omega) ?_)
      by_cases h3 : b > 65536
      · (refine gw ?_; refine IfB.tt (by simp; omega) ?_)
        (refine gw ?_; exact RetN.mk ⟨[], rfl, rfl, rfl⟩)
      (refine gw ?_; refine IfB.ff (by simp; omega) ?_)
      by_cases h4 : s < 0
      · (refine gw ?_; refine IfB.tt (by simp; omega) ?_)
        (refine gw ?_; exact RetN.mk ⟨[], rfl, rfl, rfl⟩)
      (refine gw ?_; refine IfB.ff (by simp; omega) ?_)
      (refine gw ?_; refine IfB.tt (by simp; omega) ?_)
      (refine gw ?_; exact RetN.mk ⟨[], rfl, rfl, rfl⟩)
  · have hin : ([g, l, m, p] : List Int).all inR = false := by simpa using hin
    rw [bad (by rw [hr0, hin]; simp)]
    rw [hin]
    (refine gw ?_; exact RetN.mk ⟨[], rfl, rfl, rfl⟩)
end Go.Ev.W
namespace Go.Ev.W
open Go.Ev Go.Ev.N

def rawF (p : Pk) (bg : Bool) : Rw × Pk :=
  let p1 := p.next 9
  let p2 := p1.next 12
  let p3 := p2.next 150
  let p4 := p3.next 30
  let p5 := p4.next 200
  (⟨1 + p.num 9, (1 + p.num 9) * (1 + p1.num 12), 1 + p2.num 150, 1 + p3.num 30, if bg = true then 5000 else 1 + p5.num 20, p4.num 200⟩, p5.next 20)
theorem rawF_ok {p : Pk} (h : p.Ok) (bg : Bool) : (rawF p bg).2.Ok := by
  have e : (rawF p bg).2 = ((((((p.next 9).next 12).next 150).next 30).next 200).next 20) := by simp only [rawF]
  rw [e]
  exact Pk.Ok.next (Pk.Ok.next (Pk.Ok.next (Pk.Ok.next (Pk.Ok.next (Pk.Ok.next h 9) 12) 150) 30) 200) 20
structure RwS (r : Rw) : Prop where
  g : 1 ≤ r.g ∧ r.g ≤ 9
  l : r.g ≤ r.l ∧ r.l ≤ 108
  m : 1 ≤ r.m ∧ r.m ≤ 150
  p : 1 ≤ r.p ∧ r.p ≤ 30
  b : 1 ≤ r.b ∧ r.b ≤ 5000
  s : 0 ≤ r.s ∧ r.s ≤ 199
theorem rawF_s (p : Pk) (bg : Bool) : RwS (rawF p bg).1 := by
  have a := p.num_lt (m := 9) (by omega)
  have b := (p.next 9).num_lt (m := 12) (by omega)
  have c := ((p.next 9).next 12).num_lt (m := 150) (by omega)
  have d := (((p.next 9).next 12).next 150).num_lt (m := 30) (by omega)
  have e := ((((p.next 9).next 12).next 150).next 30).num_lt (m := 200) (by omega)
  have f := (((((p.next 9).next 12).next 150).next 30).next 200).num_lt (m := 20) (by omega)
  have g1 : (1 + p.num 9) * 1 ≤ (1 + p.num 9) * (1 + (p.next 9).num 12) := Nat.mul_le_mul_left _ (by omega)
  have g2 : (1 + p.num 9) * (1 + (p.next 9).num 12) ≤ 9 * 12 := Nat.mul_le_mul (by omega) (by omega)
  have e1 : ((1 : Int) + (p.num 9 : Nat)) * (1 + ((p.next 9).num 12 : Nat)) = (((1 + p.num 9) * (1 + (p.next 9).num 12) : Nat) : Int) := by
    rw [Int.natCast_mul, Int.natCast_add, Int.natCast_add]; rfl
  unfold rawF
  refine ⟨⟨?_, ?_⟩, ⟨?_, ?_⟩, ⟨?_, ?_⟩, ⟨?_, ?_⟩, ?_, ⟨?_, ?_⟩⟩
  all_goals simp only
  all_goals try rw [e1]
  all_goals first | omega | (split <;> omega)
theorem upN_le' {v k : Nat} (h : v ≤ 2 ^ k) : upN v ≤ 2 ^ k := upN_le h
/-- There is always something of small ones. -/
theorem small_of {r : Rw} (h : RwS r) : (ofF r).2 = 0 ∧ (ofF r).1 = cfOf r ∧ (cfOf r).Ok ∧ (cfOf r).N ≤ 128 ∧ (cfOf r).M ≤ 405 ∧ (cfOf r).L ≤ 7 ∧ (cfOf r).G ≤ 16 ∧ (cfOf r).Pg ≤ 32 := by
  have g := upN_le (v := r.g.toNat) (k := 4) (by have := h.g; omega)
  have g0 := upN_pos r.g.toNat
  have n := upN_le (v := max r.l.toNat (upN r.g.toNat)) (k := 7) (by have := h.l; omega)
  have pg := upN_le (v := max r.p.toNat (upN r.g.toNat)) (k := 5) (by have := h.p; omega)
  have n1 := upN_pos (max r.l.toNat (upN r.g.toNat))
  obtain ⟨q, q1, q2, q3⟩ := rnd_spec (v := r.m.toNat) (t := 2 * max (upN (max r.l.toNat (upN r.g.toNat))) (upN (max r.p.toNat (upN r.g.toNat)))) (by omega)
  have hm := h.m
  obtain ⟨k, hk⟩ := pow_up (v := r.l.toNat) (upN_pow r.g.toNat)
  have hL := log_of g0 hk
  have k7 : k ≤ 7 := by
    have : 1 * 2 ^ k ≤ upN r.g.toNat * 2 ^ k := Nat.mul_le_mul_right _ g0
    have : 2 ^ k ≤ 2 ^ 7 := by omega
    exact (Nat.pow_le_pow_iff_right (a := 2) (by omega)).1 this
  have hM : (cfOf r).M ≤ 405 := by show rnd _ _ ≤ 405; omega
  have hLL : (cfOf r).L ≤ 7 := by show Nat.log2 _ ≤ 7; rw [hL]; exact k7
  have hH : (cfOf r).H ≤ 65536 := by
    show (cfOf r).M + (cfOf r).L * ((cfOf r).M / 2) ≤ 65536
    have : (cfOf r).L * ((cfOf r).M / 2) ≤ 7 * 405 := Nat.mul_le_mul hLL (by omega)
    omega
  have hok : r.ok = true := by
    simp only [Rw.ok, inR, Bool.and_eq_true, decide_eq_true_eq]
    have := h.g; have := h.l; have := h.m; have := h.p; have := h.b; have := h.s
    omega
  have e : ofF r = (cfOf r, 0) := by unfold ofF; rw [if_pos ⟨hok, hH⟩]
  have h0 : (ofF r).2 = 0 := by rw [e]
  refine ⟨h0, by rw [e], ?_, n, hM, hLL, g, pg⟩
  have := (ofF_ok h0).1
  rw [e] at this; exact this

set_option maxHeartbeats 2000000 in
theorem raw_told (p : Pk) (ok : p.Ok) (bg : Bool) : Told P T mk_Picks_Raw [pkB p] [.ptr 0 0 0, .bool bg] (eR (rawF p bg).1) [pkB (rawF p bg).2] := by
  have k1 := ok.next 9
  have k2 := k1.next 12
  have k3 := k2.next 150
  have k4 := k3.next 30
  have k5 := k4.next 200
  have b1 := p.num_lt (m := 9) (by omega)
  have b2 := (p.next 9).num_lt (m := 12) (by omega)
  have b3 := ((p.next 9).next 12).num_lt (m := 150) (by omega)
  have b4 := (((p.next 9).next 12).next 150).num_lt (m := 30) (by omega)
  have b5 := ((((p.next 9).next 12).next 150).next 30).num_lt (m := 200) (by omega)
  have b6 := (((((p.next 9).next 12).next 150).next 30).next 200).num_lt (m := 20) (by omega)
  have g2 : (1 + p.num 9) * (1 + (p.next 9).num 12) ≤ 9 * 12 := Nat.mul_le_mul (by omega) (by omega)
  have e1 : ((1 : Int) + (p.num 9 : Nat)) * (1 + ((p.next 9).num 12 : Nat)) = (((1 + p.num 9) * (1 + (p.next 9).num 12) : Nat) : Int) := by
    rw [Int.natCast_mul, Int.natCast_add, Int.natCast_add]; rfl
  refine told_of_ev (fn := mk_Picks_Raw_fn) tabOk mixed (by kernel_rfl) (by kernel_rfl) (by kernel_rfl) (by kernel_rfl) ?_
  (refine gw ?_; refine Choice.mk ⟨true, Choice.mk ⟨false, _, _, num_told p ok 9 (by omega), ?_⟩⟩)
  (refine gw ?_; refine Choice.mk ⟨true, Choice.mk ⟨false, _, _, num_told _ k1 12 (by omega), ?_⟩⟩)
  (refine gw ?_; refine Choice.mk ⟨true, Choice.mk ⟨false, _, _, num_told _ k2 150 (by omega), ?_⟩⟩)
  (refine gw ?_; refine Choice.mk ⟨true, Choice.mk ⟨false, _, _, num_told _ k3 30 (by omega), ?_⟩⟩)
  (refine gw ?_; refine Choice.mk ⟨true, Choice.mk ⟨false, _, _, num_told _ k4 200 (by omega), ?_⟩⟩)
  (refine gw ?_; refine Choice.mk ⟨true, Choice.mk ⟨false, _, _, num_told _ k5 20 (by omega), ?_⟩⟩)
  cases bg with
  | true => (refine gw ?_; exact RetN.mk ⟨[], rfl, rfl, rfl⟩)
  | false => (refine gw ?_; exact RetN.mk ⟨[], rfl, rfl, rfl⟩)
end Go.Ev.W
namespace Go.Ev.W
open Go.Ev Go.Ev.N

/-- An operation as it is picked. -/
structure OpG (c : Cf) (o : X.O) : Prop where
  k : 1 ≤ o.k ∧ o.k ≤ 10
  p : -3 ≤ o.p ∧ o.p ≤ 65536
  s : -1 ≤ o.s ∧ o.s ≤ (c.N : Int) + 2
  a : 0 ≤ o.a ∧ o.a ≤ 16
  n : 0 ≤ o.n ∧ o.n ≤ 8
  b : 0 ≤ o.b ∧ o.b < 256
  p0 : (4 ≤ o.k ∧ o.k ≤ 8) ∨ o.p = 0
  s0 : o.k ≤ 4 ∨ o.s = 0
  a0 : o.k = 3 ∨ o.a = 0
  n0 : (o.k = 2 ∨ o.k = 7 ∨ o.k = 8) ∨ o.n = 0
  b0 : o.k = 8 ∨ o.b = 0
theorem OpG.ok {c : Cf} (hc : c.Ok) {o : X.O} (h : OpG c o) : OpOk o := by
  have hN := hc.nM
  have hM := hc.mH
  have := h.k; have := h.p; have := h.s; have := h.a; have := h.n
  exact ⟨by omega, by omega, by omega, by omega, by omega, h.b⟩
set_option maxHeartbeats 4000000 in
theorem size_told {c : Cf} (hc : c.Ok) (p : Pk) (ok : p.Ok) : ∃ (v : Int) (p' : Pk), Told P T mk_Picks_Size [pkB p] [.ptr 0 0 0, eC c] (i64 v) [pkB p'] ∧ p'.Ok ∧ -1 ≤ v ∧ v ≤ (c.N : Int) + 2 := by
  have hN := hc.nM
  have hM := hc.mH
  have hL := hc.lL
  have hG := hc.gpos
  have k1 := ok.next 12
  have b1 := p.num_lt (m := 12) (by omega)
  have t1 := num_told p ok 12 (by omega)
  have t2 := num_told _ k1 3 (by omega)
  have b2 := (p.next 12).num_lt (m := 3) (by omega)
  have emax : ∀ a b : Int, max a b = if b > a then b else a := fun a b => by split <;> omega
  generalize hx : p.num 12 = x at *
  rcases (by omega : x = 0 ∨ x = 1 ∨ x = 2 ∨ 3 ≤ x) with h | h | h | h
  · subst h
    refine ⟨0, p.next 12, ?_, k1, by omega, by omega⟩
    refine told_of_ev (fn := mk_Picks_Size_fn) tabOk mixed (by kernel_rfl) (by kernel_rfl) (by kernel_rfl) (by kernel_rfl) ?_
    (refine gw ?_; refine Choice.mk ⟨true, Choice.mk ⟨false, _, _, t1, ?_⟩⟩)
    (refine gw ?_; exact RetN.mk ⟨[], rfl, rfl, rfl⟩)
  · subst h
    refine ⟨(c.N : Int) + ((p.next 12).num 3 : Nat), (p.next 12).next 3, ?_, k1.next 3, by omega, by omega⟩
    refine told_of_ev (fn := mk_Picks_Size_fn) tabOk mixed (by kernel_rfl) (by kernel_rfl) (by kernel_rfl) (by kernel_rfl) ?_
    (refine gw ?_; refine Choice.mk ⟨true, Choice.mk ⟨false, _, _, t1, ?_⟩⟩)
    (refine gw ?_; refine Choice.mk ⟨true, Choice.mk ⟨false, _, _, t2, ?_⟩⟩)
    (refine gw ?_; exact RetN.mk ⟨[], rfl, rfl, rfl⟩)
  · subst h
    refine ⟨-1, p.next 12, ?_, k1, by omega, by omega⟩
    refine told_of_ev (fn := mk_Picks_Size_fn) tabOk mixed (by kernel_rfl) (by kernel_rfl) (by kernel_rfl) (by kernel_rfl) ?_
    (refine gw ?_; refine Choice.mk ⟨true, Choice.mk ⟨false, _, _, t1, ?_⟩⟩)
    (refine gw ?_; exact RetN.mk ⟨[], rfl, rfl, rfl⟩)
  · have b3 := (p.next 12).num_lt (m := c.L + 1) (by omega)
    have k2 := k1.next (c.L + 1)
    have t3 := num_told _ k1 (c.L + 1) (by omega)
    have t4 := num_told _ k2 3 (by omega)
    have b4 := ((p.next 12).next (c.L + 1)).num_lt (m := 3) (by omega)
    have hGN : c.G ≤ 65536 := by have := hc.n; have := Nat.le_mul_of_pos_right c.G (Nat.two_pow_pos c.L); omega
    have t5 := refSize_told c ((p.next 12).num (c.L + 1)) (by omega) hGN
    have hsz : c.G * 2 ^ (p.next 12).num (c.L + 1) ≤ c.N := by
      rw [hc.n]; exact Nat.mul_le_mul_left _ (Nat.pow_le_pow_right (by omega) (by omega))
    generalize c.G * 2 ^ (p.next 12).num (c.L + 1) = z at *
    generalize (p.next 12).num (c.L + 1) = y at *
    refine ⟨max 1 ((z : Int) - (((p.next 12).next (c.L + 1)).num 3 : Nat)), ((p.next 12).next (c.L + 1)).next 3, ?_, k2.next 3, by omega, by omega⟩
    rw [emax]
    refine told_of_ev (fn := mk_Picks_Size_fn) tabOk mixed (by kernel_rfl) (by kernel_rfl) (by kernel_rfl) (by kernel_rfl) ?_
    (refine gw ?_; refine Choice.mk ⟨true, Choice.mk ⟨false, _, _, t1, ?_⟩⟩)
    (refine gw ?_; refine IfB.ff (by simp; omega) ?_)
    (refine gw ?_; refine IfB.ff (by simp; omega) ?_)
    (refine gw ?_; refine IfB.ff (by simp; omega) ?_)
    (refine gw ?_; refine Choice.mk ⟨true, Choice.mk ⟨false, _, _, t3, ?_⟩⟩)
    (refine gw ?_; refine Choice.mk ⟨false, Choice.mk ⟨true, _, _, t5, ?_⟩⟩)
    (refine gw ?_; refine Choice.mk ⟨true, Choice.mk ⟨false, _, _, t4, ?_⟩⟩)
    (refine gw ?_; exact RetN.mk ⟨[], rfl, rfl, rfl⟩)
set_option maxHeartbeats 4000000 in
theorem block_told {H : Nat} (hH : H ≤ 65536) {l : List Bk} (ha : ApB H l) (p : Pk) (ok : p.Ok) : ∃ (v : Int) (p' : Pk), Told P T mk_Picks_Block [pkB p] [.ptr 0 0 0, lK l] (i64 v) [pkB p'] ∧ p'.Ok ∧ -3 ≤ v ∧ v ≤ 65536 := by
  have hml : (l.map eB).length = l.length := by simp
  have hlen := ha.len
  by_cases h0 : l.length = 0
  · have b1 := p.num_lt (m := 200) (by omega)
    refine ⟨(p.num 200 : Nat) - 3, p.next 200, ?_, ok.next 200, by omega, by omega⟩
    refine told_of_ev (fn := mk_Picks_Block_fn) tabOk mixed (by kernel_rfl) (by kernel_rfl) (by kernel_rfl) (by kernel_rfl) ?_
    (refine gw ?_; refine IfB.tt (by rw [hml, h0]; simp) ?_)
    (refine gw ?_; refine Choice.mk ⟨true, Choice.mk ⟨false, _, _, num_told p ok 200 (by omega), ?_⟩⟩)
    (refine gw ?_; exact RetN.mk ⟨[], rfl, rfl, rfl⟩)
  · have k1 := ok.next 12
    by_cases h1 : p.num 12 = 0
    · have b1 := (p.next 12).num_lt (m := 200) (by omega)
      refine ⟨((p.next 12).num 200 : Nat) - 3, (p.next 12).next 200, ?_, k1.next 200, by omega, by omega⟩
      refine told_of_ev (fn := mk_Picks_Block_fn) tabOk mixed (by kernel_rfl) (by kernel_rfl) (by kernel_rfl) (by kernel_rfl) ?_
      (refine gw ?_; refine IfB.ff (by rw [hml]; exact decide_eq_false (by omega)) ?_)
      (refine gw ?_; refine Choice.mk ⟨true, Choice.mk ⟨false, _, _, num_told p ok 12 (by omega), ?_⟩⟩)
      (refine gw ?_; refine IfB.tt (by simp [h1]) ?_)
      (refine gw ?_; refine Choice.mk ⟨true, Choice.mk ⟨false, _, _, num_told _ k1 200 (by omega), ?_⟩⟩)
      (refine gw ?_; exact RetN.mk ⟨[], rfl, rfl, rfl⟩)
    · have b1 := (p.next 12).num_lt (m := l.length) (by omega)
      have hx := ha.b _ (List.getElem_mem b1)
      refine ⟨l[(p.next 12).num l.length].a, (p.next 12).next l.length, ?_, k1.next l.length, by omega, by omega⟩
      have t2 := num_told _ k1 l.length (by omega)
      refine told_of_ev (fn := mk_Picks_Block_fn) tabOk mixed (by kernel_rfl) (by kernel_rfl) (by kernel_rfl) (by kernel_rfl) ?_
      (refine gw ?_; refine IfB.ff (by rw [hml]; exact decide_eq_false (by omega)) ?_)
      (refine gw ?_; refine Choice.mk ⟨true, Choice.mk ⟨false, _, _, num_told p ok 12 (by omega), ?_⟩⟩)
      (refine gw ?_; refine IfB.ff (by simp; omega) ?_)
      (refine gw ?_)
      rw [hml]
      (refine gw ?_; refine Choice.mk ⟨true, Choice.mk ⟨false, _, _, t2, ?_⟩⟩)
      (refine gw ?_; refine idx_map (b1) ?_)
      (refine gw ?_; exact RetN.mk ⟨[], rfl, rfl, rfl⟩)
end Go.Ev.W
namespace Go.Ev.W
open Go.Ev Go.Ev.N

set_option maxRecDepth 20000 in
set_option maxHeartbeats 8000000 in
theorem op_told {c : Cf} (hc : c.Ok) {l : List Bk} (ha : ApB c.H l) (p : Pk) (ok : p.Ok) : ∃ (o : X.O) (p' : Pk), Told P T mk_Picks_Op [pkB p] [.ptr 0 0 0, eC c, lK l] (X.encO o) [pkB p'] ∧ p'.Ok ∧ OpG c o := by
  have hH := hc.h2
  have k1 := ok.next 20
  have b1 := p.num_lt (m := 20) (by omega)
  have t1 := num_told p ok 20 (by omega)
  generalize p.next 20 = p1 at *
  generalize p.num 20 = x at *
  rcases (by omega : x < 6 ∨ x = 6 ∨ x = 7 ∨ (8 ≤ x ∧ x < 11) ∨ (11 ≤ x ∧ x < 14) ∨ x = 14 ∨ (15 ≤ x ∧ x < 17) ∨ x = 17 ∨ x = 18 ∨ x = 19) with h | h | h | h | h | h | h | h | h | h
  · obtain ⟨v, p2, t2, k2, b2⟩ := size_told hc p1 k1
    refine ⟨⟨1, 0, v, 0, 0, 0⟩, p2, ?_, k2, ⟨by simp, by simp, b2, by simp, by simp, by simp, by simp, by simp, by simp, by simp, by simp⟩⟩
    refine told_of_ev (fn := mk_Picks_Op_fn) tabOk mixed (by kernel_rfl) (by kernel_rfl) (by kernel_rfl) (by kernel_rfl) ?_
    (refine gw ?_; refine Choice.mk ⟨true, Choice.mk ⟨false, _, _, t1, ?_⟩⟩)
    (refine gw ?_; refine IfB.tt (by simp; omega) ?_)
    (refine gw ?_; refine Choice.mk ⟨true, Choice.mk ⟨false, _, _, t2, ?_⟩⟩)
    (refine gw ?_; exact RetN.mk ⟨[], rfl, rfl, rfl⟩)
  · obtain ⟨v, p2, t2, k2, b2⟩ := size_told hc (p1.next 4) (k1.next 4)
    have t3 := num_told p1 k1 4 (by omega)
    have b3 := p1.num_lt (m := 4) (by omega)
    subst h
    refine ⟨⟨2, 0, v, 0, (p1.num 4 : Nat), 0⟩, p2, ?_, k2, ⟨by simp, by simp, b2, by simp, by simp only; omega, by simp, by simp, by simp, by simp, by simp, by simp⟩⟩
    refine told_of_ev (fn := mk_Picks_Op_fn) tabOk mixed (by kernel_rfl) (by kernel_rfl) (by kernel_rfl) (by kernel_rfl) ?_
    (refine gw ?_; refine Choice.mk ⟨true, Choice.mk ⟨false, _, _, t1, ?_⟩⟩)
    (refine gw ?_; refine Choice.mk ⟨true, Choice.mk ⟨false, _, _, t3, ?_⟩⟩)
    (refine gw ?_; refine Choice.mk ⟨true, Choice.mk ⟨false, _, _, t2, ?_⟩⟩)
    (refine gw ?_; exact RetN.mk ⟨[], rfl, rfl, rfl⟩)
  · obtain ⟨v, p2, t2, k2, b2⟩ := size_told hc p1 k1
    have t3 := num_told p2 k2 7 (by omega)
    have b3 := p2.num_lt (m := 7) (by omega)
    subst h
    obtain ⟨j, hj⟩ : ∃ j, p2.num 7 = j := ⟨_, rfl⟩
    rw [hj] at t3 b3
    rcases (by omega : j = 0 ∨ j = 1 ∨ j = 2 ∨ j = 3 ∨ j = 4 ∨ j = 5 ∨ j = 6) with h | h | h | h | h | h | h
    · subst h
      refine ⟨⟨3, 0, v, 1, 0, 0⟩, p2.next 7, ?_, k2.next 7, ⟨by simp, by simp, b2, by simp, by simp, by simp, by simp, by simp, by simp, by simp, by simp⟩⟩
      refine told_of_ev (fn := mk_Picks_Op_fn) tabOk mixed (by kernel_rfl) (by kernel_rfl) (by kernel_rfl) (by kernel_rfl) ?_
      (refine gw ?_; refine Choice.mk ⟨true, Choice.mk ⟨false, _, _, t1, ?_⟩⟩)
      (refine gw ?_; refine Choice.mk ⟨true, Choice.mk ⟨false, _, _, t2, ?_⟩⟩)
      (refine gw ?_; refine Choice.mk ⟨true, Choice.mk ⟨false, _, _, t3, ?_⟩⟩)
      (refine gw ?_)
      refine InB.mk (by simp) (by simp) ?_
      (refine gw ?_)
      first | (refine At.mk ⟨_, rfl, ?_⟩) | skip
      (refine gw ?_; exact RetN.mk ⟨[], rfl, rfl, rfl⟩)
    · subst h
      refine ⟨⟨3, 0, v, 2, 0, 0⟩, p2.next 7, ?_, k2.next 7, ⟨by simp, by simp, b2, by simp, by simp, by simp, by simp, by simp, by simp, by simp, by simp⟩⟩
      refine told_of_ev (fn := mk_Picks_Op_fn) tabOk mixed (by kernel_rfl) (by kernel_rfl) (by kernel_rfl) (by kernel_rfl) ?_
      (refine gw ?_; refine Choice.mk ⟨true, Choice.mk ⟨false, _, _, t1, ?_⟩⟩)
      (refine gw ?_; refine Choice.mk ⟨true, Choice.mk ⟨false, _, _, t2, ?_⟩⟩)
      (refine gw ?_; refine Choice.mk ⟨true, Choice.mk ⟨false, _, _, t3, ?_⟩⟩)
      (refine gw ?_)
      refine InB.mk (by simp) (by simp) ?_
      (refine gw ?_)
      first | (refine At.mk ⟨_, rfl, ?_⟩) | skip
      (refine gw ?_; exact RetN.mk ⟨[], rfl, rfl, rfl⟩)
    · subst h
      refine ⟨⟨3, 0, v, 4, 0, 0⟩, p2.next 7, ?_, k2.next 7, ⟨by simp, by simp, b2, by simp, by simp, by simp, by simp, by simp, by simp, by simp, by simp⟩⟩
      refine told_of_ev (fn := mk_Picks_Op_fn) tabOk mixed (by kernel_rfl) (by kernel_rfl) (by kernel_rfl) (by kernel_rfl) ?_
      (refine gw ?_; refine Choice.mk ⟨true, Choice.mk ⟨false, _, _, t1, ?_⟩⟩)
      (refine gw ?_; refine Choice.mk ⟨true, Choice.mk ⟨false, _, _, t2, ?_⟩⟩)
      (refine gw ?_; refine Choice.mk ⟨true, Choice.mk ⟨false, _, _, t3, ?_⟩⟩)
      (refine gw ?_)
      refine InB.mk (by simp) (by simp) ?_
      (refine gw ?_)
      first | (refine At.mk ⟨_, rfl, ?_⟩) | skip
      (refine gw ?_; exact RetN.mk ⟨[], rfl, rfl, rfl⟩)
    · subst h
      refine ⟨⟨3, 0, v, 3, 0, 0⟩, p2.next 7, ?_, k2.next 7, ⟨by simp, by simp, b2, by simp, by simp, by simp, by simp, by simp, by simp, by simp, by simp⟩⟩
      refine told_of_ev (fn := mk_Picks_Op_fn) tabOk mixed (by kernel_rfl) (by kernel_rfl) (by kernel_rfl) (by kernel_rfl) ?_
      (refine gw ?_; refine Choice.mk ⟨true, Choice.mk ⟨false, _, _, t1, ?_⟩⟩)
      (refine gw ?_; refine Choice.mk ⟨true, Choice.mk ⟨false, _, _, t2, ?_⟩⟩)
      (refine gw ?_; refine Choice.mk ⟨true, Choice.mk ⟨false, _, _, t3, ?_⟩⟩)
      (refine gw ?_)
      refine InB.mk (by simp) (by simp) ?_
      (refine gw ?_)
      first | (refine At.mk ⟨_, rfl, ?_⟩) | skip
      (refine gw ?_; exact RetN.mk ⟨[], rfl, rfl, rfl⟩)
    · subst h
      refine ⟨⟨3, 0, v, 0, 0, 0⟩, p2.next 7, ?_, k2.next 7, ⟨by simp, by simp, b2, by simp, by simp, by simp, by simp, by simp, by simp, by simp, by simp⟩⟩
      refine told_of_ev (fn := mk_Picks_Op_fn) tabOk mixed (by kernel_rfl) (by kernel_rfl) (by kernel_rfl) (by kernel_rfl) ?_
      (refine gw ?_; refine Choice.mk ⟨true, Choice.mk ⟨false, _, _, t1, ?_⟩⟩)
      (refine gw ?_; refine Choice.mk ⟨true, Choice.mk ⟨false, _, _, t2, ?_⟩⟩)
      (refine gw ?_; refine Choice.mk ⟨true, Choice.mk ⟨false, _, _, t3, ?_⟩⟩)
      (refine gw ?_)
      refine InB.mk (by simp) (by simp) ?_
      (refine gw ?_)
      first | (refine At.mk ⟨_, rfl, ?_⟩) | skip
      (refine gw ?_; exact RetN.mk ⟨[], rfl, rfl, rfl⟩)
    · subst h
      refine ⟨⟨3, 0, v, 8, 0, 0⟩, p2.next 7, ?_, k2.next 7, ⟨by simp, by simp, b2, by simp, by simp, by simp, by simp, by simp, by simp, by simp, by simp⟩⟩
      refine told_of_ev (fn := mk_Picks_Op_fn) tabOk mixed (by kernel_rfl) (by kernel_rfl) (by kernel_rfl) (by kernel_rfl) ?_
      (refine gw ?_; refine Choice.mk ⟨true, Choice.mk ⟨false, _, _, t1, ?_⟩⟩)
      (refine gw ?_; refine Choice.mk ⟨true, Choice.mk ⟨false, _, _, t2, ?_⟩⟩)
      (refine gw ?_; refine Choice.mk ⟨true, Choice.mk ⟨false, _, _, t3, ?_⟩⟩)
      (refine gw ?_)
      refine InB.mk (by simp) (by simp) ?_
      (refine gw ?_)
      first | (refine At.mk ⟨_, rfl, ?_⟩) | skip
      (refine gw ?_; exact RetN.mk ⟨[], rfl, rfl, rfl⟩)
    · subst h
      refine ⟨⟨3, 0, v, 16, 0, 0⟩, p2.next 7, ?_, k2.next 7, ⟨by simp, by simp, b2, by simp, by simp, by simp, by simp, by simp, by simp, by simp, by simp⟩⟩
      refine told_of_ev (fn := mk_Picks_Op_fn) tabOk mixed (by kernel_rfl) (by kernel_rfl) (by kernel_rfl) (by kernel_rfl) ?_
      (refine gw ?_; refine Choice.mk ⟨true, Choice.mk ⟨false, _, _, t1, ?_⟩⟩)
      (refine gw ?_; refine Choice.mk ⟨true, Choice.mk ⟨false, _, _, t2, ?_⟩⟩)
      (refine gw ?_; refine Choice.mk ⟨true, Choice.mk ⟨false, _, _, t3, ?_⟩⟩)
      (refine gw ?_)
      refine InB.mk (by simp) (by simp) ?_
      (refine gw ?_)
      first | (refine At.mk ⟨_, rfl, ?_⟩) | skip
      (refine gw ?_; exact RetN.mk ⟨[], rfl, rfl, rfl⟩)
  · obtain ⟨v, p2, t2, k2, b2⟩ := block_told hH ha p1 k1
    obtain ⟨w, p3, t3, k3, b3⟩ := size_told hc p2 k2
    refine ⟨⟨4, v, w, 0, 0, 0⟩, p3, ?_, k3, ⟨by simp, b2, b3, by simp, by simp, by simp, by simp, by simp, by simp, by simp, by simp⟩⟩
    refine told_of_ev (fn := mk_Picks_Op_fn) tabOk mixed (by kernel_rfl) (by kernel_rfl) (by kernel_rfl) (by kernel_rfl) ?_
    (refine gw ?_; refine Choice.mk ⟨true, Choice.mk ⟨false, _, _, t1, ?_⟩⟩)
    (refine gw ?_; refine IfB.ff (by simp; omega) ?_)
    (refine gw ?_; refine IfB.ff (by simp; omega) ?_)
    (refine gw ?_; refine IfB.ff (by simp; omega) ?_)
    (refine gw ?_; refine IfB.tt (by simp; omega) ?_)
    (refine gw ?_; refine Choice.mk ⟨true, Choice.mk ⟨false, _, _, t2, ?_⟩⟩)
    (refine gw ?_; refine Choice.mk ⟨true, Choice.mk ⟨false, _, _, t3, ?_⟩⟩)
    (refine gw ?_; exact RetN.mk ⟨[], rfl, rfl, rfl⟩)
  · obtain ⟨v, p2, t2, k2, b2⟩ := block_told hH ha p1 k1
    refine ⟨⟨5, v, 0, 0, 0, 0⟩, p2, ?_, k2, ⟨by simp, b2, by simp; omega, by simp, by simp, by simp, by simp, by simp, by simp, by simp, by simp⟩⟩
    refine told_of_ev (fn := mk_Picks_Op_fn) tabOk mixed (by kernel_rfl) (by kernel_rfl) (by kernel_rfl) (by kernel_rfl) ?_
    (refine gw ?_; refine Choice.mk ⟨true, Choice.mk ⟨false, _, _, t1, ?_⟩⟩)
    (refine gw ?_; refine IfB.ff (by simp; omega) ?_)
    (refine gw ?_; refine IfB.ff (by simp; omega) ?_)
    (refine gw ?_; refine IfB.ff (by simp; omega) ?_)
    (refine gw ?_; refine IfB.ff (by simp; omega) ?_)
    (refine gw ?_; refine IfB.tt (by simp; omega) ?_)
    (refine gw ?_; refine Choice.mk ⟨true, Choice.mk ⟨false, _, _, t2, ?_⟩⟩)
    (refine gw ?_; exact RetN.mk ⟨[], rfl, rfl, rfl⟩)
  · obtain ⟨v, p2, t2, k2, b2⟩ := block_told hH ha p1 k1
    subst h
    refine ⟨⟨6, v, 0, 0, 0, 0⟩, p2, ?_, k2, ⟨by simp, b2, by simp; omega, by simp, by simp, by simp, by simp, by simp, by simp, by simp, by simp⟩⟩
    refine told_of_ev (fn := mk_Picks_Op_fn) tabOk mixed (by kernel_rfl) (by kernel_rfl) (by kernel_rfl) (by kernel_rfl) ?_
    (refine gw ?_; refine Choice.mk ⟨true, Choice.mk ⟨false, _, _, t1, ?_⟩⟩)
    (refine gw ?_; refine Choice.mk ⟨true, Choice.mk ⟨false, _, _, t2, ?_⟩⟩)
    (refine gw ?_; exact RetN.mk ⟨[], rfl, rfl, rfl⟩)
  · obtain ⟨v, p2, t2, k2, b2⟩ := block_told hH ha p1 k1
    have t3 := num_told p2 k2 9 (by omega)
    have b3 := p2.num_lt (m := 9) (by omega)
    refine ⟨⟨7, v, 0, 0, (p2.num 9 : Nat), 0⟩, p2.next 9, ?_, k2.next 9, ⟨by simp, b2, by simp; omega, by simp, by simp only; omega, by simp, by simp, by simp, by simp, by simp, by simp⟩⟩
    refine told_of_ev (fn := mk_Picks_Op_fn) tabOk mixed (by kernel_rfl) (by kernel_rfl) (by kernel_rfl) (by kernel_rfl) ?_
    (refine gw ?_; refine Choice.mk ⟨true, Choice.mk ⟨false, _, _, t1, ?_⟩⟩)
    (refine gw ?_; refine IfB.ff (by simp; omega) ?_)
    (refine gw ?_; refine IfB.ff (by simp; omega) ?_)
    (refine gw ?_; refine IfB.ff (by simp; omega) ?_)
    (refine gw ?_; refine IfB.ff (by simp; omega) ?_)
    (refine gw ?_; refine IfB.ff (by simp; omega) ?_)
    (refine gw ?_; refine IfB.ff (by simp; omega) ?_)
    (refine gw ?_; refine IfB.tt (by simp; omega) ?_)
    (refine gw ?_; refine Choice.mk ⟨true, Choice.mk ⟨false, _, _, t2, ?_⟩⟩)
    (refine gw ?_; refine Choice.mk ⟨true, Choice.mk ⟨false, _, _, t3, ?_⟩⟩)
    (refine gw ?_; exact RetN.mk ⟨[], rfl, rfl, rfl⟩)
  · subst h
    refine ⟨⟨9, 0, 0, 0, 0, 0⟩, p1, ?_, k1, ⟨by simp, by simp, by simp; omega, by simp, by simp, by simp, by simp, by simp, by simp, by simp, by simp⟩⟩
    refine told_of_ev (fn := mk_Picks_Op_fn) tabOk mixed (by kernel_rfl) (by kernel_rfl) (by kernel_rfl) (by kernel_rfl) ?_
    (refine gw ?_; refine Choice.mk ⟨true, Choice.mk ⟨false, _, _, t1, ?_⟩⟩)
    (refine gw ?_; exact RetN.mk ⟨[], rfl, rfl, rfl⟩)
  · subst h
    refine ⟨⟨10, 0, 0, 0, 0, 0⟩, p1, ?_, k1, ⟨by simp, by simp, by simp; omega, by simp, by simp, by simp, by simp, by simp, by simp, by simp, by simp⟩⟩
    refine told_of_ev (fn := mk_Picks_Op_fn) tabOk mixed (by kernel_rfl) (by kernel_rfl) (by kernel_rfl) (by kernel_rfl) ?_
    (refine gw ?_; refine Choice.mk ⟨true, Choice.mk ⟨false, _, _, t1, ?_⟩⟩)
    (refine gw ?_; exact RetN.mk ⟨[], rfl, rfl, rfl⟩)
  · obtain ⟨v, p2, t2, k2, b2⟩ := block_told hH ha p1 k1
    have t3 := num_told p2 k2 9 (by omega)
    have b3 := p2.num_lt (m := 9) (by omega)
    have t4 := num_told _ (k2.next 9) 256 (by omega)
    have b4 := (p2.next 9).num_lt (m := 256) (by omega)
    subst h
    refine ⟨⟨8, v, 0, 0, (p2.num 9 : Nat), ((p2.next 9).num 256 : Nat)⟩, (p2.next 9).next 256, ?_, (k2.next 9).next 256, ⟨by simp, b2, by simp; omega, by simp, by simp only; omega, by simp only; omega, by simp, by simp, by simp, by simp, by simp⟩⟩
    refine told_of_ev (fn := mk_Picks_Op_fn) tabOk mixed (by kernel_rfl) (by kernel_rfl) (by kernel_rfl) (by kernel_rfl) ?_
    (refine gw ?_; refine Choice.mk ⟨true, Choice.mk ⟨false, _, _, t1, ?_⟩⟩)
    (refine gw ?_; refine Choice.mk ⟨true, Choice.mk ⟨false, _, _, t2, ?_⟩⟩)
    (refine gw ?_; refine Choice.mk ⟨true, Choice.mk ⟨false, _, _, t3, ?_⟩⟩)
    (refine gw ?_; refine Choice.mk ⟨true, Choice.mk ⟨false, _, _, t4, ?_⟩⟩)
    (refine gw ?_)
    refine fits (by rw [IntKind.wrap_u8]; omega) ?_
    (refine gw ?_; exact RetN.mk ⟨[], rfl, rfl, rfl⟩)
end Go.Ev.W
namespace Go.Ev.W
open Go.Ev Go.Ev.N

set_option maxRecDepth 20000 in
set_option maxHeartbeats 4000000 in
theorem new17_told (r : Rw) : Told P T ref17_New [] [eR r] (.tup [eM (newM r).1, i64 ((newM r).2 : Nat)]) [] := by
  have c1 := refOf_told r
  have hok := ofF_ok (r := r)
  unfold newM
  generalize ofF r = R at *
  obtain ⟨c, e⟩ := R
  by_cases he : e = 0
  · subst he
    have hc : c.Ok := (hok rfl).1
    have hH := hc.h2
    have hpg := hc.pgpos
    have d1 : ((c.H : Nat) : Int).tdiv ((c.Pg : Nat) : Int) = ((c.H / c.Pg : Nat) : Int) := (Int.ofNat_tdiv c.H c.Pg).symm
    have d2 := Nat.div_le_self c.H c.Pg
    simp only [ne_eq, not_true_eq_false, if_false]
    generalize hD : c.H / c.Pg = D at *
    have c1 : Told P T ref1_Of [] [eR r] (.tup [eC c, i64 ((0 : Nat) : Int)]) [] := c1
    refine told_of_ev (fn := ref17_New_fn) tabOk mixed (by kernel_rfl) (by kernel_rfl) (by kernel_rfl) (by kernel_rfl) ?_
    (refine gw ?_; refine Choice.mk ⟨false, Choice.mk ⟨false, _, _, c1, ?_⟩⟩)
    (refine gw ?_)
    rw [d1]
    (refine gw ?_; refine Room.mk (by first | omega | (simp; omega) | (simp <;> fail)) ?_)
    (refine gw ?_; refine Room.mk (by first | omega | (simp; omega) | (simp <;> fail)) ?_)
    (refine gw ?_; refine RetN.fz ⟨[true, true], [], rfl, ?_, rfl⟩)
    have hr1 : lT (List.replicate D false) = .lst t_bool (List.replicate D (.bool false)) := by unfold lT; rw [List.map_replicate]
    have hr2 : lU (List.replicate c.H 0) = .lst t_uint8 (List.replicate c.H (u8 0)) := by unfold lU; rw [List.map_replicate]
    refine Eq.trans ?_ (congrArg (fun z => AV.tup [z, i64 0]) (show AV.agg [i64 c.G, i64 c.N, i64 c.M, i64 c.L, i64 c.Pg, i64 c.P, i64 c.H, i64 c.Sd, lK [], i64 0, i64 0, i64 0, .lst t_bool (List.replicate ((D : Nat) : Int).toNat (.bool false)), .lst t_uint8 (List.replicate ((c.H : Nat) : Int).toNat (u8 0))] = eM ⟨c, [], 0, 0, 0, List.replicate D false, List.replicate c.H 0⟩ by
      rw [Int.toNat_natCast, Int.toNat_natCast, ← hr1, ← hr2]; rfl))
    rfl
  · simp only [ne_eq, he, not_false_eq_true, if_true]
    refine told_of_ev (fn := ref17_New_fn) tabOk mixed (by kernel_rfl) (by kernel_rfl) (by kernel_rfl) (by kernel_rfl) ?_
    have c1 : Told P T ref1_Of [] [eR r] (.tup [eC c, i64 ((e : Nat) : Int)]) [] := c1
    (refine gw ?_; refine Choice.mk ⟨false, Choice.mk ⟨false, _, _, c1, ?_⟩⟩)
    (refine gw ?_; refine IfB.tt (by simpa using he) ?_)
    (refine gw ?_; exact RetN.fz ⟨[true, true], [], rfl, rfl, rfl⟩)
theorem newM_ok {r : Rw} (h : (newM r).2 = 0) : MoOk (newM r).1 := by
  have hok := ofF_ok (r := r)
  unfold newM at h ⊢
  split at h
  · rename_i h1; exact absurd h h1
  · rename_i h1
    rw [if_neg h1]
    have hc := (hok (Decidable.of_not_not h1)).1
    refine ⟨hc, ApB.nil _, by simp, by simp [totalB], by simp, by simp, by simp, by simp, ?_, by simp, ?_⟩
    · show cntB (List.replicate _ false) ≤ _
      unfold cntB
      rw [List.filter_eq_nil_iff.2 (by intro a ha; rw [List.eq_of_mem_replicate ha]; simp)]
      simp
    · intro x hx
      rw [List.eq_of_mem_replicate hx]; omega
end Go.Ev.W
namespace Go.Ev.W
open Go.Ev Go.Ev.N

set_option maxRecDepth 20000 in
set_option maxHeartbeats 4000000 in
theorem plainNew_told (r : Rw) : Told P T plain_New [] [eR r] (.tup [eM (newM r).1, i64 ((newM r).2 : Nat)]) [] := by
  have c1 := confOf_told r
  have hok := ofF_ok (r := r)
  unfold newM
  generalize ofF r = R at *
  obtain ⟨c, e⟩ := R
  by_cases he : e = 0
  · subst he
    have hc : c.Ok := (hok rfl).1
    have hH := hc.h2
    have hpg := hc.pgpos
    have d1 : ((c.H : Nat) : Int).tdiv ((c.Pg : Nat) : Int) = ((c.H / c.Pg : Nat) : Int) := (Int.ofNat_tdiv c.H c.Pg).symm
    have d2 := Nat.div_le_self c.H c.Pg
    simp only [ne_eq, not_true_eq_false, if_false]
    generalize hD : c.H / c.Pg = D at *
    have c1 : Told P T conf_Of [] [eR r] (.tup [eC c, i64 ((0 : Nat) : Int)]) [] := c1
    refine told_of_ev (fn := plain_New_fn) tabOk mixed (by kernel_rfl) (by kernel_rfl) (by kernel_rfl) (by kernel_rfl) ?_
    (refine gw ?_; refine Choice.mk ⟨false, Choice.mk ⟨false, _, _, c1, ?_⟩⟩)
    (refine gw ?_)
    rw [d1]
    (refine gw ?_; refine Room.mk (by first | omega | (simp; omega) | (simp <;> fail)) ?_)
    (refine gw ?_; refine Room.mk (by first | omega | (simp; omega) | (simp <;> fail)) ?_)
    (refine gw ?_; refine RetN.fz ⟨[true, true], [], rfl, ?_, rfl⟩)
    have hr1 : lT (List.replicate D false) = .lst t_bool (List.replicate D (.bool false)) := by unfold lT; rw [List.map_replicate]
    have hr2 : lU (List.replicate c.H 0) = .lst t_uint8 (List.replicate c.H (u8 0)) := by unfold lU; rw [List.map_replicate]
    refine Eq.trans ?_ (congrArg (fun z => AV.tup [z, i64 0]) (show AV.agg [i64 c.G, i64 c.N, i64 c.M, i64 c.L, i64 c.Pg, i64 c.P, i64 c.H, i64 c.Sd, lK [], i64 0, i64 0, i64 0, .lst t_bool (List.replicate ((D : Nat) : Int).toNat (.bool false)), .lst t_uint8 (List.replicate ((c.H : Nat) : Int).toNat (u8 0))] = eM ⟨c, [], 0, 0, 0, List.replicate D false, List.replicate c.H 0⟩ by
      rw [Int.toNat_natCast, Int.toNat_natCast, ← hr1, ← hr2]; rfl))
    rfl
  · simp only [ne_eq, he, not_false_eq_true, if_true]
    refine told_of_ev (fn := plain_New_fn) tabOk mixed (by kernel_rfl) (by kernel_rfl) (by kernel_rfl) (by kernel_rfl) ?_
    have c1 : Told P T conf_Of [] [eR r] (.tup [eC c, i64 ((e : Nat) : Int)]) [] := c1
    (refine gw ?_; refine Choice.mk ⟨false, Choice.mk ⟨false, _, _, c1, ?_⟩⟩)
    (refine gw ?_; refine IfB.tt (by simpa using he) ?_)
    (refine gw ?_; exact RetN.fz ⟨[true, true], [], rfl, rfl, rfl⟩)
end Go.Ev.W
namespace Go.Ev.W
open Go.Ev Go.Ev.N

theorem findB1_told (x : Bk) (y : Int) : Told P T plain_find_1 [] [eB x, .eptr (i64 y) 0] (.bool (decide (x.a = y))) [] := by
  refine told_of_ev (fn := plain_find_1_fn) tabOk mixed (by kernel_rfl) (by kernel_rfl) (by kernel_rfl) (by kernel_rfl) ?_
  refine gw ?_
  (refine gw ?_; refine RetN.mk ⟨[], rfl, ?_, rfl⟩)
  refine congrArg AV.bool ?_
  by_cases h : x.a = y
  · simp [h]
  · simp [h]
theorem indexFuncB_told (l : List Bk) (hl : l.length ≤ 1000000) (y : Int) : Told P T slices_IndexFunc_api_Block_api_Block [] [lK l, .fn plain_find_1 [.eptr (i64 y) 0]] (i64 (match findB l y with | some i => ((i : Nat) : Int) | none => -1)) [] := by
  have hml : (l.map eB).length = l.length := by simp
  refine told_of_ev (fn := slices_IndexFunc_api_Block_api_Block_fn) tabOk mixed (by kernel_rfl) (by kernel_rfl) (by kernel_rfl) (by kernel_rfl) ?_
  (refine gw ?_; refine LoopN.mk ⟨[0,1,7,8], fun vs L => ∃ i : Nat, vs = [lK l, .fn plain_find_1 [.eptr (i64 y) 0], i64 (l.map eB).length, i64 i] ∧ L = [] ∧ i ≤ l.length ∧ ∀ j (h : j < l.length), j < i → l[j].a ≠ y, fun vs L => match vs with | [_, _, _, .int _ i] => l.length - i.toNat | _ => 0, [], [], rfl, ⟨0, rfl, rfl, by omega, fun j _ h => by omega⟩, ?_⟩)
  rintro vs L ⟨i, rfl, rfl, hi, hn⟩
  (refine gw ?_; first | refine IfB.dec (fun h1 => ?_) (fun h1 => ?_) | refine IfB.eq (fun h1 => ?_) (fun h1 => ?_) | refine IfB.ne (fun h1 => ?_) (fun h1 => ?_) | refine IfB.mk (fun h1 => ?_) (fun h1 => ?_))
  · have hlt : i < l.length := by omega
    (refine gw ?_; refine idx_map (hlt) ?_)
    (refine gw ?_; refine Choice.mk ⟨false, Choice.mk ⟨true, _, _, findB1_told l[i] y, ?_⟩⟩)
    by_cases h2 : l[i].a = y
    · rw [decide_eq_true h2, findB_some hlt hn h2]
      (refine gw ?_; exact RetN.mk ⟨[], rfl, rfl, rfl⟩)
    · rw [decide_eq_false h2]
      (refine gw ?_; refine ⟨[], [], rfl, ⟨i + 1, rfl, rfl, hlt, fun j h hj => ?_⟩, (by omega : l.length - ((i : Int) + 1).toNat < l.length - (i : Int).toNat)⟩)
      rcases Nat.lt_or_ge j i with h' | h'
      · exact hn j h h'
      · have : j = i := by omega
        subst this; exact h2
  · rw [findB_none fun j hj => hn j hj (by omega)]
    (refine gw ?_; exact RetN.mk ⟨[], rfl, rfl, rfl⟩)
theorem plainFind_told (m : Mo) (hl : m.bs.length ≤ 1000000) (y : Int) : Told P T plain_find [] [eM m, i64 y] (i64 (match findB m.bs y with | some i => ((i : Nat) : Int) | none => -1)) [] := by
  have c1 := indexFuncB_told m.bs hl y
  refine told_of_ev (fn := plain_find_fn) tabOk mixed (by kernel_rfl) (by kernel_rfl) (by kernel_rfl) (by kernel_rfl) ?_
  (refine gw ?_; refine Choice.mk ⟨false, Choice.mk ⟨true, _, _, c1, ?_⟩⟩)
  (refine gw ?_; exact RetN.mk ⟨[], rfl, rfl, rfl⟩)
/-- A place is free, if the first block that ends behind it begins behind what is asked for. -/
theorem free_scan {H : Nat} {l : List Bk} (ha : ApB H l) {y n : Int} {i : Nat} (hi : i ≤ l.length) (h1 : ∀ j (h : j < l.length), j < i → l[j].a + l[j].c ≤ y) (h2 : ∀ h : i < l.length, y < l[i].a + l[i].c) : freeAt l n y = (if h : i < l.length then decide (y + n ≤ l[i].a) else true) := by
  rw [Bool.eq_iff_iff, freeAt_iff]
  constructor
  · intro hf
    split
    · rename_i h
      have := hf _ (List.getElem_mem h)
      have := h2 h
      exact decide_eq_true (by omega)
    · rfl
  · intro hf x hx
    obtain ⟨j, hj, rfl⟩ := List.getElem_of_mem hx
    rcases Nat.lt_trichotomy j i with h | h | h
    · have := h1 j hj h; omega
    · subst h
      rw [dif_pos hj] at hf
      have := of_decide_eq_true hf
      omega
    · have hil : i < l.length := by omega
      rw [dif_pos hil] at hf
      have := of_decide_eq_true hf
      have := List.pairwise_iff_getElem.1 ha.p i j hil hj h
      have := ha.b _ (List.getElem_mem hil)
      omega
set_option maxHeartbeats 2000000 in
theorem plainLowest_told {m : Mo} (hc : m.c.Ok) (ha : ApB m.c.H m.bs) {n : Nat} (hn : 1 ≤ n) (hn2 : n ≤ 65536) : Told P T plain_lowest [] [eM m, i64 n] (.tup [i64 ((lowF m.c m.bs n).1 : Nat), .bool (lowF m.c m.bs n).2]) [] := by
  have hml : (m.bs.map eB).length = m.bs.length := by simp
  have hH := hc.h2
  have hd := Nat.div_mul_le_self m.c.H n
  have hdl := Nat.div_add_mod m.c.H n
  have hdm := Nat.mod_lt m.c.H hn
  have hlen := ha.len
  obtain ⟨R, hR⟩ : ∃ R, lowF m.c m.bs n = R := ⟨_, rfl⟩
  obtain ⟨D, hD⟩ : ∃ D, m.c.H / n = D := ⟨_, rfl⟩
  rw [hD] at hd hdl
  rw [hR]
  refine told_of_ev (fn := plain_lowest_fn) tabOk mixed (by kernel_rfl) (by kernel_rfl) (by kernel_rfl) (by kernel_rfl) ?_
  (refine gw ?_; refine IfB.ff (by simp; omega) ?_)
  (refine gw ?_; refine LoopN.mk ⟨[1,2,6,7], fun vs L => ∃ k i : Nat, vs = [i64 n, .ptr 0 0 0, i64 (k * n : Nat), i64 i] ∧ L = [.var (eM m)] ∧ k ≤ D ∧ i ≤ m.bs.length ∧ R = lowGo m.bs n (D - k) k ∧ ∀ j (h : j < m.bs.length), j < i → m.bs[j].a + m.bs[j].c ≤ (k * n : Nat), fun vs L => match vs with | [_, _, .int _ i, _] => m.c.H + n - i.toNat | _ => 0, [], [0], rfl, ⟨0, 0, by rw [Nat.zero_mul]; rfl, rfl, by omega, by omega, by rw [← hR, ← hD]; rfl, fun j _ h => by omega⟩, ?_⟩)
  rintro vs L ⟨k, i, rfl, rfl, hk, hi, he, hb⟩
  have hkn : k * n ≤ D * n := Nat.mul_le_mul_right _ hk
  have hsn : (k + 1) * n = k * n + n := by rw [Nat.succ_mul]
  have hlt : k * n + n ≤ m.c.H → k < D := fun h => by
    rcases Nat.lt_or_ge k D with h' | h'
    · exact h'
    · have : D * n ≤ k * n := Nat.mul_le_mul_right _ h'
      rw [Nat.mul_comm n D] at hdl
      omega
  have hge : k < D → k * n + n ≤ m.c.H := fun h => by
    have : (k + 1) * n ≤ D * n := Nat.mul_le_mul_right _ h
    omega
  obtain ⟨y, hy⟩ : ∃ y, k * n = y := ⟨_, rfl⟩
  rw [hy] at hkn hsn hlt hge hb ⊢
  (refine gw ?_; first | refine IfB.dec (fun h1 => ?_) (fun h1 => ?_) | refine IfB.eq (fun h1 => ?_) (fun h1 => ?_) | refine IfB.ne (fun h1 => ?_) (fun h1 => ?_) | refine IfB.mk (fun h1 => ?_) (fun h1 => ?_))
  · have hkD := hlt (by omega)
    have e1 : D - k = (D - (k + 1)) + 1 := by omega
    rw [e1, lowGo, hy] at he
    (refine gw ?_; refine LoopN.mk ⟨[1,2,6,7], fun vs L => ∃ i : Nat, vs = [i64 n, .ptr 0 0 0, i64 y, i64 i] ∧ L = [.var (eM m)] ∧ i ≤ m.bs.length ∧ ∀ j (h : j < m.bs.length), j < i → m.bs[j].a + m.bs[j].c ≤ (y : Nat), fun vs L => match vs with | [_, _, _, .int _ i] => m.bs.length - i.toNat | _ => 0, [], [0], rfl, ⟨i, rfl, rfl, hi, hb⟩, ?_⟩)
    rintro vs L ⟨i, rfl, rfl, hi, hb⟩
    by_cases g1 : i < m.bs.length
    · have hbi := ha.b _ (List.getElem_mem g1)
      (refine gw ?_; refine IfB.tt (by simp; omega) ?_)
      (refine gw ?_; refine idx_map (g1) ?_)
      (refine gw ?_; refine idx_map (g1) ?_)
      (refine gw ?_; first | refine IfB.dec (fun g2 => ?_) (fun g2 => ?_) | refine IfB.eq (fun g2 => ?_) (fun g2 => ?_) | refine IfB.ne (fun g2 => ?_) (fun g2 => ?_) | refine IfB.mk (fun g2 => ?_) (fun g2 => ?_))
      · (refine gw ?_; refine ⟨[], [0], rfl, ⟨i + 1, rfl, rfl, g1, fun j h hj => ?_⟩, (by omega : m.bs.length - ((i : Int) + 1).toNat < m.bs.length - (i : Int).toNat)⟩)
        rcases Nat.lt_or_ge j i with h' | h'
        · exact hb j h h'
        · have : j = i := by omega
          subst this; exact g2
      · have hfs := free_scan ha (y := y) (n := n) hi hb fun _ => by omega
        rw [dif_pos g1] at hfs
        (refine gw ?_; refine IfB.ff (by simp; omega) ?_)
        (refine gw ?_; refine idx_map (g1) ?_)
        (refine gw ?_; first | refine IfB.dec (fun g3 => ?_) (fun g3 => ?_) | refine IfB.eq (fun g3 => ?_) (fun g3 => ?_) | refine IfB.ne (fun g3 => ?_) (fun g3 => ?_) | refine IfB.mk (fun g3 => ?_) (fun g3 => ?_))
        · rw [decide_eq_true (by omega)] at hfs
          rw [hfs, if_pos rfl] at he
          rw [he]
          (refine gw ?_; exact RetN.mk ⟨[], rfl, rfl, rfl⟩)
        · rw [decide_eq_false (by omega)] at hfs
          rw [hfs, if_neg (by simp)] at he
          (refine gw ?_; refine ⟨[], [0], rfl, ⟨k + 1, i, by rw [hsn]; rfl, rfl, hkD, hi, he, fun j h hj => by have := hb j h hj; rw [hsn]; omega⟩, (by omega : m.c.H + n - ((y : Int) + (n : Int)).toNat < m.c.H + n - (y : Int).toNat)⟩)
    · have hfs := free_scan ha (y := y) (n := n) hi hb fun h => absurd h g1
      rw [dif_neg g1] at hfs
      rw [hfs, if_pos rfl] at he
      (refine gw ?_; refine IfB.ff (by simp; omega) ?_)
      (refine gw ?_; refine IfB.tt (by simp; omega) ?_)
      rw [he]
      (refine gw ?_; exact RetN.mk ⟨[], rfl, rfl, rfl⟩)
  · have hkD : k = D := by
      rcases Nat.lt_or_ge k D with h' | h'
      · have := hge h'; omega
      · omega
    rw [hkD, Nat.sub_self, lowGo] at he
    rw [he]
    (refine gw ?_; exact RetN.mk ⟨[], rfl, rfl, rfl⟩)
end Go.Ev.W
namespace Go.Ev.W
open Go.Ev Go.Ev.N

theorem overlaps_Block (xs es : List AV) (hx : 0 < xs.length) (i n : Nat) : Told P T slices_overlaps_api_Block [.row t_api_Block xs, .row t_api_Block es] [.ref 0, .sub 1 i n] (.bool false) [.row t_api_Block xs, .row t_api_Block es] :=
  told_overlaps (fn := slices_overlaps_api_Block_fn) (tS := ts_api_Block) (tR := t_bool) tabOk (by kernel_rfl) (by kernel_rfl) (by kernel_rfl) (by kernel_rfl) (by kernel_rfl) (by kernel_rfl) (by kernel_rfl) xs es hx i n

theorem ins_splice_Block (es : List AV) (x : AV) (i : Nat) (hi : i < es.length) :
    es.take i ++ (x :: es.drop i) = (es.take i ++ ([x] ++ es.drop i)) := by simp
set_option maxHeartbeats 4000000 in
theorem insert_Block (es : List AV) (x : AV) (i : Nat) (hi : i ≤ es.length) (hl : es.length ≤ 1000000) :
    Told P T slices_Insert_api_Block_api_Block [.row t_api_Block es, .row t_api_Block [x]] [.ref 0, .int .i64 (i : Nat), .ref 1] (.ref 2) [.dead, .row t_api_Block [x], .row t_api_Block (es.take i ++ (x :: es.drop i))] := by
  refine told_of_ev_drop (fn := slices_Insert_api_Block_api_Block_fn) tabOk mixed (by kernel_rfl) (by kernel_rfl) (by kernel_rfl) (by kernel_rfl) ?_
  refine Cut.mk (by omega) (by omega) (by omega) ?_
  refine IfB.ff rfl ?_
  refine IfB.mk (fun h1 => ?_) (fun h1 => ?_)
  · have hie : i = es.length := by have := of_decide_eq_true h1; omega
    refine Room.mk (by first | omega | (simp; omega) | (simp; done)) ?_
    refine RetN.mk ⟨[3], rfl, rfl, .inl rfl, .inl rfl, .inl ?_, trivial⟩
    subst hie
    show Blk.row t_api_Block (es.take es.length ++ (x :: es.drop es.length)) = Blk.row t_api_Block (es ++ [x])
    rw [List.take_length, List.drop_length]
  · have hlt : i < es.length := by have := of_decide_eq_false h1; omega
    refine fits (wrap64 (by first | omega | (simp; omega) | (simp; done)) (by first | omega | (simp; omega) | (simp; done))) ?_
    refine AnyN.mk (fun c hc => ?_)
    refine IfB.mk (fun h2 => ?_) (fun h2 => ?_)
    · have hcc : c < es.length + 1 := by have := of_decide_eq_true h2; simp at this; omega
      refine Choice.mk ⟨false, ?_⟩
      refine Cut.mk (Int.le_refl _) (by omega) (by omega) ?_
      refine fits (wrap64 (by first | omega | (simp; omega) | (simp; done)) (by first | omega | (simp; omega) | (simp; done))) ?_
      refine fits (wrap64 (by first | omega | (simp; omega) | (simp; done)) (by first | omega | (simp; omega) | (simp; done))) ?_
      refine Need.mk (by first | omega | (simp; omega) | (simp; done)) ?_
      refine Need.mk (by first | omega | (simp; omega) | (simp; done)) ?_
      refine Room.mk (by first | omega | (simp; omega) | (simp; done)) ?_
      refine Cut.mk (by omega) (by first | omega | (simp; omega) | (simp; done)) (by first | omega | (simp; omega) | (simp; done)) ?_
      refine fits (wrap64 (by first | omega | (simp; omega) | (simp; done)) (by first | omega | (simp; omega) | (simp; done))) ?_
      refine Cut.mk (by first | omega | (simp; omega) | (simp; done)) (by first | omega | (simp; omega) | (simp; done)) (by first | omega | (simp; omega) | (simp; done)) ?_
      refine Cut.mk (by omega) (by omega) (by omega) ?_
      refine Sure.mk (by kernel_rfl) ?_
      refine RetN.mk ⟨[3], rfl, rfl, .inr rfl, .inl rfl, .inl ?_, trivial⟩
      show Blk.row t_api_Block (es.take i ++ (x :: es.drop i)) = Blk.row t_api_Block _
      refine congrArg _ ?_
      have e1 : ((es.length : Int) + (([x] : List AV).length : Int) - (i : Int)).toNat = es.length + 1 - i := by first | (simp; done) | (simp; omega)
      have e2 : ((i : Int) + (([x] : List AV).length : Int)).toNat = i + 1 := by first | (simp; done) | (simp; omega)
      have e3 : min 1 (es.length + 1 - i) = 1 := by omega
      simp only [e1, e2, Int.toNat_natCast]
      have e4 : i + (1 + (es.length + 1 - i - 1)) - (i + 1) = es.length - i := by omega
      have e5 : i + 1 + (es.length - i) - i - 1 = es.length - i := by omega
      have e6 : es.length + 1 - i - 1 - (es.length - i) = 0 := by omega
      have e7 : (es.take i).length = i := by rw [List.length_take]; omega
      have d1 : ∀ k, i ≤ k → (es.take i).drop k = [] := fun k hk => List.drop_eq_nil_of_le (by omega)
      have d2 : ∀ k, 1 ≤ k → ([x] : List AV).drop k = [] := fun k hk => List.drop_eq_nil_of_le (by simpa using hk)
      have d3 : ([x] : List AV).take 1 = [x] := rfl
      have d4 : (es.drop i).take (es.length - i) = es.drop i := List.take_of_length_le (by simp)
      have e8 : i + 1 + (es.length - i) - i = 1 + (es.length - i) := by omega
      simp [List.take_append, List.drop_append, List.take_of_length_le, Nat.min_eq_left (Nat.le_of_lt hlt), e3, e4, e8, d3, d4, d2, d1, e6]
      have e9 : i + (es.length + 1 - i - 1 + 1) - (i + 1) = es.length - i := by omega
      have d5 : ∀ z : AV, (x :: List.replicate (es.length + 1 - i - 1) z).drop (i + 1 + (es.length - i) - i) = [] := fun z => List.drop_eq_nil_of_le (by rw [List.length_cons, List.length_replicate]; omega)
      rw [e9, Nat.min_self, d4, d1 _ (by omega), d5]
      simp
    · have hcc : es.length + 1 ≤ c := by have := of_decide_eq_false h2; simp at this; omega
      refine fits (wrap64 (by first | omega | (simp; omega) | (simp; done)) (by first | omega | (simp; omega) | (simp; done))) ?_
      refine Choice.mk ⟨true, ?_⟩
      refine Cut.mk (by omega) (by first | omega | (simp; omega) | (simp; done)) (by first | omega | (simp; omega) | (simp; done)) ?_
      refine fits (wrap64 (by first | omega | (simp; omega) | (simp; done)) (by first | omega | (simp; omega) | (simp; done))) ?_
      refine Cut.mk (by first | omega | (simp; omega) | (simp; done)) (by first | omega | (simp; omega) | (simp; done)) (by first | omega | (simp; omega) | (simp; done)) ?_
      refine Choice.mk ⟨true, Choice.mk ⟨false, _, _, overlaps_Block [x] _ (by simp) _ _, ?_⟩⟩
      refine IfB.tt rfl ?_
      refine fits (wrap64 (by first | omega | (simp; omega) | (simp; done)) (by first | omega | (simp; omega) | (simp; done))) ?_
      refine Cut.mk (by first | omega | (simp; omega) | (simp; done)) (by first | omega | (simp; omega) | (simp; done)) (by first | omega | (simp; omega) | (simp; done)) ?_
      refine Cut.mk (by simp) (by first | omega | (simp; omega) | (simp; done)) (by first | omega | (simp; omega) | (simp; done)) ?_
      refine Sure.mk (by kernel_rfl) ?_
      refine Cut.mk (by simp) (by first | omega | (simp; omega) | (simp; done)) (by first | omega | (simp; omega) | (simp; done)) ?_
      refine RetN.mk ⟨[3], rfl, rfl, .inl rfl, .inl rfl, .inl ?_, trivial⟩
      show Blk.row t_api_Block (es.take i ++ (x :: es.drop i)) = Blk.row t_api_Block _
      refine congrArg _ ?_
      have n1 : ((es.length : Int) + (([x] : List AV).length : Int)).toNat - es.length = 1 := by first | (simp; done) | (simp; omega)
      have n2 : ((i : Int) + (([x] : List AV).length : Int)).toNat = i + 1 := by first | (simp; done) | (simp; omega)
      have r := ins_room es x (junkE T t_api_Block) i hlt
      have m1 : min ([x] : List AV).length (es.length + 1 - i) = 1 := by first | (simp; done) | (simp; omega)
      simp only [n1, n2, Int.toNat_natCast, List.replicate_one]
      rw [r.2.2, m1, r.1, r.2.1]
      rfl

set_option maxHeartbeats 4000000 in
theorem delete_Block (es : List AV) (i : Nat) (hi : i < es.length) (hl : es.length ≤ 1000000) :
    Told P T slices_Delete_api_Block_api_Block [.row t_api_Block es] [.ref 0, .int .i64 (i : Nat), .int .i64 ((i : Nat) + 1)] (.sub 0 0 (es.length - 1)) [.row t_api_Block (es.take i ++ (es.drop (i + 1) ++ [zeroE T t_api_Block]))] := by
  refine told_of_ev (fn := slices_Delete_api_Block_api_Block_fn) tabOk mixed (by kernel_rfl) (by kernel_rfl) (by kernel_rfl) (by kernel_rfl) ?_
  refine Cut.mk (by omega) (by omega) (by omega) ?_
  refine Need.mk (by omega) ?_
  refine IfB.ff (by simp; omega) ?_
  refine Cut.mk (by omega) (by omega) (by omega) ?_
  refine Cut.mk (by omega) (by omega) (by omega) ?_
  refine Need.mk (by simp; omega) ?_
  refine Sure.mk (by kernel_rfl) ?_
  refine Cut.mk (by omega) (by simp; omega) (by simp; omega) ?_
  have f0 : Int.toNat 0 = 0 := rfl
  have f1 : (((i : Nat) : Int) + 1).toNat = i + 1 := by omega
  have f2 : (es.drop (i + 1)).take (es.length - (i + 1)) = es.drop (i + 1) := List.take_of_length_le (by simp)
  have f3 : (es.drop (i + 1)).length = es.length - (i + 1) := by simp
  have f4 : i + (es.length - (i + 1)) = es.length - 1 := by omega
  have f5 : es.length - (es.length - 1) = 1 := by omega
  have f6 : es.length - 1 + 1 = es.length := by omega
  refine RetN.mk ⟨[], rfl, ?_, ?_⟩
  · show AV.sub 0 0 _ = AV.sub 0 0 _
    congr 1
    simp only [Int.toNat_natCast, f1, f2, f3, f0, Nat.sub_zero]
    omega
  · show [Blk.row t_api_Block _] = [Blk.row t_api_Block _]
    congr 2
    simp only [Int.toNat_natCast, f1, f2, f3, f0, Nat.sub_zero, Nat.zero_add, f4, f5, f6]
    have g1 : (es.take i ++ es.drop (i + 1)).length = es.length - 1 := by rw [List.length_append, List.length_take, f3]; omega
    have R : es.take i ++ (es.drop (i + 1) ++ es.drop (es.length - 1)) = (es.take i ++ es.drop (i + 1)) ++ es.drop (es.length - 1) := by simp
    have g3 : ((es.take i ++ es.drop (i + 1)) ++ es.drop (es.length - 1)).drop es.length = [] := List.drop_eq_nil_of_le (by rw [List.length_append, g1, List.length_drop]; omega)
    rw [R, List.take_append_of_le_length (by omega), List.take_of_length_le (by omega), g3, List.append_nil, List.append_assoc]
    rfl

end Go.Ev.W
namespace Go.Ev.W
open Go.Ev Go.Ev.N

/-- All that there is, its rows in blocks. -/
def eMr (c : Cf) (x : AV) (live peak mark : Int) (y z : AV) : AV := .agg [i64 c.G, i64 c.N, i64 c.M, i64 c.L, i64 c.Pg, i64 c.P, i64 c.H, i64 c.Sd, x, i64 live, i64 peak, i64 mark, y, z]
theorem zero_blk : zeroE T t_api_Block = eB ⟨0, 0, 0⟩ := rfl
theorem deleteB_told (l : List Bk) (i : Nat) (hi : i < l.length) (hl : l.length ≤ 1000000) :
    Told P T slices_Delete_api_Block_api_Block [.row t_api_Block (l.map eB)] [.ref 0, i64 (i : Nat), i64 ((i : Nat) + 1)] (.ref 1) [.dead, .row t_api_Block ((dropB l i).map eB)] := by
  have t := delete_Block (l.map eB) i (by simpa using hi) (by simpa using hl)
  have t := t.trim 0 (l.length - 1) rfl (by simp; omega) (by simp; omega) (fun _ => ⟨rfl, by simp⟩)
  have e : List.take (l.length - 1) ((l.map eB).take i ++ ((l.map eB).drop (i + 1) ++ [zeroE T t_api_Block])) = (dropB l i).map eB := by
    unfold dropB
    rw [List.map_append, List.map_take, List.map_drop, ← List.append_assoc, List.take_left']
    simp; omega
  rw [e] at t
  exact t
set_option maxHeartbeats 2000000 in
theorem goes_told {c : Cf} {bs : List Bk} {live peak mark : Int} {on mem : List AV} (hl : bs.length ≤ 1000000) (hlv : 0 ≤ live ∧ live ≤ 1000000) (hb : ∀ x ∈ bs, 0 ≤ x.c ∧ x.c ≤ 1000000) {i : Nat} (hi : i < bs.length) :
    Told P T plain_goes [.row t_api_Block (bs.map eB), .row t_bool on, .row t_uint8 mem] [eMr c (.ref 0) live peak mark (.ref 1) (.ref 2), i64 i]
      (eMr c (.ref 3) (live - bs[i].c) peak mark (.ref 1) (.ref 2)) [.dead, .row t_bool on, .row t_uint8 mem, .row t_api_Block ((dropB bs i).map eB)] := by
  have hml : (bs.map eB).length = bs.length := by simp
  have c1 := deleteB_told bs i hi hl
  have hbi := hb _ (List.getElem_mem hi)
  refine told_of_ev (fn := plain_goes_fn) tabOk mixed (by kernel_rfl) (by kernel_rfl) (by kernel_rfl) (by kernel_rfl) ?_
  (refine gw ?_)
  refine at_map (k := i) hi ?_
  (refine gw ?_; refine Choice.mk ⟨true, Choice.mk ⟨false, _, _, c1, ?_⟩⟩)
  (refine gw ?_)
  exact RetN.mk ⟨[8], rfl, rfl, rfl⟩
set_option maxHeartbeats 2000000 in
theorem twin_told {c : Cf} {live peak mark : Int} {bs on mem : List AV} (h1 : bs.length ≤ 1000000) (h2 : on.length ≤ 1000000) (h3 : mem.length ≤ 1000000) :
    Told P T plain_twin [] [eMr c (.lst t_api_Block bs) live peak mark (.lst t_bool on) (.lst t_uint8 mem)] (eMr c (.ref 0) live peak mark (.ref 1) (.ref 2)) [.row t_api_Block bs, .row t_bool on, .row t_uint8 mem] := by
  have c1 := clone_Block bs h1
  have c2 := clone_bool on h2
  have c3 := clone_byte mem h3
  refine told_of_ev (fn := plain_twin_fn) tabOk mixed (by kernel_rfl) (by kernel_rfl) (by kernel_rfl) (by kernel_rfl) ?_
  (refine gw ?_; refine Choice.mk ⟨false, Choice.mk ⟨false, _, _, c1, ?_⟩⟩)
  (refine gw ?_; refine Choice.mk ⟨false, Choice.mk ⟨false, _, _, c2, ?_⟩⟩)
  (refine gw ?_; refine Choice.mk ⟨false, Choice.mk ⟨false, _, _, c3, ?_⟩⟩)
  (refine gw ?_)
  exact RetN.mk ⟨[5,6,7], rfl, rfl, rfl⟩
end Go.Ev.W
namespace Go.Ev.W
open Go.Ev Go.Ev.N

/-- Where a block is put: behind those that begin below. -/
theorem lowB_free {H : Nat} {l : List Bk} (ha : ApB H l) {y : Int} {n : Int} (hn : 1 ≤ n) (hf : freeAt l n y = true) : ∀ k (h : k < l.length), l[k].a < y ↔ k < lowB y l := by
  intro k h
  have hb := ha.b _ (List.getElem_mem h)
  have hx := (freeAt_iff.1 hf) _ (List.getElem_mem h)
  constructor
  · intro h1
    rcases Nat.lt_or_ge k (lowB y l) with h2 | h2
    · exact h2
    · exfalso
      have h3 := lowB_ge (y := y) (l := l) (by omega)
      rcases Nat.lt_or_ge (lowB y l) k with h4 | h4
      · have := List.pairwise_iff_getElem.1 ha.p (lowB y l) k (by omega) h h4
        have := ha.b _ (List.getElem_mem (show lowB y l < l.length by omega))
        omega
      · have e : lowB y l = k := by omega
        simp only [e] at h3
        omega
  · intro h1
    have h2 := lowB_lt (y := y) h h1
    omega
structure PutIn (m : Mo) (n : Nat) (q : Int) : Prop where
  c : m.c.Ok
  a : ApB m.c.H m.bs
  l : m.live = totalB m.bs
  p : 0 ≤ m.peak ∧ m.peak ≤ m.c.H
  k : 0 ≤ m.mark ∧ m.mark ≤ m.c.H
  o : m.on.length = m.c.H / m.c.Pg
  mm : m.mem.length = m.c.H
  n1 : 1 ≤ n
  n2 : n ≤ m.c.N
theorem MoOk.putIn {m : Mo} (h : MoOk m) {n : Nat} {q : Int} (h1 : 1 ≤ n) (h2 : n ≤ m.c.N) : PutIn m n q := by
  have hc := h.c
  have hMH : m.c.M ≤ m.c.H := by have := hc.h; omega
  have ht := totalB_nonneg h.a
  have hl := h.l
  have hp := h.p
  have hk := h.k
  exact ⟨hc, h.a, hl, by omega, by omega, h.o, h.mm, h1, h2⟩
abbrev rK (l : List Bk) : Blk := .row t_api_Block (l.map eB)
abbrev rT (l : List Bool) : Blk := .row t_bool (l.map .bool)
abbrev rU (l : List Nat) : Blk := .row t_uint8 (l.map u8)
set_option maxHeartbeats 8000000 in
theorem putsNo_told {m : Mo} {n : Nat} {q : Int} (hi : PutIn m n q) (h : (placeF m m.bs n q).2.2 ≠ 0) : Told P T plain_puts [rK m.bs, rT m.on, rU m.mem] [eMr m.c (.ref 0) m.live m.peak m.mark (.ref 1) (.ref 2), i64 n, i64 q] (.tup [eM m, i64 0, i64 (placeF m m.bs n q).2.2]) [.fz t_api_Block (m.bs.map eB), .fz t_bool (m.on.map .bool), .fz t_uint8 (m.mem.map u8)] := by
  have hc := hi.c
  have ha := hi.a
  have hn := hi.n1
  have hN := hi.n2
  have hH := hc.h2
  have hNM := hc.nM
  have hMH : m.c.M ≤ m.c.H := by have := hc.h; omega
  have hlen := ha.len
  have hpg := hc.pgpos
  have c1 := plainLowest_told hc ha hn (by omega)
  have hsp := lowF_spec (c := m.c) (l := m.bs) hn
  unfold placeF at h ⊢
  simp only at h ⊢
  generalize lowF m.c m.bs n = R at *
  obtain ⟨y, ok⟩ := R
  refine told_of_ev (fn := plain_puts_fn) tabOk mixed (by kernel_rfl) (by kernel_rfl) (by kernel_rfl) (by kernel_rfl) ?_
  (refine gw ?_; refine Choice.mk ⟨false, Choice.mk ⟨true, _, _, c1, ?_⟩⟩)
  cases ok with
  | false =>
    rw [if_pos rfl]
    (refine gw ?_; exact RetN.fz ⟨[true, true, true], [], rfl, rfl, rfl⟩)
  | true =>
    obtain ⟨j, h1, h2, h3, h4⟩ := hsp rfl
    simp only at h1 h2 h3 h4 h ⊢
    rw [← h1] at h2
    rw [if_neg (by simp)] at h ⊢
    have hpa := hc.pages hn h2
    have hml : (metF m.c.Pg m.c.H m.bs).length = m.on.length := by rw [hi.o]; simp [metF]
    have hol : m.on.length ≤ 65536 := by have := hi.o; have := Nat.div_le_self m.c.H m.c.Pg; omega
    have c2 := pinPages_told (pg := m.c.Pg) (y := y) (n := n) hpg hn (by omega)
    have hpH : m.c.Pg ≤ m.c.H := by
      obtain ⟨k, hk⟩ := hc.pgH
      have : 1 ≤ k := by
        rcases Nat.eq_zero_or_pos k with h | h
        · subst h; omega
        · exact h
      rw [hk]; exact Nat.le_mul_of_pos_right _ this
    have c3 := pinMetR_told (pg := m.c.Pg) (size := m.c.H) hpg hH hpH (l := m.bs) (by omega) ha.b
    have c4 := commit_told (on := m.on) hml hol (f := y / m.c.Pg) (b := (y + n - 1) / m.c.Pg + 1) (most := m.c.P) hpa.1 (by rw [hi.o]; exact hpa.2) hc.b
    generalize commitF m.on (metF m.c.Pg m.c.H m.bs) (y / m.c.Pg) ((y + n - 1) / m.c.Pg + 1) m.c.P = C at *
    obtain ⟨on', fr, ok'⟩ := C
    (refine gw ?_; refine Choice.mk ⟨false, Choice.mk ⟨true, _, _, c2, ?_⟩⟩)
    (refine gw ?_; refine Choice.mk ⟨false, Choice.mk ⟨true, _, _, c3, ?_⟩⟩)
    (refine gw ?_)
    refine Need.mk ?_ ?_
    · intro x hx
      obtain ⟨v, _, rfl⟩ := List.mem_map.1 hx
      rfl
    (refine gw ?_; refine Choice.mk ⟨false, Choice.mk ⟨false, _, _, c4, ?_⟩⟩)
    cases ok' with
    | false =>
      rw [if_pos rfl]
      (refine gw ?_; exact RetN.fz ⟨[true, true, true], [], rfl, rfl, rfl⟩)
    | true =>
      rw [if_neg (by simp)] at h
      exact absurd rfl h
end Go.Ev.W
namespace Go.Ev.W
open Go.Ev Go.Ev.N

/-- The answer's variable, before it is written: of no matter. -/
def moU : AV := .agg [i64 0, i64 0, i64 0, i64 0, i64 0, i64 0, i64 0, i64 0, .und, i64 0, i64 0, i64 0, .und, .und]
/-- What puts leaves behind. -/
def PutsTo (m : Mo) (n : Nat) (q : Int) (z : Mo) (y : Int) : Prop :=
  Told P T plain_puts [rK m.bs, rT m.on, rU m.mem] [eMr m.c (.ref 0) m.live m.peak m.mark (.ref 1) (.ref 2), i64 n, i64 q] (.tup [eMr z.c (.ref 3) z.live z.peak z.mark (lT z.on) (.ref 2), i64 y, i64 0]) [.dead, .dead, rU z.mem, rK z.bs] ∨
  Told P T plain_puts [rK m.bs, rT m.on, rU m.mem] [eMr m.c (.ref 0) m.live m.peak m.mark (.ref 1) (.ref 2), i64 n, i64 q] (.tup [eMr z.c (.ref 3) z.live z.peak z.mark (lT z.on) (.ref 4), i64 y, i64 0]) [.dead, .dead, .dead, rK z.bs, rU z.mem]
set_option maxHeartbeats 16000000 in
theorem puts_told {m : Mo} {n : Nat} {q : Int} (hi : PutIn m n q) (h : (placeF m m.bs n q).2.2 = 0) : PutsTo m n q (placeF m m.bs n q).1 (placeF m m.bs n q).2.1 := by
  have hc := hi.c
  have ha := hi.a
  have hn := hi.n1
  have hN := hi.n2
  have hH := hc.h2
  have hNM := hc.nM
  have hMH : m.c.M ≤ m.c.H := by have := hc.h; omega
  have hlen := ha.len
  have hpg := hc.pgpos
  have c1 := plainLowest_told hc ha hn (by omega)
  have hsp := lowF_spec (c := m.c) (l := m.bs) hn
  unfold placeF at h ⊢
  simp only at h ⊢
  generalize lowF m.c m.bs n = R at *
  obtain ⟨y, ok⟩ := R
  cases ok with
  | false => simp at h
  | true =>
    obtain ⟨j, h1, h2, h3, h4⟩ := hsp rfl
    simp only at h1 h2 h3 h4 h ⊢
    rw [← h1] at h2
    rw [if_neg (by simp)] at h ⊢
    have hpa := hc.pages hn h2
    have hml : (metF m.c.Pg m.c.H m.bs).length = m.on.length := by rw [hi.o]; simp [metF]
    have hol : m.on.length ≤ 65536 := by have := hi.o; have := Nat.div_le_self m.c.H m.c.Pg; omega
    have c2 := pinPages_told (pg := m.c.Pg) (y := y) (n := n) hpg hn (by omega)
    have hpH : m.c.Pg ≤ m.c.H := by
      obtain ⟨k, hk⟩ := hc.pgH
      have : 1 ≤ k := by
        rcases Nat.eq_zero_or_pos k with h | h
        · subst h; omega
        · exact h
      rw [hk]; exact Nat.le_mul_of_pos_right _ this
    have c3 := pinMetR_told (pg := m.c.Pg) (size := m.c.H) hpg hH hpH (l := m.bs) (by omega) ha.b
    have c4 := commit_told (on := m.on) hml hol (f := y / m.c.Pg) (b := (y + n - 1) / m.c.Pg + 1) (most := m.c.P) hpa.1 (by rw [hi.o]; exact hpa.2) hc.b
    have hfr := commitF_eq m.on (metF m.c.Pg m.c.H m.bs) (y / m.c.Pg) ((y + n - 1) / m.c.Pg + 1) m.c.P
    generalize commitF m.on (metF m.c.Pg m.c.H m.bs) (y / m.c.Pg) ((y + n - 1) / m.c.Pg + 1) m.c.P = C at *
    obtain ⟨on', fr, ok'⟩ := C
    cases ok' with
    | false => simp at h
    | true =>
      rw [if_neg (by simp)]
      have hlb := lowB_free ha (y := y) (n := n) (by omega) h3
      have hput := putB_ok ha (b := ⟨y, n, q⟩) h3 (by simp; omega)
      have hfl : fr.length ≤ 65536 ∧ ∀ p ∈ fr, (p + 1) * m.c.Pg ≤ m.c.H := by
        split at hfr
        · simp at hfr
        · have e : fr = _ := congrArg (fun z : List Bool × List Nat × Bool => z.2.1) hfr
          simp only at e
          subst e
          refine ⟨Nat.le_trans (freshL_len _ _ _ _) hol, fun p hp => ?_⟩
          have hp := (List.mem_filter.1 hp).1
          have hp : p < m.on.length := by simpa using hp
          rw [hi.o] at hp
          exact (Nat.le_div_iff_mul_le (by omega)).1 hp
      have hfm : (fr.map fun n => i64 (n : Nat)).length = fr.length := by simp
      have hlbl := lowB_le (y : Int) m.bs
      have hmm := hi.mm
      have hbm : (m.bs.map eB).length = m.bs.length := by simp
      have c5 := insert_Block (m.bs.map eB) (eB ⟨y, n, q⟩) (lowB y m.bs) (by omega) (by omega)
      have e5 : (m.bs.map eB).take (lowB y m.bs) ++ (eB ⟨y, n, q⟩ :: (m.bs.map eB).drop (lowB y m.bs)) = (putB m.bs ⟨y, n, q⟩).map eB := by
        unfold putB; rw [List.map_append, List.map_take, List.map_cons, List.map_drop]
      rw [e5] at c5
      have htot := hput.2.2.1
      have htt := hput.1.tot
      have ht0 := totalB_nonneg ha
      have hlv := hi.l
      have hpk := hi.p
      have hmk := hi.k
      have emax : ∀ a b : Int, max a b = if b > a then b else a := fun a b => by split <;> omega
      have htot' : totalB (putB m.bs ⟨y, n, q⟩) = m.live + n := by rw [htot, hlv]
      have htt' : m.live + n ≤ m.c.H := by rw [← htot']; exact htt
      unfold PutsTo
      simp only [htot', emax]
      by_cases hfz : fr.length = 0
      · obtain rfl := List.eq_nil_of_length_eq_zero hfz
        left
        refine told_of_ev_drop (fn := plain_puts_fn) tabOk mixed (by kernel_rfl) (by kernel_rfl) (by kernel_rfl) (by kernel_rfl) ?_
        (refine gw ?_; refine Choice.mk ⟨false, Choice.mk ⟨true, _, _, c1, ?_⟩⟩)
        (refine gw ?_; refine Choice.mk ⟨false, Choice.mk ⟨true, _, _, c2, ?_⟩⟩)
        (refine gw ?_; refine Choice.mk ⟨false, Choice.mk ⟨true, _, _, c3, ?_⟩⟩)
        (refine gw ?_)
        refine Need.mk ?_ ?_
        · intro x hx
          obtain ⟨v, _, rfl⟩ := List.mem_map.1 hx
          rfl
        (refine gw ?_; refine Choice.mk ⟨false, Choice.mk ⟨false, _, _, c4, ?_⟩⟩)
        (refine gw ?_; refine LoopN.mk ⟨[1,2,3,6,9,13,60,61,62], fun vs L => vs = [i64 n, i64 q, .ptr 3 0 0, .ptr 4 0 0, i64 y, lT on', .lst t_int [], i64 0, i64 0] ∧ L = [rK m.bs, .fz t_bool (m.on.map .bool), rU m.mem, .var (eMr m.c (.ref 0) m.live m.peak m.mark (.ref 1) (.ref 2)), .var moU], fun vs L => match vs with | [_, _, _, _, _, _, _, _, .int _ i] => 0 - i.toNat | _ => 0, [], [3,4], rfl, ⟨rfl, rfl⟩, ?_⟩)
        rintro vs L ⟨rfl, rfl⟩
        (refine gw ?_)
        (refine gw ?_; refine LoopN.mk ⟨[1,2,3,6,9,17], fun vs L => ∃ k : Nat, vs = [i64 n, i64 q, .ptr 3 0 0, .ptr 4 0 0, i64 y, i64 k] ∧ L = [rK m.bs, .fz t_bool (m.on.map .bool), rU m.mem, .var (eMr m.c (.ref 0) m.live m.peak m.mark (lT on') (.ref 2)), .var moU] ∧ k ≤ lowB y m.bs, fun vs L => match vs with | [_, _, _, _, _, .int _ i] => lowB y m.bs - i.toNat | _ => 0, [], [3,4], rfl, ⟨0, rfl, rfl, by omega⟩, ?_⟩)
        rintro vs L ⟨k, rfl, rfl, hk⟩
        have hfin : ¬ (k < lowB y m.bs) → k = lowB y m.bs := fun h => by omega
        by_cases g1 : k < m.bs.length
        · have hkk := hlb k g1
          (refine gw ?_; refine IfB.tt (by simp; omega) ?_)
          (refine gw ?_)
          refine at_map (k := k) g1 ?_
          (refine gw ?_; first | refine IfB.dec (fun g2 => ?_) (fun g2 => ?_) | refine IfB.eq (fun g2 => ?_) (fun g2 => ?_) | refine IfB.ne (fun g2 => ?_) (fun g2 => ?_) | refine IfB.mk (fun g2 => ?_) (fun g2 => ?_))
          · (refine gw ?_; refine ⟨[], [3,4], rfl, ⟨k + 1, rfl, rfl, by omega⟩, (by omega : lowB y m.bs - ((k : Int) + 1).toNat < lowB y m.bs - (k : Int).toNat)⟩)
          · obtain rfl := hfin (by omega)
            (refine gw ?_; refine Choice.mk ⟨true, Choice.mk ⟨false, _, _, c5, ?_⟩⟩)
            (refine gw ?_)
            exact RetN.mk ⟨[6], rfl, rfl, .inr rfl, .inr rfl, .inl rfl, .inl rfl, trivial⟩
        · obtain rfl := hfin (by omega)
          (refine gw ?_; refine IfB.ff (by simp; omega) ?_)
          (refine gw ?_; refine Choice.mk ⟨true, Choice.mk ⟨false, _, _, c5, ?_⟩⟩)
          (refine gw ?_)
          exact RetN.mk ⟨[6], rfl, rfl, .inr rfl, .inr rfl, .inl rfl, .inl rfl, trivial⟩
      · right
        have hfk := fun k => fills_len m.c.Sd m.c.Pg (fr.take k) m.mem
        refine told_of_ev_drop (fn := plain_puts_fn) tabOk mixed (by kernel_rfl) (by kernel_rfl) (by kernel_rfl) (by kernel_rfl) ?_
        (refine gw ?_; refine Choice.mk ⟨false, Choice.mk ⟨true, _, _, c1, ?_⟩⟩)
        (refine gw ?_; refine Choice.mk ⟨false, Choice.mk ⟨true, _, _, c2, ?_⟩⟩)
        (refine gw ?_; refine Choice.mk ⟨false, Choice.mk ⟨true, _, _, c3, ?_⟩⟩)
        (refine gw ?_)
        refine Need.mk ?_ ?_
        · intro x hx
          obtain ⟨v, _, rfl⟩ := List.mem_map.1 hx
          rfl
        (refine gw ?_; refine Choice.mk ⟨false, Choice.mk ⟨false, _, _, c4, ?_⟩⟩)
        (refine gw ?_; refine LoopN.mk ⟨[1,2,3,6,9,13,60,61,62], fun vs L => ∃ k : Nat, vs = [i64 n, i64 q, .ptr 3 0 0, .ptr 4 0 0, i64 y, lT on', .lst t_int (fr.map fun n => i64 (n : Nat)), i64 fr.length, i64 k] ∧ k ≤ fr.length ∧ ((k = 0 ∧ L = [rK m.bs, .fz t_bool (m.on.map .bool), rU m.mem, .var (eMr m.c (.ref 0) m.live m.peak m.mark (.ref 1) (.ref 2)), .var moU]) ∨ (0 < k ∧ L = [rK m.bs, .fz t_bool (m.on.map .bool), .fz t_uint8 (m.mem.map u8), .var (eMr m.c (.ref 0) m.live m.peak m.mark (.ref 1) (.ref 5)), .var moU, rU ((fr.take k).foldl (fun mem p => fillF mem m.c.Sd p m.c.Pg) m.mem)])), fun vs L => match vs with | [_, _, _, _, _, _, _, _, .int _ i] => fr.length - i.toNat | _ => 0, [], [3,4], rfl, ⟨0, by rw [← hfm]; rfl, by omega, .inl ⟨rfl, rfl⟩⟩, ?_⟩)
        rintro vs L ⟨k, rfl, hk, hL⟩
        by_cases hkf : k < fr.length
        · have hsu := fills_succ m.c.Sd m.c.Pg m.mem hkf
          have c6 := junkFillR_told (mem := (fr.take k).foldl (fun mem p => fillF mem m.c.Sd p m.c.Pg) m.mem) (by rw [hfk]; omega) (seed := m.c.Sd) (page := fr[k]) (size := m.c.Pg) hpg (by rw [hfk, hmm]; exact hfl.2 _ (List.getElem_mem hkf))
          rw [← hsu] at c6
          rcases hL with ⟨rfl, rfl⟩ | ⟨hk0, rfl⟩
          · have c6 : Told P T junk_Fill [] [lU m.mem, i64 m.c.Sd, i64 fr[0], i64 m.c.Pg] _ _ := c6
            (refine gw ?_; refine IfB.tt (by simp; omega) ?_)
            (refine gw ?_; refine idx_map (hkf) ?_)
            (refine gw ?_; refine Choice.mk ⟨false, Choice.mk ⟨false, _, _, c6, ?_⟩⟩)
            (refine gw ?_; refine ⟨[], [3,4,5], rfl, ⟨1, rfl, by omega, .inr ⟨by omega, rfl⟩⟩, (by omega : fr.length - ((0 : Int) + 1).toNat < fr.length - (0 : Int).toNat)⟩)
          · (refine gw ?_; refine IfB.tt (by simp; omega) ?_)
            (refine gw ?_; refine idx_map (hkf) ?_)
            (refine gw ?_; refine Choice.mk ⟨false, Choice.mk ⟨false, _, _, c6, ?_⟩⟩)
            (refine gw ?_; refine ⟨[], [3,4,6], rfl, ⟨k + 1, rfl, by omega, .inr ⟨by omega, rfl⟩⟩, (by omega : fr.length - ((k : Int) + 1).toNat < fr.length - (k : Int).toNat)⟩)
        · have e : k = fr.length := by omega
          subst e
          rcases hL with ⟨h, _⟩ | ⟨hk0, rfl⟩
          · omega
          · rw [List.take_length]
            (refine gw ?_; refine LoopN.mk ⟨[1,2,3,6,9,17], fun vs L => ∃ k : Nat, vs = [i64 n, i64 q, .ptr 3 0 0, .ptr 4 0 0, i64 y, i64 k] ∧ L = [rK m.bs, .fz t_bool (m.on.map .bool), .fz t_uint8 (m.mem.map u8), .var (eMr m.c (.ref 0) m.live m.peak m.mark (lT on') (.ref 5)), .var moU, rU (fr.foldl (fun mem p => fillF mem m.c.Sd p m.c.Pg) m.mem)] ∧ k ≤ lowB y m.bs, fun vs L => match vs with | [_, _, _, _, _, .int _ i] => lowB y m.bs - i.toNat | _ => 0, [], [3,4,5], rfl, ⟨0, rfl, rfl, by omega⟩, ?_⟩)
            rintro vs L ⟨k, rfl, rfl, hk⟩
            have hfin : ¬ (k < lowB y m.bs) → k = lowB y m.bs := fun h => by omega
            by_cases g1 : k < m.bs.length
            · have hkk := hlb k g1
              (refine gw ?_; refine IfB.tt (by simp; omega) ?_)
              (refine gw ?_)
              refine at_map (k := k) g1 ?_
              (refine gw ?_; first | refine IfB.dec (fun g2 => ?_) (fun g2 => ?_) | refine IfB.eq (fun g2 => ?_) (fun g2 => ?_) | refine IfB.ne (fun g2 => ?_) (fun g2 => ?_) | refine IfB.mk (fun g2 => ?_) (fun g2 => ?_))
              · (refine gw ?_; refine ⟨[], [3,4,5], rfl, ⟨k + 1, rfl, rfl, by omega⟩, (by omega : lowB y m.bs - ((k : Int) + 1).toNat < lowB y m.bs - (k : Int).toNat)⟩)
              · obtain rfl := hfin (by omega)
                (refine gw ?_; refine Choice.mk ⟨true, Choice.mk ⟨false, _, _, c5, ?_⟩⟩)
                (refine gw ?_)
                exact RetN.mk ⟨[7, 5], rfl, rfl, .inr rfl, .inr rfl, .inr rfl, .inl rfl, .inl rfl, trivial⟩
            · obtain rfl := hfin (by omega)
              (refine gw ?_; refine IfB.ff (by simp; omega) ?_)
              (refine gw ?_; refine Choice.mk ⟨true, Choice.mk ⟨false, _, _, c5, ?_⟩⟩)
              (refine gw ?_)
              exact RetN.mk ⟨[7, 5], rfl, rfl, .inr rfl, .inr rfl, .inr rfl, .inl rfl, .inl rfl, trivial⟩
end Go.Ev.W
namespace Go.Ev.W
open Go.Ev Go.Ev.N

/-- What is told of what was let in, or not. -/
def asksF (m : Mo) (ce : Nat × Nat) (q : Int) (f : Mo × Int × Nat → Mo) : Mo × An :=
  if ce.2 ≠ 0 then (m, anE ce.2) else if (placeF m m.bs ce.1 q).2.2 ≠ 0 then (m, anE (placeF m m.bs ce.1 q).2.2) else (f (placeF m m.bs ce.1 q), { an0 with at' := (placeF m m.bs ce.1 q).2.1 })
theorem class_bd {c : Cf} (hc : c.Ok) : ∀ ch, (∃ k, k ≤ c.L ∧ ch = c.G * 2 ^ k) → 1 ≤ ch ∧ ch ≤ c.N := fun ch ⟨k, h1, h2⟩ => by
  rw [h2, hc.n]
  exact ⟨Nat.mul_pos hc.gpos (Nat.two_pow_pos _), Nat.mul_le_mul_left _ (Nat.pow_le_pow_right (by omega) h1)⟩
set_option maxRecDepth 20000 in
set_option maxHeartbeats 4000000 in
theorem aligned_told {m : Mo} (hm : MoOk m) {s a : Int} (ha : a ≤ 9223372036854775807) : Told P T plain_aligned [rK m.bs, rT m.on, rU m.mem] [eMr m.c (.ref 0) m.live m.peak m.mark (.ref 1) (.ref 2), i64 s, i64 a] (.tup [eM (asksF m (newF m.c m.live s a) s (·.1)).1, eA (asksF m (newF m.c m.live s a) s (·.1)).2]) [.dead, .dead, .dead] := by
  have hH := hm.c.h2
  have hMH : m.c.M ≤ m.c.H := by have := hm.c.h; omega
  have htb := totalB_nonneg hm.a
  have hlive : 0 ≤ m.live ∧ m.live ≤ 1000000 := by have := hm.l; have := hm.lM; omega
  have c1 := admitNew_told hm.c m.live s a hlive ha
  have n1 := newF_ok hm.c (live := m.live) (s := s) (a := a)
  unfold asksF
  generalize newF m.c m.live s a = C at *
  obtain ⟨ch, e⟩ := C
  refine told_of_ev_drop (fn := plain_aligned_fn) tabOk mixed (by kernel_rfl) (by kernel_rfl) (by kernel_rfl) (by kernel_rfl) ?_
  (refine gw ?_; refine Choice.mk ⟨false, Choice.mk ⟨true, _, _, c1, ?_⟩⟩)
  by_cases he : e = 0
  · subst he
    obtain ⟨hch, hq1, hq2, hq3⟩ := n1 rfl
    obtain ⟨hc1, hc2⟩ := class_bd hm.c ch hch
    have hpi := hm.putIn (q := s) hc1 hc2
    have t1 := putsNo_told hpi
    have t2 := puts_told hpi
    simp only [ne_eq, not_true_eq_false, if_false]
    generalize placeF m m.bs ch s = C2 at *
    obtain ⟨m2, y2, e2⟩ := C2
    by_cases he2 : e2 = 0
    · subst he2
      simp only [ne_eq, not_true_eq_false, if_false]
      rcases t2 rfl with t | t
      · (refine gw ?_; refine Choice.mk ⟨true, Choice.mk ⟨false, _, _, t, ?_⟩⟩)
        (refine gw ?_)
        exact RetN.fz ⟨[true, true], [], rfl, rfl, .inr rfl, .inr rfl, .inr rfl, trivial⟩
      · (refine gw ?_; refine Choice.mk ⟨true, Choice.mk ⟨false, _, _, t, ?_⟩⟩)
        (refine gw ?_)
        exact RetN.fz ⟨[true, true], [], rfl, rfl, .inr rfl, .inr rfl, .inr rfl, trivial⟩
    · simp only [ne_eq, he2, not_false_eq_true, if_true]
      have t1 := t1 he2
      (refine gw ?_; refine Choice.mk ⟨true, Choice.mk ⟨false, _, _, t1, ?_⟩⟩)
      (refine gw ?_)
      exact RetN.fz ⟨[true, true], [], rfl, rfl, .inr rfl, .inr rfl, .inr rfl, trivial⟩
  · simp only [ne_eq, he, not_false_eq_true, if_true]
    (refine gw ?_; refine IfB.tt (by simpa using he) ?_)
    (refine gw ?_)
    exact RetN.fz ⟨[true, true], [], rfl, rfl, .inr rfl, .inr rfl, .inr rfl, trivial⟩
set_option maxRecDepth 20000 in
set_option maxHeartbeats 4000000 in
theorem calloc_told {m : Mo} (hm : MoOk m) {n s : Int} (hn : -9223372036854775808 ≤ n ∧ n ≤ 9223372036854775807) (hs : -9223372036854775808 ≤ s ∧ s ≤ 9223372036854775807) :
    Told P T plain_calloc [rK m.bs, rT m.on, rU m.mem] [eMr m.c (.ref 0) m.live m.peak m.mark (.ref 1) (.ref 2), i64 n, i64 s] (.tup [eM (asksF m (manyF m.c m.live n s) (n * s) (fun p => { p.1 with mem := zeroF p.1.mem p.2.1.toNat (manyF m.c m.live n s).1 })).1, eA (asksF m (manyF m.c m.live n s) (n * s) (fun p => { p.1 with mem := zeroF p.1.mem p.2.1.toNat (manyF m.c m.live n s).1 })).2]) [.dead, .dead, .dead] := by
  have hH := hm.c.h2
  have hMH : m.c.M ≤ m.c.H := by have := hm.c.h; omega
  have hNM := hm.c.nM
  have htb := totalB_nonneg hm.a
  have hlive : 0 ≤ m.live ∧ m.live ≤ 1000000 := by have := hm.l; have := hm.lM; omega
  have c1 := admitMany_told hm.c m.live n s hlive hn hs
  have c0 := classProd_told (c := m.c) (by omega) n s hn hs
  have n0 := prodF_ok (c := m.c) (n := n) (s := s)
  have n1 := manyF_ok hm.c (live := m.live) (n := n) (s := s)
  have n2 : (manyF m.c m.live n s).2 = 0 → (prodF m.c n s).2 = 0 := fun h => by
    unfold manyF at h
    split at h
    · rename_i h1; exact absurd h h1
    · rename_i h1; simpa using h1
  unfold asksF
  generalize manyF m.c m.live n s = C at *
  obtain ⟨ch, e⟩ := C
  refine told_of_ev_drop (fn := plain_calloc_fn) tabOk mixed (by kernel_rfl) (by kernel_rfl) (by kernel_rfl) (by kernel_rfl) ?_
  (refine gw ?_; refine Choice.mk ⟨false, Choice.mk ⟨true, _, _, c1, ?_⟩⟩)
  by_cases he : e = 0
  · subst he
    obtain ⟨hch, hq1, hq2, hq3, hq4⟩ := n1 rfl
    have hp := n0 (n2 rfl)
    have e0 : i64 ((prodF m.c n s).1 : Nat) = i64 (n * s) := by rw [hp.2.2.2]
    rw [e0] at c0
    obtain ⟨hc1, hc2⟩ := class_bd hm.c ch hch
    have hpi := hm.putIn (q := n * s) hc1 hc2
    have t1 := putsNo_told hpi
    have t2 := puts_told hpi
    have n2 := placeF_ok hm hm.a hm.z hch ⟨hq1, hq2⟩ (by rw [← hm.l]; exact hq3) hm.k.1
    simp only [ne_eq, not_true_eq_false, if_false]
    (refine gw ?_; refine Choice.mk ⟨false, Choice.mk ⟨true, _, _, c0, ?_⟩⟩)
    generalize placeF m m.bs ch (n * s) = C2 at *
    obtain ⟨m2, y2, e2⟩ := C2
    by_cases he2 : e2 = 0
    · subst he2
      have n3 : Put m m.bs ch (n * s) m2 y2 := n2 rfl
      have hy := n3.y0
      have hy2 := n3.yH
      have hml := n3.ml
      have hmm := hm.mm
      have c4 := memZero_told (mem := m2.mem) (by omega) (a := y2.toNat) (n := ch) (by omega)
      rw [Int.toNat_of_nonneg hy] at c4
      simp only [ne_eq, not_true_eq_false, if_false]
      rcases t2 rfl with t | t
      · (refine gw ?_; refine Choice.mk ⟨true, Choice.mk ⟨false, _, _, t, ?_⟩⟩)
        (refine gw ?_; refine Choice.mk ⟨false, Choice.mk ⟨false, _, _, c4, ?_⟩⟩)
        (refine gw ?_)
        exact RetN.fz ⟨[true, true], [], rfl, rfl, .inr rfl, .inr rfl, .inr rfl, trivial⟩
      · (refine gw ?_; refine Choice.mk ⟨true, Choice.mk ⟨false, _, _, t, ?_⟩⟩)
        (refine gw ?_; refine Choice.mk ⟨false, Choice.mk ⟨false, _, _, c4, ?_⟩⟩)
        (refine gw ?_)
        exact RetN.fz ⟨[true, true], [], rfl, rfl, .inr rfl, .inr rfl, .inr rfl, trivial⟩
    · simp only [ne_eq, he2, not_false_eq_true, if_true]
      have t1 := t1 he2
      (refine gw ?_; refine Choice.mk ⟨true, Choice.mk ⟨false, _, _, t1, ?_⟩⟩)
      (refine gw ?_; refine IfB.tt (by simpa using he2) ?_)
      (refine gw ?_)
      exact RetN.fz ⟨[true, true], [], rfl, rfl, .inr rfl, .inr rfl, .inr rfl, trivial⟩
  · simp only [ne_eq, he, not_false_eq_true, if_true]
    (refine gw ?_; refine IfB.tt (by simpa using he) ?_)
    (refine gw ?_)
    exact RetN.fz ⟨[true, true], [], rfl, rfl, .inr rfl, .inr rfl, .inr rfl, trivial⟩
end Go.Ev.W
namespace Go.Ev.W
open Go.Ev Go.Ev.N

theorem min_lt {c : Cf} : True := trivial
set_option maxRecDepth 20000 in
set_option maxHeartbeats 8000000 in
theorem realloc_told {m : Mo} (hm : MoOk m) {o : X.O} (ho : OpOk o) {i : Nat} (hi : i < m.bs.length) (hk : o.k = 4) : Told P T plain_realloc [rK m.bs, rT m.on, rU m.mem] [eMr m.c (.ref 0) m.live m.peak m.mark (.ref 1) (.ref 2), i64 i, i64 o.s] (.tup [eM (ofB m o i).1, eA (ofB m o i).2]) [.dead, .dead, .dead] := by
  have hH := hm.c.h2
  have hNM := hm.c.nM
  have hMH : m.c.M ≤ m.c.H := by have := hm.c.h; omega
  have htb := totalB_nonneg hm.a
  have hlen := hm.a.len
  have hlive : 0 ≤ m.live ∧ m.live ≤ 65536 := by have := hm.l; have := hm.lM; omega
  have hml : (m.bs.map eB).length = m.bs.length := by simp
  have hmu : (m.mem.map u8).length = m.c.H := by rw [List.length_map]; exact hm.mm
  have hmm := hm.mm
  have hmo : (m.on.map AV.bool).length ≤ 65536 := by rw [List.length_map]; have := hm.o; have := Nat.div_le_self m.c.H m.c.Pg; omega
  have hsr := ho.s
  have hb := hm.a.b _ (List.getElem_mem hi)
  have hdt := dropB_tot hi
  have hds := dropB_sub m.bs i
  have had := hm.a.sub hds
  have hdn := totalB_nonneg had
  have hg : m.bs.getD i bk0 = m.bs[i] := by simp [List.getD_eq_getElem?_getD, hi]
  have hl := hm.l
  have hpk := hm.p
  have hmk := hm.k
  have c1 := admitAnew_told hm.c m.live m.bs[i].c o.s (by omega)
  have n1 := newF_ok hm.c (live := m.live - m.bs[i].c) (s := o.s) (a := 1)
  have c2 := twin_told (c := m.c) (live := m.live) (peak := m.peak) (mark := m.mark) (bs := m.bs.map eB) (on := m.on.map .bool) (mem := m.mem.map u8) (by omega) (by omega) (by omega)
  have c3 := goes_told (c := m.c) (live := m.live) (peak := m.peak) (mark := m.mark) (bs := m.bs) (on := m.on.map .bool) (mem := m.mem.map u8) (by omega) (by omega) (fun x hx => by have := hm.a.b x hx; omega) hi
  unfold ofB
  simp only []
  rw [hg, if_pos hk]
  generalize newF m.c (m.live - m.bs[i].c) o.s 1 = C at *
  obtain ⟨ch, e⟩ := C
  refine told_of_ev_drop (fn := plain_realloc_fn) tabOk mixed (by kernel_rfl) (by kernel_rfl) (by kernel_rfl) (by kernel_rfl) ?_
  (refine gw ?_)
  refine at_map (k := i) hi ?_
  (refine gw ?_; refine Choice.mk ⟨false, Choice.mk ⟨true, _, _, c1, ?_⟩⟩)
  by_cases he : e = 0
  · subst he
    obtain ⟨hch, hq1, hq2, hq3⟩ := n1 rfl
    obtain ⟨hc1, hc2⟩ := class_bd hm.c ch hch
    have hpi : PutIn { m with bs := dropB m.bs i, live := m.live - m.bs[i].c } ch o.s := ⟨hm.c, had, by rw [hdt, ← hl], by simp only; omega, by simp only; omega, hm.o, hm.mm, hc1, hc2⟩
    have t1 := putsNo_told hpi
    have t2 := puts_told hpi
    have n2 := placeF_ok hm had (fun x hx => hm.z x (hds.subset hx)) hch ⟨hq1, hq2⟩ (by rw [hdt, ← hl]; exact hq3) (fun x hx => hm.k.1 x (hds.subset hx))
    have ePl : (placeF { m with bs := dropB m.bs i, live := m.live - m.bs[i].c } (dropB m.bs i) ch o.s).2 = (placeF m (dropB m.bs i) ch o.s).2 ∧ ((placeF { m with bs := dropB m.bs i, live := m.live - m.bs[i].c } (dropB m.bs i) ch o.s).2.2 = 0 → (placeF { m with bs := dropB m.bs i, live := m.live - m.bs[i].c } (dropB m.bs i) ch o.s).1 = (placeF m (dropB m.bs i) ch o.s).1) := by
      unfold placeF
      simp only
      split
      · exact ⟨rfl, fun h => by simp at h⟩
      · split
        · exact ⟨rfl, fun h => by simp at h⟩
        · exact ⟨rfl, fun _ => rfl⟩
    obtain ⟨e1, e2⟩ := ePl
    rw [show ({ m with bs := dropB m.bs i, live := m.live - m.bs[i].c } : Mo).bs = dropB m.bs i from rfl] at t1 t2
    rw [e1] at t1 t2 e2
    simp only [ne_eq, not_true_eq_false, if_false]
    (refine gw ?_; refine Choice.mk ⟨false, Choice.mk ⟨false, _, _, c2, ?_⟩⟩)
    (refine gw ?_; refine Choice.mk ⟨true, Choice.mk ⟨false, _, _, c3, ?_⟩⟩)
    by_cases he2 : (placeF m (dropB m.bs i) ch o.s).2.2 = 0
    · rw [e2 he2] at t2
      have t3 := t2 he2
      have n3 := n2 he2
      clear t1 e1 e2 t2 n2
      generalize placeF m (dropB m.bs i) ch o.s = C2 at *
      obtain ⟨m2, y2, e2⟩ := C2
      simp only at he2 t3 n3
      subst he2
      simp only [not_true_eq_false, if_false]
      have hy := n3.y0
      have hy2 := n3.yH
      have hml2 := n3.ml
      have hu2 : (m2.mem.map u8).length = m.c.H := by rw [List.length_map]; omega
      have emin : ∀ a b : Int, min a b = if b < a then b else a := fun a b => by split <;> omega
      obtain ⟨y, rfl⟩ : ∃ y : Nat, y2 = ((y : Nat) : Int) := ⟨y2.toNat, by omega⟩
      rw [emin]
      obtain ⟨N, hN, hN1, hN2⟩ : ∃ N : Nat, (if m.bs[i].c < (ch : Int) then m.bs[i].c else (ch : Int)) = ((N : Nat) : Int) ∧ N ≤ ch ∧ ((N : Nat) : Int) ≤ m.bs[i].c := ⟨(if m.bs[i].c < (ch : Int) then m.bs[i].c else (ch : Int)).toNat, by split <;> omega, by split <;> omega, by split <;> omega⟩
      have hN' : (if (ch : Int) < m.bs[i].c then (ch : Int) else m.bs[i].c) = ((N : Nat) : Int) := by rw [← hN]; split <;> split <;> omega
      rw [hN]
      have hX : lU (m2.mem.take ((y : Nat) : Int).toNat ++ (m.mem.take (m.bs[i].a + ((N : Nat) : Int)).toNat).drop m.bs[i].a.toNat ++ m2.mem.drop (((y : Nat) : Int) + ((N : Nat) : Int)).toNat) =
          .lst t_uint8 ((m2.mem.map u8).take ((y : Nat) : Int).toNat ++ (List.take (min (((m.mem.map u8).take (m.bs[i].a + ((N : Nat) : Int)).toNat).drop m.bs[i].a.toNat).length ((((m2.mem.map u8).length : Nat) : Int).toNat - ((y : Nat) : Int).toNat)) (((m.mem.map u8).take (m.bs[i].a + ((N : Nat) : Int)).toNat).drop m.bs[i].a.toNat) ++ (m2.mem.map u8).drop (((y : Nat) : Int).toNat + min (((m.mem.map u8).take (m.bs[i].a + ((N : Nat) : Int)).toNat).drop m.bs[i].a.toNat).length ((((m2.mem.map u8).length : Nat) : Int).toNat - ((y : Nat) : Int).toNat)))) := by
        have g1 : (((m.mem.map u8).take (m.bs[i].a + ((N : Nat) : Int)).toNat).drop m.bs[i].a.toNat).length = N := by rw [List.length_drop, List.length_take, hmu]; omega
        have g2 : min N ((((m2.mem.map u8).length : Nat) : Int).toNat - ((y : Nat) : Int).toNat) = N := by rw [hu2]; omega
        have g4 : List.take N (((m.mem.map u8).take (m.bs[i].a + ((N : Nat) : Int)).toNat).drop m.bs[i].a.toNat) = ((m.mem.map u8).take (m.bs[i].a + ((N : Nat) : Int)).toNat).drop m.bs[i].a.toNat := List.take_of_length_le (by rw [g1]; exact Nat.le_refl _)
        rw [g1, g2, g4]
        have g3 : (((y : Nat) : Int) + ((N : Nat) : Int)).toNat = y + N := by omega
        unfold lU
        rw [g3, Int.toNat_natCast]
        simp only [List.map_append, List.map_take, List.map_drop, List.append_assoc]
      rcases t3 with t | t
      · (refine gw ?_; refine Choice.mk ⟨true, Choice.mk ⟨false, _, _, t, ?_⟩⟩)
        (refine gw ?_; refine Cut.mk (by first | omega | (simp; omega) | (simp <;> fail)) (by first | omega | (simp; omega) | (simp <;> fail)) (by first | omega | (simp; omega) | (simp <;> fail)) ?_)
        (refine gw ?_)
        rw [hN']
        (refine gw ?_; refine Cut.mk (by first | omega | (simp; omega) | (simp <;> fail)) (by first | omega | (simp; omega) | (simp <;> fail)) (by first | omega | (simp; omega) | (simp <;> fail)) ?_)
        (refine gw ?_)
        refine RetN.fz ⟨[true, true], [], rfl, ?_, .inr rfl, .inr rfl, .inr rfl, trivial⟩
        refine Eq.trans ?_ (congrArg (fun z => AV.tup [AV.agg [i64 m2.c.G, i64 m2.c.N, i64 m2.c.M, i64 m2.c.L, i64 m2.c.Pg, i64 m2.c.P, i64 m2.c.H, i64 m2.c.Sd, lK m2.bs, i64 m2.live, i64 m2.peak, i64 m2.mark, lT m2.on, z], eA { an0 with at' := ((y : Nat) : Int) }]) hX.symm)
        rfl
      · (refine gw ?_; refine Choice.mk ⟨true, Choice.mk ⟨false, _, _, t, ?_⟩⟩)
        (refine gw ?_; refine Cut.mk (by first | omega | (simp; omega) | (simp <;> fail)) (by first | omega | (simp; omega) | (simp <;> fail)) (by first | omega | (simp; omega) | (simp <;> fail)) ?_)
        (refine gw ?_)
        rw [hN']
        (refine gw ?_; refine Cut.mk (by first | omega | (simp; omega) | (simp <;> fail)) (by first | omega | (simp; omega) | (simp <;> fail)) (by first | omega | (simp; omega) | (simp <;> fail)) ?_)
        (refine gw ?_)
        refine RetN.fz ⟨[true, true], [], rfl, ?_, .inr rfl, .inr rfl, .inr rfl, trivial⟩
        refine Eq.trans ?_ (congrArg (fun z => AV.tup [AV.agg [i64 m2.c.G, i64 m2.c.N, i64 m2.c.M, i64 m2.c.L, i64 m2.c.Pg, i64 m2.c.P, i64 m2.c.H, i64 m2.c.Sd, lK m2.bs, i64 m2.live, i64 m2.peak, i64 m2.mark, lT m2.on, z], eA { an0 with at' := ((y : Nat) : Int) }]) hX.symm)
        rfl
    · have t1 := t1 he2
      simp only [he2, not_false_eq_true, if_true]
      (refine gw ?_; refine Choice.mk ⟨true, Choice.mk ⟨false, _, _, t1, ?_⟩⟩)
      (refine gw ?_; refine IfB.tt (by simpa using he2) ?_)
      (refine gw ?_)
      exact RetN.fz ⟨[true, true], [], rfl, rfl, .inr rfl, .inr rfl, .inr rfl, trivial⟩
  · simp only [ne_eq, he, not_false_eq_true, if_true]
    (refine gw ?_; refine IfB.tt (by simpa using he) ?_)
    (refine gw ?_)
    exact RetN.fz ⟨[true, true], [], rfl, rfl, .inr rfl, .inr rfl, .inr rfl, trivial⟩
end Go.Ev.W
