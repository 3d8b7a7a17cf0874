/- Words and lemmas, part 10, for laws of this seat (a part of their proofs). -/
import Derived.Test.YtdnelcadmoeeiaaGreatE4
import Derived.Test.YtdnelcadmoeeiaaGreatE7
import Derived.Test.YtdnelcadmoeeiaaGreatE8
import Derived.Test.YtdnelcadmoeeiaaGreatE9
import Derived.Test.YtdnelcadmoeeiaaGreatNm
import Derived.Test.YtdnelcadmoeeiaaGreatEvOpen
import Derived.Test.YtdnelcadmoeeiaaGreatEvLib
import Derived.Test.YtdnelcadmoeeiaaGreatEvGrid
import Derived.Test.YtdnelcadmoeeiaaGreatEvTrim
set_option linter.unusedVariables false
set_option linter.unusedSimpArgs false
namespace Go.Ev.W
open Go.Ev Go.Ev.N

/-- A heap lies as the plain one says. -/
structure Hr (m : Mo) (s : Hs) : Prop where
  b : Hb m.c m.bs s.b s.m s.ds s.met
  live : s.live = m.live
  peak : s.peak = m.peak
  mark : s.mark = m.mark
  on : s.on = m.on
  mem : s.mem = m.mem
theorem Hr.ok {m : Mo} {s : Hs} (h : Hr m s) (hm : MoOk m) : HsOk m.c (m.c.H / m.c.G) (m.c.L + 1) s := by
  have hl := hm.l
  have hlM := hm.lM
  have ht := totalB_nonneg hm.a
  have hMH : m.c.M ≤ m.c.H := by have := hm.c.h; omega
  have hH := hm.c.h2
  exact h.b.ok hm.c hm.a hm.z (by rw [h.on]; exact hm.o) (by rw [h.mem]; exact hm.mm) (by rw [h.live]; omega)
theorem pagesF_met {c : Cf} {l : List Bk} {b : Nat → Bool} {m : List M} {ds : List Bk} {met : List Int} (h : Hb c l b m ds met) : pagesF met = metF c.Pg c.H l := by
  rw [h.met]
  unfold pagesF metF
  rw [List.map_map]
  refine List.map_congr_left fun i _ => ?_
  show decide (nmet c.Pg l i > 0) = _
  unfold nmet
  apply Bool.eq_iff_iff.2
  rw [decide_eq_true_eq, List.any_eq_true]
  have : (((l.countP fun k => ovr (i * c.Pg : Nat) c.Pg k.a k.c : Nat) : Int) > 0) ↔ 0 < l.countP fun k => ovr (i * c.Pg : Nat) c.Pg k.a k.c := by omega
  rw [this, List.countP_pos_iff]
theorem puts_rel {m : Mo} {l : List Bk} {s : Hs} (hc : m.c.Ok) (ha : ApB m.c.H l) (hz : ∀ x ∈ l, SzB m.c x) (hb : Hb m.c l s.b s.m s.ds s.met) (h1 : s.live = totalB l) (h2 : s.peak = m.peak) (h3 : s.mark = m.mark) (h4 : s.on = m.on) (h5 : s.mem = m.mem) {k : Nat} (hk : k ≤ m.c.L) (q : Int) :
    (putsF m.c (m.c.H / m.c.G) (m.c.L + 1) s k q).2 = (placeF m l (m.c.G * 2 ^ k) q).2 ∧ ((placeF m l (m.c.G * 2 ^ k) q).2.2 = 0 → Hr (placeF m l (m.c.G * 2 ^ k) q).1 (putsF m.c (m.c.H / m.c.G) (m.c.L + 1) s k q).1) := by
  have hlow := hb.low hc ha hz hk
  have hpm := pagesF_met hb
  unfold putsF placeF
  rw [hlow]
  cases hi : lowS (m.c.H / m.c.G) (m.c.L + 1) s.b k with
  | none => exact ⟨rfl, fun h => by simp at h⟩
  | some i =>
    have hput := hb.put hc ha hz hk hi q
    obtain ⟨k', ek, hkc, hik, hup, _⟩ := lowS_lt hc.sl hi
    have ek : k' = k := by omega
    subst ek
    have hn : i * 2 ^ k' * m.c.G = i * (m.c.G * 2 ^ k') := by rw [Nat.mul_assoc, Nat.mul_comm m.c.G]
    have hf := (hb.free hc ha hz hk hik).1 hup
    have hg := hc.gpos
    have hn1 : 1 ≤ m.c.G * 2 ^ k' := Nat.mul_pos (by omega) (Nat.two_pow_pos _)
    have hbd := sz_bound hc.sl (G := m.c.G) (by rw [hc.gG]; exact hc.h2) hkc hik
    have hnH : i * (m.c.G * 2 ^ k') + m.c.G * 2 ^ k' ≤ m.c.H := by
      have : (i * 2 ^ k' + 2 ^ k') * m.c.G ≤ m.c.H / m.c.G * m.c.G := Nat.mul_le_mul_right _ hbd.1
      rw [hc.gG, Nat.add_mul, Nat.mul_comm (2 ^ k'), hn] at this
      omega
    obtain ⟨_, _, p3, _⟩ := putB_ok ha (b := ⟨(i * (m.c.G * 2 ^ k') : Nat), (m.c.G * 2 ^ k' : Nat), q⟩) hf ⟨by simp only; omega, by simp only; omega, by simp only; omega⟩
    simp only
    rw [hn, hpm, h4]
    rw [if_neg (show ¬ (true = false) by decide)]
    generalize commitF m.on (metF m.c.Pg m.c.H l) (i * (m.c.G * 2 ^ k') / m.c.Pg) ((i * (m.c.G * 2 ^ k') + m.c.G * 2 ^ k' - 1) / m.c.Pg + 1) m.c.P = co at *
    by_cases hco : co.2.2 = false
    · rw [if_pos hco, if_pos hco]
      exact ⟨rfl, fun h => by simp at h⟩
    · rw [if_neg hco, if_neg hco]
      refine ⟨rfl, fun _ => ⟨hput, ?_, ?_, ?_, rfl, ?_⟩⟩
      · show s.live + _ = totalB (putB l _)
        rw [p3, h1]
      · show max s.peak (s.live + _) = max m.peak (totalB (putB l _))
        rw [p3, h1, h2]
      · show max s.mark _ = max m.mark _
        rw [h3]; congr 1
      · show co.2.1.foldl _ s.mem = co.2.1.foldl _ m.mem
        rw [h5]
theorem log_ch {c : Cf} (hc : c.Ok) {ch k : Nat} (h : ch = c.G * 2 ^ k) : Nat.log2 (ch / c.G) = k := by
  have := hc.gpos
  rw [h, Nat.mul_div_cancel_left _ (by omega), Nat.log2_two_pow]
/-- Something new, or moved. -/
theorem giv_rel {m : Mo} {l : List Bk} {s : Hs} (hc : m.c.Ok) (ha : ApB m.c.H l) (hz : ∀ x ∈ l, SzB m.c x) (hb : Hb m.c l s.b s.m s.ds s.met) (h1 : s.live = totalB l) (h2 : s.peak = m.peak) (h3 : s.mark = m.mark) (h4 : s.on = m.on) (h5 : s.mem = m.mem) {ch : Nat} (hch : ∃ k, k ≤ m.c.L ∧ ch = m.c.G * 2 ^ k) (q : Int) :
    (givH m.c (m.c.H / m.c.G) (m.c.L + 1) s (ch, 0) q).2 = (if (placeF m l ch q).2.2 ≠ 0 then anE (placeF m l ch q).2.2 else { an0 with at' := (placeF m l ch q).2.1 }) ∧ ((placeF m l ch q).2.2 = 0 → Hr (placeF m l ch q).1 (givH m.c (m.c.H / m.c.G) (m.c.L + 1) s (ch, 0) q).1) ∧ ((placeF m l ch q).2.2 ≠ 0 → (givH m.c (m.c.H / m.c.G) (m.c.L + 1) s (ch, 0) q).1 = s) := by
  obtain ⟨k, hk, rfl⟩ := hch
  have h := puts_rel hc ha hz hb h1 h2 h3 h4 h5 hk q
  have hno := putsF_no (c := m.c) (g := m.c.H / m.c.G) (cl := m.c.L + 1) (s := s) (k := k) (q := q)
  have h0 : (placeF m l (m.c.G * 2 ^ k) q).2.2 ≠ 0 → (placeF m l (m.c.G * 2 ^ k) q).2.1 = 0 := by
    unfold placeF
    simp only
    split
    · exact fun _ => rfl
    · split
      · exact fun _ => rfl
      · exact fun h => absurd rfl h
  unfold givH
  rw [if_neg (by simp)]
  simp only
  rw [log_ch hc rfl]
  obtain ⟨e, h⟩ := h
  rw [e] at hno ⊢
  refine ⟨?_, h, hno⟩
  by_cases hp : (placeF m l (m.c.G * 2 ^ k) q).2.2 = 0
  · rw [if_neg (by simpa using hp), hp]; rfl
  · rw [if_pos hp, h0 hp]; rfl
theorem findB_getS {l : List Bk} {y : Int} : getS y l = (findB l y).map fun i => l.getD i bk0 := by
  induction l with
  | nil => rfl
  | cons x l ih =>
    have e : findB (x :: l) y = if x.a = y then some 0 else (findB l y).map (· + 1) := by
      unfold findB
      rw [List.findIdx?_cons]
      by_cases h : x.a = y
      · rw [if_pos h, decide_eq_true h]; rfl
      · rw [if_neg h, decide_eq_false h]; rfl
    rw [e]
    show (if y = x.a then some x else getS y l) = _
    by_cases h : x.a = y
    · rw [if_pos h, if_pos h.symm]; rfl
    · rw [if_neg h, if_neg fun q => h q.symm, ih]
      cases findB l y <;> rfl
theorem drop_rel {m : Mo} {s : Hs} (hm : MoOk m) (h : Hr m s) {i : Nat} (hi : i < m.bs.length) {y n : Nat} (hy : m.bs[i].a = y) (hn : m.bs[i].c = n) :
    Hb m.c (dropB m.bs i) (goneF m.c s y n).b (goneF m.c s y n).m (goneF m.c s y n).ds (goneF m.c s y n).met ∧ (goneF m.c s y n).live = totalB (dropB m.bs i) ∧ HsOk m.c (m.c.H / m.c.G) (m.c.L + 1) (goneF m.c s y n) := by
  have hds := dropB_sub m.bs i
  have had := hm.a.sub hds
  have hdt := dropB_tot hi
  have hdn := totalB_nonneg had
  have hb := h.b.drop hm.c hm.a hm.z hi hy hn
  have hl : (goneF m.c s y n).live = totalB (dropB m.bs i) := by
    show s.live - n = _
    rw [h.live, hm.l, hdt, hn]
  refine ⟨hb, hl, hb.ok hm.c had (fun x hx => hm.z x (hds.subset hx)) ?_ ?_ ?_⟩
  · show s.on.length = _
    rw [h.on]; exact hm.o
  · show s.mem.length = _
    rw [h.mem]; exact hm.mm
  · rw [hl]
    have := had.tot
    have := hm.c.h2
    omega
theorem Hr.do_ok {m : Mo} {s : Hs} (h : Hr m s) (hm : MoOk m) {o : X.O} (ho : OpOk o) : DoOk m.c (m.c.H / m.c.G) (m.c.L + 1) s o := by
  have hH := hm.c.h2
  refine ⟨h.ok hm, fun r hr he => ?_, fun x hx => ?_⟩
  · rw [h.live] at hr ⊢
    by_cases hM : (manyF m.c m.live o.n o.s).2 = 0
    · obtain ⟨m1, m2, m3, m4, m5⟩ := manyF_ok hm.c hM
      have hp := prodF_ok (c := m.c) (n := o.n) (s := o.s) (by
        unfold manyF at hM
        split at hM
        · rename_i h1; exact absurd hM h1
        · rename_i h1; simpa using h1)
      have hg := giv_rel (m := m) hm.c hm.a hm.z h.b (by rw [h.live, hm.l]) h.peak h.mark h.on h.mem m1 (prodF m.c o.n o.s).1
      have hpair : ((manyF m.c m.live o.n o.s).1, 0) = manyF m.c m.live o.n o.s := Prod.ext rfl hM.symm
      rw [hpair, ← hr] at hg
      obtain ⟨g1, g2, _⟩ := hg
      have hp0 : (placeF m m.bs (manyF m.c m.live o.n o.s).1 ((prodF m.c o.n o.s).1 : Nat)).2.2 = 0 := by
        apply Decidable.byContradiction
        intro hp0
        rw [if_pos hp0] at g1
        rw [g1] at he
        exact hp0 he
      have hq : ((prodF m.c o.n o.s).1 : Int) = o.n * o.s := hp.2.2.2
      have hput := placeF_ok hm hm.a hm.z m1 (q := ((prodF m.c o.n o.s).1 : Nat)) (by rw [hq]; exact ⟨m2, m3⟩) (by rw [← hm.l]; exact m4) hm.k.1 hp0
      rw [if_neg (by simpa using hp0)] at g1
      have e1 : r.2.at' = (placeF m m.bs (manyF m.c m.live o.n o.s).1 ((prodF m.c o.n o.s).1 : Nat)).2.1 := by rw [g1]
      have e2 := (g2 hp0).mem
      have e3 := hput.ml
      have e4 := hput.y0
      have e5 := hput.yH
      have e6 := hm.mm
      rw [e1, e2]
      exact ⟨by omega, by omega, by omega⟩
    · unfold givH at hr
      rw [if_pos hM] at hr
      rw [hr] at he
      exact absurd he hM
  · rw [h.b.ds, findB_getS] at hx
    cases hf : findB m.bs o.p with
    | none => rw [hf] at hx; cases hx
    | some i =>
      rw [hf] at hx
      obtain ⟨hi, hia⟩ := findB_lt hf
      have hgd : m.bs.getD i bk0 = m.bs[i] := by simp [List.getD_eq_getElem?_getD, hi]
      have hx : m.bs.getD i bk0 = x := by simpa using hx
      rw [hgd] at hx
      have hb := hm.a.b _ (List.getElem_mem hi)
      have hdt := dropB_tot hi
      have hds := dropB_sub m.bs i
      have had := hm.a.sub hds
      have hdn := totalB_nonneg had
      obtain ⟨d1, d2, d3⟩ := drop_rel hm h hi (y := m.bs[i].a.toNat) (n := m.bs[i].c.toNat) (by omega) (by omega)
      have hl := hm.l
      refine ⟨m.bs[i].a.toNat, m.bs[i].c.toNat, ?_, d3, by omega, by omega, by rw [h.live]; omega, fun hN r hr he => ?_⟩
      · rw [show ((m.bs[i].a.toNat : Nat) : Int) = m.bs[i].a by omega, show ((m.bs[i].c.toNat : Nat) : Int) = m.bs[i].c by omega, hx]
      · have hlc : s.live - ((m.bs[i].c.toNat : Nat) : Int) = m.live - m.bs[i].c := by rw [h.live]; omega
        rw [hlc] at hr hN ⊢
        obtain ⟨m1, m2, m3, m4⟩ := newF_ok hm.c hN
        have hg := giv_rel (m := m) hm.c had (fun x hx => hm.z x (hds.subset hx)) d1 d2 h.peak h.mark h.on h.mem m1 o.s
        rw [← hr] at hg
        obtain ⟨g1, g2, _⟩ := hg
        have hp0 : (placeF m (dropB m.bs i) (newF m.c (m.live - m.bs[i].c) o.s 1).1 o.s).2.2 = 0 := by
          apply Decidable.byContradiction
          intro hp0
          rw [if_pos hp0] at g1
          rw [g1] at he
          exact hp0 he
        have hput := placeF_ok hm had (fun x hx => hm.z x (hds.subset hx)) m1 (q := o.s) ⟨m2, m3⟩ (by rw [hdt, ← hl]; exact m4) (fun x hx => hm.k.1 x (hds.subset hx)) hp0
        rw [if_neg (by simpa using hp0)] at g1
        have e1 : r.2.at' = (placeF m (dropB m.bs i) (newF m.c (m.live - m.bs[i].c) o.s 1).1 o.s).2.1 := by rw [g1]
        have e2 := (g2 hp0).mem
        have e3 := hput.ml
        have e4 := hput.y0
        have e5 := hput.yH
        have e6 := hm.mm
        rw [e1, e2]
        exact ⟨by omega, by omega, by omega⟩
end Go.Ev.W
namespace Go.Ev.W
open Go.Ev Go.Ev.N

/-- Each call is told what the plain one is, and a heap lies on as it says. -/
theorem Hr.do {m : Mo} {s : Hs} (h : Hr m s) (hm : MoOk m) {o : X.O} (ho : OpOk o) :
    (doH m.c (m.c.H / m.c.G) (m.c.L + 1) s o).2 = (doF m o).2 ∧ Hr (doF m o).1 (doH m.c (m.c.H / m.c.G) (m.c.L + 1) s o).1 := by
  have new : ∀ a : Int, (givH m.c (m.c.H / m.c.G) (m.c.L + 1) s (newF m.c s.live o.s a) o.s).2 = (if (newF m.c m.live o.s a).2 ≠ 0 then (m, anE (newF m.c m.live o.s a).2) else if (placeF m m.bs (newF m.c m.live o.s a).1 o.s).2.2 ≠ 0 then (m, anE (placeF m m.bs (newF m.c m.live o.s a).1 o.s).2.2) else ((placeF m m.bs (newF m.c m.live o.s a).1 o.s).1, { an0 with at' := (placeF m m.bs (newF m.c m.live o.s a).1 o.s).2.1 })).2 ∧
      Hr (if (newF m.c m.live o.s a).2 ≠ 0 then (m, anE (newF m.c m.live o.s a).2) else if (placeF m m.bs (newF m.c m.live o.s a).1 o.s).2.2 ≠ 0 then (m, anE (placeF m m.bs (newF m.c m.live o.s a).1 o.s).2.2) else ((placeF m m.bs (newF m.c m.live o.s a).1 o.s).1, { an0 with at' := (placeF m m.bs (newF m.c m.live o.s a).1 o.s).2.1 })).1 (givH m.c (m.c.H / m.c.G) (m.c.L + 1) s (newF m.c s.live o.s a) o.s).1 := by
    intro a
    rw [h.live]
    by_cases hN : (newF m.c m.live o.s a).2 = 0
    · obtain ⟨m1, _⟩ := newF_ok hm.c hN
      have hg := giv_rel (m := m) hm.c hm.a hm.z h.b (by rw [h.live, hm.l]) h.peak h.mark h.on h.mem m1 o.s
      have hpair : ((newF m.c m.live o.s a).1, 0) = newF m.c m.live o.s a := Prod.ext rfl hN.symm
      rw [hpair] at hg
      obtain ⟨g1, g2, g3⟩ := hg
      rw [if_neg (by simpa using hN)]
      by_cases hp : (placeF m m.bs (newF m.c m.live o.s a).1 o.s).2.2 = 0
      · rw [if_neg (by simpa using hp)] at g1 ⊢
        exact ⟨g1, g2 hp⟩
      · rw [if_pos hp] at g1 ⊢
        rw [g3 hp]
        exact ⟨g1, h⟩
    · rw [if_pos hN]
      unfold givH
      rw [if_pos hN]
      exact ⟨rfl, h⟩
  by_cases h1 : o.k = 1
  · have := new 1
    have e : (doF m o) = (if (newF m.c m.live o.s 1).2 ≠ 0 then (m, anE (newF m.c m.live o.s 1).2) else if (placeF m m.bs (newF m.c m.live o.s 1).1 o.s).2.2 ≠ 0 then (m, anE (placeF m m.bs (newF m.c m.live o.s 1).1 o.s).2.2) else ((placeF m m.bs (newF m.c m.live o.s 1).1 o.s).1, { an0 with at' := (placeF m m.bs (newF m.c m.live o.s 1).1 o.s).2.1 })) := by
      unfold doF giveF
      rw [if_pos (.inl h1)]
      simp only [h1, if_neg (show ¬ (1 : Int) = 2 by decide), if_neg (show ¬ (1 : Int) = 3 by decide)]
    unfold doH
    rw [if_pos h1, e]
    exact this
  by_cases h2 : o.k = 2
  · unfold doH doF giveF
    rw [if_neg h1, if_pos h2, if_pos (.inr (.inr h2))]
    simp only [h2, if_true]
    unfold callH
    rw [h.live]
    by_cases hM : (manyF m.c m.live o.n o.s).2 = 0
    · obtain ⟨m1, _⟩ := manyF_ok hm.c hM
      have hq := prodF_ok (c := m.c) (n := o.n) (s := o.s) (by
        unfold manyF at hM
        split at hM
        · rename_i h1; exact absurd hM h1
        · rename_i h1; simpa using h1)
      have hg := giv_rel (m := m) hm.c hm.a hm.z h.b (by rw [h.live, hm.l]) h.peak h.mark h.on h.mem m1 (prodF m.c o.n o.s).1
      have hpair : ((manyF m.c m.live o.n o.s).1, 0) = manyF m.c m.live o.n o.s := Prod.ext rfl hM.symm
      rw [hpair, hq.2.2.2] at hg
      obtain ⟨g1, g2, g3⟩ := hg
      rw [if_neg (show ¬ (manyF m.c m.live o.n o.s).2 ≠ 0 by simpa using hM), hq.2.2.2]
      generalize hR : givH m.c (m.c.H / m.c.G) (m.c.L + 1) s (manyF m.c m.live o.n o.s) (o.n * o.s) = R at *
      by_cases hp : (placeF m m.bs (manyF m.c m.live o.n o.s).1 (o.n * o.s)).2.2 = 0
      · have hp' : ¬ (placeF m m.bs (manyF m.c m.live o.n o.s).1 (o.n * o.s)).2.2 ≠ 0 := by simpa using hp
        rw [if_neg hp'] at g1 ⊢
        have g2 := g2 hp
        rw [if_pos (show R.2.e = 0 by rw [g1]; rfl), g1]
        refine ⟨rfl, g2.b, g2.live, g2.peak, g2.mark, g2.on, ?_⟩
        show zeroF R.1.mem _ _ = zeroF _ _ _
        rw [g2.mem]
      · rw [if_pos hp] at g1 ⊢
        rw [if_neg (show ¬ R.2.e = 0 by rw [g1]; exact hp)]
        exact ⟨g1, by rw [g3 hp]; exact h⟩
    · rw [if_pos hM]
      unfold givH
      rw [if_pos hM]
      rw [if_neg (show ¬ ((s, anE (manyF m.c m.live o.n o.s).2) : Hs × An).2.e = 0 from hM)]
      exact ⟨rfl, h⟩
  by_cases h3 : o.k = 3
  · have := new o.a
    have e : (doF m o) = (if (newF m.c m.live o.s o.a).2 ≠ 0 then (m, anE (newF m.c m.live o.s o.a).2) else if (placeF m m.bs (newF m.c m.live o.s o.a).1 o.s).2.2 ≠ 0 then (m, anE (placeF m m.bs (newF m.c m.live o.s o.a).1 o.s).2.2) else ((placeF m m.bs (newF m.c m.live o.s o.a).1 o.s).1, { an0 with at' := (placeF m m.bs (newF m.c m.live o.s o.a).1 o.s).2.1 })) := by
      unfold doF giveF
      rw [if_pos (.inr (.inl h3))]
      simp only [h3, if_neg (show ¬ (3 : Int) = 2 by decide), if_true]
    unfold doH
    rw [if_neg h1, if_neg h2, if_pos h3, e]
    exact this
  by_cases hb : o.k = 4 ∨ o.k = 5 ∨ o.k = 6 ∨ o.k = 7 ∨ o.k = 8
  · unfold doH doF
    rw [if_neg h1, if_neg h2, if_neg h3, if_pos hb, if_neg (by omega), if_neg (by omega), if_neg (by omega), if_pos hb, h.b.ds, findB_getS]
    cases hf : findB m.bs o.p with
    | none => exact ⟨rfl, h⟩
    | some i =>
      obtain ⟨hi, hia⟩ := findB_lt hf
      have hgd : m.bs.getD i bk0 = m.bs[i] := by simp [List.getD_eq_getElem?_getD, hi]
      have hbd := hm.a.b _ (List.getElem_mem hi)
      have hdt := dropB_tot hi
      have hds := dropB_sub m.bs i
      have had := hm.a.sub hds
      have hdn := totalB_nonneg had
      have hl := hm.l
      obtain ⟨y, hy⟩ : ∃ y : Nat, m.bs[i].a = y := ⟨m.bs[i].a.toNat, by omega⟩
      obtain ⟨n, hn⟩ : ∃ n : Nat, m.bs[i].c = n := ⟨m.bs[i].c.toNat, by omega⟩
      obtain ⟨d1, d2, d3⟩ := drop_rel hm h hi hy hn
      simp only [Option.map_some]
      unfold ofB onH
      rw [hgd]
      simp only
      rw [hy, hn]
      simp only [Int.toNat_natCast]
      by_cases h4 : o.k = 4
      · rw [if_pos h4, if_pos h4]
        unfold realH
        rw [h.live]
        by_cases hN : (newF m.c (m.live - n) o.s 1).2 = 0
        · obtain ⟨m1, m2, m3, m4⟩ := newF_ok hm.c hN
          simp only [hN, ne_eq, not_true_eq_false, if_false]
          have hg := giv_rel (m := m) hm.c had (fun x hx => hm.z x (hds.subset hx)) d1 d2 h.peak h.mark h.on h.mem m1 o.s
          obtain ⟨g1, g2, g3⟩ := hg
          have hput := placeF_ok hm had (fun x hx => hm.z x (hds.subset hx)) m1 (q := o.s) ⟨m2, m3⟩ (by rw [hdt, ← hl, hn]; exact m4) (fun x hx => hm.k.1 x (hds.subset hx))
          generalize givH m.c (m.c.H / m.c.G) (m.c.L + 1) (goneF m.c s y n) ((newF m.c (m.live - n) o.s 1).1, 0) o.s = R at *
          by_cases hp : (placeF m (dropB m.bs i) (newF m.c (m.live - n) o.s 1).1 o.s).2.2 = 0
          · rw [if_neg (by simpa using hp)] at g1
            have g2 := g2 hp
            have hput := hput hp
            have hy0 := hput.y0
            simp only [hp, not_true_eq_false, if_false]
            rw [if_neg (show ¬ ¬ R.2.e = 0 by rw [g1]; simp [an0])]
            refine ⟨g1, g2.b, g2.live, g2.peak, g2.mark, g2.on, ?_⟩
            show R.1.mem.take _ ++ _ ++ R.1.mem.drop _ = _
            simp only
            rw [g2.mem, h.mem, g1]
            simp only
            have e1 : (placeF m (dropB m.bs i) (newF m.c (m.live - n) o.s 1).1 o.s).2.1.toNat + min n (newF m.c (m.live - n) o.s 1).1 = ((placeF m (dropB m.bs i) (newF m.c (m.live - n) o.s 1).1 o.s).2.1 + min (((newF m.c (m.live - n) o.s 1).1 : Nat) : Int) n).toNat := by omega
            have e2 : ((y : Int) + min (((newF m.c (m.live - n) o.s 1).1 : Nat) : Int) n).toNat = y + min n (newF m.c (m.live - n) o.s 1).1 := by omega
            rw [e1, e2, List.drop_take, Nat.add_sub_cancel_left]
          · rw [if_pos hp] at g1
            simp only [hp, not_false_eq_true, if_true]
            rw [if_pos (show ¬ R.2.e = 0 by rw [g1]; exact hp)]
            refine ⟨g1, ?_, ?_, h.peak, h.mark, h.on, h.mem⟩
            · have hel : m.bs[i] = ⟨(y : Nat), (n : Nat), m.bs[i].q⟩ := by rw [← hy, ← hn]
              exact h.b.undo hm.c hm.a hi hel (by omega)
            · show s.live - n + n = m.live
              rw [h.live]; omega
        · simp only [ne_eq, hN, not_false_eq_true, if_true]
          exact ⟨trivial, h⟩
      rw [if_neg h4, if_neg h4]
      by_cases h5 : o.k = 5
      · rw [if_pos h5, if_pos h5]
        exact ⟨rfl, d1, by show s.live - n = m.live - n; rw [h.live], h.peak, h.mark, h.on, h.mem⟩
      rw [if_neg h5, if_neg h5]
      by_cases h6 : o.k = 6
      · rw [if_pos h6, if_pos h6]
        exact ⟨rfl, h⟩
      rw [if_neg h6, if_neg h6]
      by_cases hbn : o.n < 0 ∨ o.n ≥ n
      · rw [if_pos hbn, if_pos hbn]
        exact ⟨rfl, h⟩
      rw [if_neg hbn, if_neg hbn]
      have e1 : ((y : Int) + o.n).toNat = y + o.n.toNat := by omega
      rw [e1, h.mem]
      by_cases h7 : o.k = 7
      · rw [if_pos h7, if_pos h7]
        exact ⟨rfl, h⟩
      · rw [if_neg h7, if_neg h7]
        exact ⟨rfl, h.b, h.live, h.peak, h.mark, h.on, rfl⟩
  · unfold doH doF
    rw [if_neg h1, if_neg h2, if_neg h3, if_neg hb, if_neg (show ¬ (o.k = 1 ∨ o.k = 3 ∨ o.k = 2) by omega)]
    by_cases h9 : o.k = 9
    · rw [if_pos h9, if_pos h9, pagesF_met h.b, h.on]
      exact ⟨rfl, h.b, h.live, h.peak, h.mark, rfl, h.mem⟩
    · rw [if_neg h9, if_neg h9]
      by_cases h10 : o.k = 10
      · rw [if_pos h10, if_pos h10, h.live, h.peak, h.mark, h.on]
        exact ⟨rfl, h⟩
      · rw [if_neg h10, if_neg h10, if_neg hb]
        exact ⟨rfl, h⟩
theorem newH_rel {r : Rw} (h : (ofF r).2 = 0) : Hr (newM r).1 (newH (ofF r).1) := by
  have hc := (ofF_ok h).1
  unfold newM
  rw [if_neg (by simpa using h)]
  refine ⟨⟨fun x _ => rfl, rfl, fun y => rfl, List.nodup_nil, ?_⟩, rfl, rfl, rfl, rfl, rfl⟩
  show List.replicate _ _ = _
  apply List.ext_getElem (by simp)
  intro i h1 h2
  simp [nmet]
theorem hpDoI {m : Mo} {s : Hs} (h : Hr m s) (hm : MoOk m) {o : X.O} (ho : OpOk o) : ∃ s', Hr (doF m o).1 s' ∧ Told P T heap_Heap_Do (hsL m.c (m.c.H / m.c.G) (m.c.L + 1) s) [.ptr 0 0 0, X.encO o] (eA (doF m o).2) (hsL (doF m o).1.c ((doF m o).1.c.H / (doF m o).1.c.G) ((doF m o).1.c.L + 1) s') := by
  have h1 := h.do hm ho
  have h2 := hpDo_told (h.do_ok hm ho) ho
  rw [(doF_ok hm ho).2]
  rw [h1.1] at h2
  exact ⟨_, h1.2, h2⟩
end Go.Ev.W
namespace Go.Ev.W
open Go.Ev Go.Ev.N

set_option maxRecDepth 20000 in
set_option maxHeartbeats 1000000 in
theorem hpBlocks_told {c : Cf} {g cl : Nat} {s : Hs} (bs : List Bk) (hl : bs.length = s.m.length) (hl2 : s.m.length ≤ 65536) (hb : ∀ k (h : k < s.m.length) (h2 : k < bs.length), getS (s.m[k]).at' s.ds = some bs[k]) :
    Told P T heap_Heap_Blocks (hsL c g cl s) [.ptr 0 0 0] (lK bs) (hsL c g cl s) := by
  have hml : (s.m.map encM).length = s.m.length := by simp
  unfold hsL hpL hpV lK
  refine told_of_ev (fn := heap_Heap_Blocks_fn) tabOk mixed (by kernel_rfl) (by kernel_rfl) (by kernel_rfl) (by kernel_rfl) ?_
  (refine gw ?_; refine LoopN.mk ⟨[0,2,11,12,13], fun vs L => ∃ k : Nat, vs = [.ptr 0 0 0, .ref 4, .lst t_api_Mark (s.m.map encM), i64 (s.m.map encM).length, i64 k] ∧ L = hpL c g cl s.b s.m s.live s.peak s.mark s.on s.ds s.met s.mem ++ [.row t_api_Block ((bs.take k).map eB)] ∧ k ≤ s.m.length, fun vs L => match vs with | [_, _, _, _, .int _ i] => s.m.length - i.toNat | _ => 0, [], [4], rfl, ⟨0, rfl, rfl, by omega⟩, ?_⟩)
  rintro vs L ⟨k, rfl, rfl, hk⟩
  have hbl : ((bs.take k).map eB).length = k := by rw [List.length_map, List.length_take]; omega
  by_cases hkl : k < s.m.length
  · have hx : ∀ Q : AV → Prop, Q (encM s.m[k]) → Idx (s.m.map encM) ((k : Nat) : Int) Q := fun Q q => idx_map hkl q
    have h2 : k < bs.length := by omega
    have hg := mget_encS (s.m[k]).at' s.ds
    rw [hb k hkl h2] at hg
    have hsu : (bs.take (k + 1)).map eB = (bs.take k).map eB ++ [eB bs[k]] := by rw [List.take_succ_eq_append_getElem h2, List.map_append]; rfl
    unfold hpL hpV
    (refine gw ?_; refine IfB.tt (by rw [hml]; simp; omega) ?_)
    (refine gw ?_)
    refine hx _ ?_
    (refine gw ?_)
    refine Get.of hg ?_
    (refine gw ?_)
    refine Room.mk (by rw [hbl]; simp; omega) ?_
    (refine gw ?_; refine ⟨[], [7], rfl, ⟨k + 1, rfl, by rw [hsu]; rfl, hkl⟩, (by omega : s.m.length - ((k : Int) + 1).toNat < s.m.length - (k : Int).toNat)⟩)
  · have hkk : k = bs.length := by omega
    rw [hkk, List.take_length]
    unfold hpL hpV
    (refine gw ?_; refine IfB.ff (by rw [hml]; simp; omega) ?_)
    (refine gw ?_)
    exact RetN.fz ⟨[true], [], rfl, rfl, rfl⟩
end Go.Ev.W
namespace Go.Ev.W
open Go.Ev Go.Ev.N

theorem hpConf_told {c : Cf} {g cl : Nat} {s : Hs} : Told P T heap_Heap_Conf (hsL c g cl s) [.ptr 0 0 0] (eC c) (hsL c g cl s) := by
  unfold hsL hpL hpV eC
  refine told_of_ev (fn := heap_Heap_Conf_fn) tabOk mixed (by kernel_rfl) (by kernel_rfl) (by kernel_rfl) (by kernel_rfl) ?_
  (refine gw ?_; exact RetN.mk ⟨[], rfl, rfl, rfl⟩)
end Go.Ev.W
namespace Go.Ev.W
open Go.Ev Go.Ev.N

theorem Hr.bs {m : Mo} {s : Hs} (h : Hr m s) (hm : MoOk m) : m.bs.length = s.m.length ∧ s.m.length ≤ 65536 ∧ ∀ k (h : k < s.m.length) (h2 : k < m.bs.length), getS (s.m[k]).at' s.ds = some m.bs[k] := by
  have hl : m.bs.length = s.m.length := by rw [h.b.m]; simp
  have := hm.a.len
  have := hm.c.h2
  refine ⟨hl, by omega, fun k h1 h2 => ?_⟩
  have hm1 := h.b.m
  have e : (s.m[k]).at' = m.bs[k].a := by
    simp only [hm1, List.getElem_map]; rfl
  rw [h.b.ds, e]
  exact getS_of hm.a.inj (List.getElem_mem h2) rfl
theorem hpBlocksI {m : Mo} {s : Hs} (h : Hr m s) (hm : MoOk m) : Told P T heap_Heap_Blocks (hsL m.c (m.c.H / m.c.G) (m.c.L + 1) s) [.ptr 0 0 0] (lK m.bs) (hsL m.c (m.c.H / m.c.G) (m.c.L + 1) s) := by
  obtain ⟨h1, h2, h3⟩ := h.bs hm
  exact hpBlocks_told m.bs h1 h2 h3
end Go.Ev.W
namespace Go.Ev.W
open Go.Ev Go.Ev.N

/-- A heap behind four other blocks. -/
def hpV4 (c : Cf) (g cl : Nat) (s : Hs) : AV :=
  .agg [i64 c.G, i64 c.N, i64 c.M, i64 c.L, i64 c.Pg, i64 c.P, i64 c.H, i64 c.Sd, i64 c.G, .lst t_api_Tree (tL g cl s.b), .lst t_api_Mark (s.m.map encM), .mp 5, i64 s.live, i64 s.peak, i64 s.mark, .ref 6, .lst t_bool (s.on.map .bool), .ref 7]
def hsL4 (c : Cf) (g cl : Nat) (s : Hs) : List Blk := [.var (hpV4 c g cl s), .map t_heap_start (encS s.ds), .row t_int (s.met.map i64), .row t_uint8 (s.mem.map u8)]
end Go.Ev.W
namespace Go.Ev.W
open Go.Ev Go.Ev.N

theorem hpOn_told {c : Cf} {g cl : Nat} {s : Hs} (hl : s.on.length ≤ 65536) : Told P T heap_Heap_Pages (hsL c g cl s) [.ptr 0 0 0] (lT s.on) (hsL c g cl s) := by
  unfold hsL hpL hpV lT
  have c1 := clone_bool (s.on.map AV.bool) (by simp; omega)
  refine told_of_ev (fn := heap_Heap_Pages_fn) tabOk mixed (by kernel_rfl) (by kernel_rfl) (by kernel_rfl) (by kernel_rfl) ?_
  (refine gw ?_; refine Choice.mk ⟨false, Choice.mk ⟨false, _, _, c1, ?_⟩⟩)
  exact RetN.fz ⟨[true], [], rfl, rfl, rfl⟩
end Go.Ev.W
namespace Go.Ev.W
open Go.Ev Go.Ev.N

theorem hpPagesI {m : Mo} {s : Hs} (h : Hr m s) (hm : MoOk m) : Told P T heap_Heap_Pages (hsL m.c (m.c.H / m.c.G) (m.c.L + 1) s) [.ptr 0 0 0] (lT m.on) (hsL m.c (m.c.H / m.c.G) (m.c.L + 1) s) := by
  have h1 := hpOn_told (c := m.c) (g := m.c.H / m.c.G) (cl := m.c.L + 1) (s := s) (by have := (h.ok hm).on; have := (h.ok hm).met; have : m.c.H / m.c.Pg ≤ m.c.H := Nat.div_le_self _ _; have := hm.c.h2; omega)
  rw [h.on] at h1
  exact h1
end Go.Ev.W
namespace Go.Ev.W
open Go.Ev Go.Ev.N

def rawF (p : Pk) (bg : Bool) : Rw × Pk :=
  let p1 := p.next 9
  let p2 := p1.next 12
  let p3 := p2.next 150
  let p4 := p3.next 30
  let p5 := p4.next 200
  (⟨1 + p.num 9, (1 + p.num 9) * (1 + p1.num 12), 1 + p2.num 150, 1 + p3.num 30, if bg = true then 5000 else 1 + p5.num 20, p4.num 200⟩, p5.next 20)
structure RwS (r : Rw) : Prop where
  g : 1 ≤ r.g ∧ r.g ≤ 9
  l : r.g ≤ r.l ∧ r.l ≤ 108
  m : 1 ≤ r.m ∧ r.m ≤ 150
  p : 1 ≤ r.p ∧ r.p ≤ 30
  b : 1 ≤ r.b ∧ r.b ≤ 5000
  s : 0 ≤ r.s ∧ r.s ≤ 199
theorem rawF_s (p : Pk) (bg : Bool) : RwS (rawF p bg).1 := by
  have a := p.num_lt (m := 9) (by omega)
  have b := (p.next 9).num_lt (m := 12) (by omega)
  have c := ((p.next 9).next 12).num_lt (m := 150) (by omega)
  have d := (((p.next 9).next 12).next 150).num_lt (m := 30) (by omega)
  have e := ((((p.next 9).next 12).next 150).next 30).num_lt (m := 200) (by omega)
  have f := (((((p.next 9).next 12).next 150).next 30).next 200).num_lt (m := 20) (by omega)
  have g1 : (1 + p.num 9) * 1 ≤ (1 + p.num 9) * (1 + (p.next 9).num 12) := Nat.mul_le_mul_left _ (by omega)
  have g2 : (1 + p.num 9) * (1 + (p.next 9).num 12) ≤ 9 * 12 := Nat.mul_le_mul (by omega) (by omega)
  have e1 : ((1 : Int) + (p.num 9 : Nat)) * (1 + ((p.next 9).num 12 : Nat)) = (((1 + p.num 9) * (1 + (p.next 9).num 12) : Nat) : Int) := by
    rw [Int.natCast_mul, Int.natCast_add, Int.natCast_add]; rfl
  unfold rawF
  refine ⟨⟨?_, ?_⟩, ⟨?_, ?_⟩, ⟨?_, ?_⟩, ⟨?_, ?_⟩, ?_, ⟨?_, ?_⟩⟩
  all_goals simp only
  all_goals try rw [e1]
  all_goals first | omega | (split <;> omega)
/-- There is always something of small ones. -/
theorem small_of {r : Rw} (h : RwS r) : (ofF r).2 = 0 ∧ (ofF r).1 = cfOf r ∧ (cfOf r).Ok ∧ (cfOf r).N ≤ 128 ∧ (cfOf r).M ≤ 405 ∧ (cfOf r).L ≤ 7 ∧ (cfOf r).G ≤ 16 ∧ (cfOf r).Pg ≤ 32 := by
  have g := upN_le (v := r.g.toNat) (k := 4) (by have := h.g; omega)
  have g0 := upN_pos r.g.toNat
  have n := upN_le (v := max r.l.toNat (upN r.g.toNat)) (k := 7) (by have := h.l; omega)
  have pg := upN_le (v := max r.p.toNat (upN r.g.toNat)) (k := 5) (by have := h.p; omega)
  have n1 := upN_pos (max r.l.toNat (upN r.g.toNat))
  obtain ⟨q, q1, q2, q3⟩ := rnd_spec (v := r.m.toNat) (t := 2 * max (upN (max r.l.toNat (upN r.g.toNat))) (upN (max r.p.toNat (upN r.g.toNat)))) (by omega)
  have hm := h.m
  obtain ⟨k, hk⟩ := pow_up (v := r.l.toNat) (upN_pow r.g.toNat)
  have hL := log_of g0 hk
  have k7 : k ≤ 7 := by
    have : 1 * 2 ^ k ≤ upN r.g.toNat * 2 ^ k := Nat.mul_le_mul_right _ g0
    have : 2 ^ k ≤ 2 ^ 7 := by omega
    exact (Nat.pow_le_pow_iff_right (a := 2) (by omega)).1 this
  have hM : (cfOf r).M ≤ 405 := by show rnd _ _ ≤ 405; omega
  have hLL : (cfOf r).L ≤ 7 := by show Nat.log2 _ ≤ 7; rw [hL]; exact k7
  have hH : (cfOf r).H ≤ 65536 := by
    show (cfOf r).M + (cfOf r).L * ((cfOf r).M / 2) ≤ 65536
    have : (cfOf r).L * ((cfOf r).M / 2) ≤ 7 * 405 := Nat.mul_le_mul hLL (by omega)
    omega
  have hok : r.ok = true := by
    simp only [Rw.ok, inR, Bool.and_eq_true, decide_eq_true_eq]
    have := h.g; have := h.l; have := h.m; have := h.p; have := h.b; have := h.s
    omega
  have e : ofF r = (cfOf r, 0) := by unfold ofF; rw [if_pos ⟨hok, hH⟩]
  have h0 : (ofF r).2 = 0 := by rw [e]
  refine ⟨h0, by rw [e], ?_, n, hM, hLL, g, pg⟩
  have := (ofF_ok h0).1
  rw [e] at this; exact this

set_option maxHeartbeats 2000000 in
theorem raw_told (p : Pk) (ok : p.Ok) (bg : Bool) : Told P T mk_Picks_Raw [pkB p] [.ptr 0 0 0, .bool bg] (eR (rawF p bg).1) [pkB (rawF p bg).2] := by
  have k1 := ok.next 9
  have k2 := k1.next 12
  have k3 := k2.next 150
  have k4 := k3.next 30
  have k5 := k4.next 200
  have b1 := p.num_lt (m := 9) (by omega)
  have b2 := (p.next 9).num_lt (m := 12) (by omega)
  have b3 := ((p.next 9).next 12).num_lt (m := 150) (by omega)
  have b4 := (((p.next 9).next 12).next 150).num_lt (m := 30) (by omega)
  have b5 := ((((p.next 9).next 12).next 150).next 30).num_lt (m := 200) (by omega)
  have b6 := (((((p.next 9).next 12).next 150).next 30).next 200).num_lt (m := 20) (by omega)
  have g2 : (1 + p.num 9) * (1 + (p.next 9).num 12) ≤ 9 * 12 := Nat.mul_le_mul (by omega) (by omega)
  have e1 : ((1 : Int) + (p.num 9 : Nat)) * (1 + ((p.next 9).num 12 : Nat)) = (((1 + p.num 9) * (1 + (p.next 9).num 12) : Nat) : Int) := by
    rw [Int.natCast_mul, Int.natCast_add, Int.natCast_add]; rfl
  refine told_of_ev (fn := mk_Picks_Raw_fn) tabOk mixed (by kernel_rfl) (by kernel_rfl) (by kernel_rfl) (by kernel_rfl) ?_
  (refine gw ?_; refine Choice.mk ⟨true, Choice.mk ⟨false, _, _, num_told p ok 9 (by omega), ?_⟩⟩)
  (refine gw ?_; refine Choice.mk ⟨true, Choice.mk ⟨false, _, _, num_told _ k1 12 (by omega), ?_⟩⟩)
  (refine gw ?_; refine Choice.mk ⟨true, Choice.mk ⟨false, _, _, num_told _ k2 150 (by omega), ?_⟩⟩)
  (refine gw ?_; refine Choice.mk ⟨true, Choice.mk ⟨false, _, _, num_told _ k3 30 (by omega), ?_⟩⟩)
  (refine gw ?_; refine Choice.mk ⟨true, Choice.mk ⟨false, _, _, num_told _ k4 200 (by omega), ?_⟩⟩)
  (refine gw ?_; refine Choice.mk ⟨true, Choice.mk ⟨false, _, _, num_told _ k5 20 (by omega), ?_⟩⟩)
  cases bg with
  | true => (refine gw ?_; exact RetN.mk ⟨[], rfl, rfl, rfl⟩)
  | false => (refine gw ?_; exact RetN.mk ⟨[], rfl, rfl, rfl⟩)
end Go.Ev.W
namespace Go.Ev.W
open Go.Ev Go.Ev.N

/-- An operation as it is picked. -/
structure OpG (c : Cf) (o : X.O) : Prop where
  k : 1 ≤ o.k ∧ o.k ≤ 10
  p : -3 ≤ o.p ∧ o.p ≤ 65536
  s : -1 ≤ o.s ∧ o.s ≤ (c.N : Int) + 2
  a : 0 ≤ o.a ∧ o.a ≤ 16
  n : 0 ≤ o.n ∧ o.n ≤ 8
  b : 0 ≤ o.b ∧ o.b < 256
  p0 : (4 ≤ o.k ∧ o.k ≤ 8) ∨ o.p = 0
  s0 : o.k ≤ 4 ∨ o.s = 0
  a0 : o.k = 3 ∨ o.a = 0
  n0 : (o.k = 2 ∨ o.k = 7 ∨ o.k = 8) ∨ o.n = 0
  b0 : o.k = 8 ∨ o.b = 0
theorem OpG.ok {c : Cf} (hc : c.Ok) {o : X.O} (h : OpG c o) : OpOk o := by
  have hN := hc.nM
  have hM := hc.mH
  have := h.k; have := h.p; have := h.s; have := h.a; have := h.n
  exact ⟨by omega, by omega, by omega, by omega, by omega, h.b⟩
set_option maxHeartbeats 4000000 in
theorem size_told {c : Cf} (hc : c.Ok) (p : Pk) (ok : p.Ok) : ∃ (v : Int) (p' : Pk), Told P T mk_Picks_Size [pkB p] [.ptr 0 0 0, eC c] (i64 v) [pkB p'] ∧ p'.Ok ∧ -1 ≤ v ∧ v ≤ (c.N : Int) + 2 := by
  have hN := hc.nM
  have hM := hc.mH
  have hL := hc.lL
  have hG := hc.gpos
  have k1 := ok.next 12
  have b1 := p.num_lt (m := 12) (by omega)
  have t1 := num_told p ok 12 (by omega)
  have t2 := num_told _ k1 3 (by omega)
  have b2 := (p.next 12).num_lt (m := 3) (by omega)
  have emax : ∀ a b : Int, max a b = if b > a then b else a := fun a b => by split <;> omega
  generalize hx : p.num 12 = x at *
  rcases (by omega : x = 0 ∨ x = 1 ∨ x = 2 ∨ 3 ≤ x) with h | h | h | h
  · subst h
    refine ⟨0, p.next 12, ?_, k1, by omega, by omega⟩
    refine told_of_ev (fn := mk_Picks_Size_fn) tabOk mixed (by kernel_rfl) (by kernel_rfl) (by kernel_rfl) (by kernel_rfl) ?_
    (refine gw ?_; refine Choice.mk ⟨true, Choice.mk ⟨false, _, _, t1, ?_⟩⟩)
    (refine gw ?_; exact RetN.mk ⟨[], rfl, rfl, rfl⟩)
  · subst h
    refine ⟨(c.N : Int) + ((p.next 12).num 3 : Nat), (p.next 12).next 3, ?_, k1.next 3, by omega, by omega⟩
    refine told_of_ev (fn := mk_Picks_Size_fn) tabOk mixed (by kernel_rfl) (by kernel_rfl) (by kernel_rfl) (by kernel_rfl) ?_
    (refine gw ?_; refine Choice.mk ⟨true, Choice.mk ⟨false, _, _, t1, ?_⟩⟩)
    (refine gw ?_; refine Choice.mk ⟨true, Choice.mk ⟨false, _, _, t2, ?_⟩⟩)
    (refine gw ?_; exact RetN.mk ⟨[], rfl, rfl, rfl⟩)
  · subst h
    refine ⟨-1, p.next 12, ?_, k1, by omega, by omega⟩
    refine told_of_ev (fn := mk_Picks_Size_fn) tabOk mixed (by kernel_rfl) (by kernel_rfl) (by kernel_rfl) (by kernel_rfl) ?_
    (refine gw ?_; refine Choice.mk ⟨true, Choice.mk ⟨false, _, _, t1, ?_⟩⟩)
    (refine gw ?_; exact RetN.mk ⟨[], rfl, rfl, rfl⟩)
  · have b3 := (p.next 12).num_lt (m := c.L + 1) (by omega)
    have k2 := k1.next (c.L + 1)
    have t3 := num_told _ k1 (c.L + 1) (by omega)
    have t4 := num_told _ k2 3 (by omega)
    have b4 := ((p.next 12).next (c.L + 1)).num_lt (m := 3) (by omega)
    have hGN : c.G ≤ 65536 := by have := hc.n; have := Nat.le_mul_of_pos_right c.G (Nat.two_pow_pos c.L); omega
    have t5 := refSize_told c ((p.next 12).num (c.L + 1)) (by omega) hGN
    have hsz : c.G * 2 ^ (p.next 12).num (c.L + 1) ≤ c.N := by
      rw [hc.n]; exact Nat.mul_le_mul_left _ (Nat.pow_le_pow_right (by omega) (by omega))
    generalize c.G * 2 ^ (p.next 12).num (c.L + 1) = z at *
    generalize (p.next 12).num (c.L + 1) = y at *
    refine ⟨max 1 ((z : Int) - (((p.next 12).next (c.L + 1)).num 3 : Nat)), ((p.next 12).next (c.L + 1)).next 3, ?_, k2.next 3, by omega, by omega⟩
    rw [emax]
    refine told_of_ev (fn := mk_Picks_Size_fn) tabOk mixed (by kernel_rfl) (by kernel_rfl) (by kernel_rfl) (by kernel_rfl) ?_
    (refine gw ?_; refine Choice.mk ⟨true, Choice.mk ⟨false, _, _, t1, ?_⟩⟩)
    (refine gw ?_; refine IfB.ff (by simp; omega) ?_)
    (refine gw ?_; refine IfB.ff (by simp; omega) ?_)
    (refine gw ?_; refine IfB.ff (by simp; omega) ?_)
    (refine gw ?_; refine Choice.mk ⟨true, Choice.mk ⟨false, _, _, t3, ?_⟩⟩)
    (refine gw ?_; refine Choice.mk ⟨false, Choice.mk ⟨true, _, _, t5, ?_⟩⟩)
    (refine gw ?_; refine Choice.mk ⟨true, Choice.mk ⟨false, _, _, t4, ?_⟩⟩)
    (refine gw ?_; exact RetN.mk ⟨[], rfl, rfl, rfl⟩)
set_option maxHeartbeats 4000000 in
theorem block_told {H : Nat} (hH : H ≤ 65536) {l : List Bk} (ha : ApB H l) (p : Pk) (ok : p.Ok) : ∃ (v : Int) (p' : Pk), Told P T mk_Picks_Block [pkB p] [.ptr 0 0 0, lK l] (i64 v) [pkB p'] ∧ p'.Ok ∧ -3 ≤ v ∧ v ≤ 65536 := by
  have hml : (l.map eB).length = l.length := by simp
  have hlen := ha.len
  by_cases h0 : l.length = 0
  · have b1 := p.num_lt (m := 200) (by omega)
    refine ⟨(p.num 200 : Nat) - 3, p.next 200, ?_, ok.next 200, by omega, by omega⟩
    refine told_of_ev (fn := mk_Picks_Block_fn) tabOk mixed (by kernel_rfl) (by kernel_rfl) (by kernel_rfl) (by kernel_rfl) ?_
    (refine gw ?_; refine IfB.tt (by rw [hml, h0]; simp) ?_)
    (refine gw ?_; refine Choice.mk ⟨true, Choice.mk ⟨false, _, _, num_told p ok 200 (by omega), ?_⟩⟩)
    (refine gw ?_; exact RetN.mk ⟨[], rfl, rfl, rfl⟩)
  · have k1 := ok.next 12
    by_cases h1 : p.num 12 = 0
    · have b1 := (p.next 12).num_lt (m := 200) (by omega)
      refine ⟨((p.next 12).num 200 : Nat) - 3, (p.next 12).next 200, ?_, k1.next 200, by omega, by omega⟩
      refine told_of_ev (fn := mk_Picks_Block_fn) tabOk mixed (by kernel_rfl) (by kernel_rfl) (by kernel_rfl) (by kernel_rfl) ?_
      (refine gw ?_; refine IfB.ff (by rw [hml]; exact decide_eq_false (by omega)) ?_)
      (refine gw ?_; refine Choice.mk ⟨true, Choice.mk ⟨false, _, _, num_told p ok 12 (by omega), ?_⟩⟩)
      (refine gw ?_; refine IfB.tt (by simp [h1]) ?_)
      (refine gw ?_; refine Choice.mk ⟨true, Choice.mk ⟨false, _, _, num_told _ k1 200 (by omega), ?_⟩⟩)
      (refine gw ?_; exact RetN.mk ⟨[], rfl, rfl, rfl⟩)
    · have b1 := (p.next 12).num_lt (m := l.length) (by omega)
      have hx := ha.b _ (List.getElem_mem b1)
      refine ⟨l[(p.next 12).num l.length].a, (p.next 12).next l.length, ?_, k1.next l.length, by omega, by omega⟩
      have t2 := num_told _ k1 l.length (by omega)
      refine told_of_ev (fn := mk_Picks_Block_fn) tabOk mixed (by kernel_rfl) (by kernel_rfl) (by kernel_rfl) (by kernel_rfl) ?_
      (refine gw ?_; refine IfB.ff (by rw [hml]; exact decide_eq_false (by omega)) ?_)
      (refine gw ?_; refine Choice.mk ⟨true, Choice.mk ⟨false, _, _, num_told p ok 12 (by omega), ?_⟩⟩)
      (refine gw ?_; refine IfB.ff (by simp; omega) ?_)
      (refine gw ?_)
      rw [hml]
      (refine gw ?_; refine Choice.mk ⟨true, Choice.mk ⟨false, _, _, t2, ?_⟩⟩)
      (refine gw ?_; refine idx_map (b1) ?_)
      (refine gw ?_; exact RetN.mk ⟨[], rfl, rfl, rfl⟩)
end Go.Ev.W
namespace Go.Ev.W
open Go.Ev Go.Ev.N

set_option maxRecDepth 20000 in
set_option maxHeartbeats 8000000 in
theorem op_told {c : Cf} (hc : c.Ok) {l : List Bk} (ha : ApB c.H l) (p : Pk) (ok : p.Ok) : ∃ (o : X.O) (p' : Pk), Told P T mk_Picks_Op [pkB p] [.ptr 0 0 0, eC c, lK l] (X.encO o) [pkB p'] ∧ p'.Ok ∧ OpG c o := by
  have hH := hc.h2
  have k1 := ok.next 20
  have b1 := p.num_lt (m := 20) (by omega)
  have t1 := num_told p ok 20 (by omega)
  generalize p.next 20 = p1 at *
  generalize p.num 20 = x at *
  rcases (by omega : x < 6 ∨ x = 6 ∨ x = 7 ∨ (8 ≤ x ∧ x < 11) ∨ (11 ≤ x ∧ x < 14) ∨ x = 14 ∨ (15 ≤ x ∧ x < 17) ∨ x = 17 ∨ x = 18 ∨ x = 19) with h | h | h | h | h | h | h | h | h | h
  · obtain ⟨v, p2, t2, k2, b2⟩ := size_told hc p1 k1
    refine ⟨⟨1, 0, v, 0, 0, 0⟩, p2, ?_, k2, ⟨by simp, by simp, b2, by simp, by simp, by simp, by simp, by simp, by simp, by simp, by simp⟩⟩
    refine told_of_ev (fn := mk_Picks_Op_fn) tabOk mixed (by kernel_rfl) (by kernel_rfl) (by kernel_rfl) (by kernel_rfl) ?_
    (refine gw ?_; refine Choice.mk ⟨true, Choice.mk ⟨false, _, _, t1, ?_⟩⟩)
    (refine gw ?_; refine IfB.tt (by simp; omega) ?_)
    (refine gw ?_; refine Choice.mk ⟨true, Choice.mk ⟨false, _, _, t2, ?_⟩⟩)
    (refine gw ?_; exact RetN.mk ⟨[], rfl, rfl, rfl⟩)
  · obtain ⟨v, p2, t2, k2, b2⟩ := size_told hc (p1.next 4) (k1.next 4)
    have t3 := num_told p1 k1 4 (by omega)
    have b3 := p1.num_lt (m := 4) (by omega)
    subst h
    refine ⟨⟨2, 0, v, 0, (p1.num 4 : Nat), 0⟩, p2, ?_, k2, ⟨by simp, by simp, b2, by simp, by simp only; omega, by simp, by simp, by simp, by simp, by simp, by simp⟩⟩
    refine told_of_ev (fn := mk_Picks_Op_fn) tabOk mixed (by kernel_rfl) (by kernel_rfl) (by kernel_rfl) (by kernel_rfl) ?_
    (refine gw ?_; refine Choice.mk ⟨true, Choice.mk ⟨false, _, _, t1, ?_⟩⟩)
    (refine gw ?_; refine Choice.mk ⟨true, Choice.mk ⟨false, _, _, t3, ?_⟩⟩)
    (refine gw ?_; refine Choice.mk ⟨true, Choice.mk ⟨false, _, _, t2, ?_⟩⟩)
    (refine gw ?_; exact RetN.mk ⟨[], rfl, rfl, rfl⟩)
  · obtain ⟨v, p2, t2, k2, b2⟩ := size_told hc p1 k1
    have t3 := num_told p2 k2 7 (by omega)
    have b3 := p2.num_lt (m := 7) (by omega)
    subst h
    obtain ⟨j, hj⟩ : ∃ j, p2.num 7 = j := ⟨_, rfl⟩
    rw [hj] at t3 b3
    rcases (by omega : j = 0 ∨ j = 1 ∨ j = 2 ∨ j = 3 ∨ j = 4 ∨ j = 5 ∨ j = 6) with h | h | h | h | h | h | h
    · subst h
      refine ⟨⟨3, 0, v, 1, 0, 0⟩, p2.next 7, ?_, k2.next 7, ⟨by simp, by simp, b2, by simp, by simp, by simp, by simp, by simp, by simp, by simp, by simp⟩⟩
      refine told_of_ev (fn := mk_Picks_Op_fn) tabOk mixed (by kernel_rfl) (by kernel_rfl) (by kernel_rfl) (by kernel_rfl) ?_
      (refine gw ?_; refine Choice.mk ⟨true, Choice.mk ⟨false, _, _, t1, ?_⟩⟩)
      (refine gw ?_; refine Choice.mk ⟨true, Choice.mk ⟨false, _, _, t2, ?_⟩⟩)
      (refine gw ?_; refine Choice.mk ⟨true, Choice.mk ⟨false, _, _, t3, ?_⟩⟩)
      (refine gw ?_)
      refine InB.mk (by simp) (by simp) ?_
      (refine gw ?_)
      first | (refine At.mk ⟨_, rfl, ?_⟩) | skip
      (refine gw ?_; exact RetN.mk ⟨[], rfl, rfl, rfl⟩)
    · subst h
      refine ⟨⟨3, 0, v, 2, 0, 0⟩, p2.next 7, ?_, k2.next 7, ⟨by simp, by simp, b2, by simp, by simp, by simp, by simp, by simp, by simp, by simp, by simp⟩⟩
      refine told_of_ev (fn := mk_Picks_Op_fn) tabOk mixed (by kernel_rfl) (by kernel_rfl) (by kernel_rfl) (by kernel_rfl) ?_
      (refine gw ?_; refine Choice.mk ⟨true, Choice.mk ⟨false, _, _, t1, ?_⟩⟩)
      (refine gw ?_; refine Choice.mk ⟨true, Choice.mk ⟨false, _, _, t2, ?_⟩⟩)
      (refine gw ?_; refine Choice.mk ⟨true, Choice.mk ⟨false, _, _, t3, ?_⟩⟩)
      (refine gw ?_)
      refine InB.mk (by simp) (by simp) ?_
      (refine gw ?_)
      first | (refine At.mk ⟨_, rfl, ?_⟩) | skip
      (refine gw ?_; exact RetN.mk ⟨[], rfl, rfl, rfl⟩)
    · subst h
      refine ⟨⟨3, 0, v, 4, 0, 0⟩, p2.next 7, ?_, k2.next 7, ⟨by simp, by simp, b2, by simp, by simp, by simp, by simp, by simp, by simp, by simp, by simp⟩⟩
      refine told_of_ev (fn := mk_Picks_Op_fn) tabOk mixed (by kernel_rfl) (by kernel_rfl) (by kernel_rfl) (by kernel_rfl) ?_
      (refine gw ?_; refine Choice.mk ⟨true, Choice.mk ⟨false, _, _, t1, ?_⟩⟩)
      (refine gw ?_; refine Choice.mk ⟨true, Choice.mk ⟨false, _, _, t2, ?_⟩⟩)
      (refine gw ?_; refine Choice.mk ⟨true, Choice.mk ⟨false, _, _, t3, ?_⟩⟩)
      (refine gw ?_)
      refine InB.mk (by simp) (by simp) ?_
      (refine gw ?_)
      first | (refine At.mk ⟨_, rfl, ?_⟩) | skip
      (refine gw ?_; exact RetN.mk ⟨[], rfl, rfl, rfl⟩)
    · subst h
      refine ⟨⟨3, 0, v, 3, 0, 0⟩, p2.next 7, ?_, k2.next 7, ⟨by simp, by simp, b2, by simp, by simp, by simp, by simp, by simp, by simp, by simp, by simp⟩⟩
      refine told_of_ev (fn := mk_Picks_Op_fn) tabOk mixed (by kernel_rfl) (by kernel_rfl) (by kernel_rfl) (by kernel_rfl) ?_
      (refine gw ?_; refine Choice.mk ⟨true, Choice.mk ⟨false, _, _, t1, ?_⟩⟩)
      (refine gw ?_; refine Choice.mk ⟨true, Choice.mk ⟨false, _, _, t2, ?_⟩⟩)
      (refine gw ?_; refine Choice.mk ⟨true, Choice.mk ⟨false, _, _, t3, ?_⟩⟩)
      (refine gw ?_)
      refine InB.mk (by simp) (by simp) ?_
      (refine gw ?_)
      first | (refine At.mk ⟨_, rfl, ?_⟩) | skip
      (refine gw ?_; exact RetN.mk ⟨[], rfl, rfl, rfl⟩)
    · subst h
      refine ⟨⟨3, 0, v, 0, 0, 0⟩, p2.next 7, ?_, k2.next 7, ⟨by simp, by simp, b2, by simp, by simp, by simp, by simp, by simp, by simp, by simp, by simp⟩⟩
      refine told_of_ev (fn := mk_Picks_Op_fn) tabOk mixed (by kernel_rfl) (by kernel_rfl) (by kernel_rfl) (by kernel_rfl) ?_
      (refine gw ?_; refine Choice.mk ⟨true, Choice.mk ⟨false, _, _, t1, ?_⟩⟩)
      (refine gw ?_; refine Choice.mk ⟨true, Choice.mk ⟨false, _, _, t2, ?_⟩⟩)
      (refine gw ?_; refine Choice.mk ⟨true, Choice.mk ⟨false, _, _, t3, ?_⟩⟩)
      (refine gw ?_)
      refine InB.mk (by simp) (by simp) ?_
      (refine gw ?_)
      first | (refine At.mk ⟨_, rfl, ?_⟩) | skip
      (refine gw ?_; exact RetN.mk ⟨[], rfl, rfl, rfl⟩)
    · subst h
      refine ⟨⟨3, 0, v, 8, 0, 0⟩, p2.next 7, ?_, k2.next 7, ⟨by simp, by simp, b2, by simp, by simp, by simp, by simp, by simp, by simp, by simp, by simp⟩⟩
      refine told_of_ev (fn := mk_Picks_Op_fn) tabOk mixed (by kernel_rfl) (by kernel_rfl) (by kernel_rfl) (by kernel_rfl) ?_
      (refine gw ?_; refine Choice.mk ⟨true, Choice.mk ⟨false, _, _, t1, ?_⟩⟩)
      (refine gw ?_; refine Choice.mk ⟨true, Choice.mk ⟨false, _, _, t2, ?_⟩⟩)
      (refine gw ?_; refine Choice.mk ⟨true, Choice.mk ⟨false, _, _, t3, ?_⟩⟩)
      (refine gw ?_)
      refine InB.mk (by simp) (by simp) ?_
      (refine gw ?_)
      first | (refine At.mk ⟨_, rfl, ?_⟩) | skip
      (refine gw ?_; exact RetN.mk ⟨[], rfl, rfl, rfl⟩)
    · subst h
      refine ⟨⟨3, 0, v, 16, 0, 0⟩, p2.next 7, ?_, k2.next 7, ⟨by simp, by simp, b2, by simp, by simp, by simp, by simp, by simp, by simp, by simp, by simp⟩⟩
      refine told_of_ev (fn := mk_Picks_Op_fn) tabOk mixed (by kernel_rfl) (by kernel_rfl) (by kernel_rfl) (by kernel_rfl) ?_
      (refine gw ?_; refine Choice.mk ⟨true, Choice.mk ⟨false, _, _, t1, ?_⟩⟩)
      (refine gw ?_; refine Choice.mk ⟨true, Choice.mk ⟨false, _, _, t2, ?_⟩⟩)
      (refine gw ?_; refine Choice.mk ⟨true, Choice.mk ⟨false, _, _, t3, ?_⟩⟩)
      (refine gw ?_)
      refine InB.mk (by simp) (by simp) ?_
      (refine gw ?_)
      first | (refine At.mk ⟨_, rfl, ?_⟩) | skip
      (refine gw ?_; exact RetN.mk ⟨[], rfl, rfl, rfl⟩)
  · obtain ⟨v, p2, t2, k2, b2⟩ := block_told hH ha p1 k1
    obtain ⟨w, p3, t3, k3, b3⟩ := size_told hc p2 k2
    refine ⟨⟨4, v, w, 0, 0, 0⟩, p3, ?_, k3, ⟨by simp, b2, b3, by simp, by simp, by simp, by simp, by simp, by simp, by simp, by simp⟩⟩
    refine told_of_ev (fn := mk_Picks_Op_fn) tabOk mixed (by kernel_rfl) (by kernel_rfl) (by kernel_rfl) (by kernel_rfl) ?_
    (refine gw ?_; refine Choice.mk ⟨true, Choice.mk ⟨false, _, _, t1, ?_⟩⟩)
    (refine gw ?_; refine IfB.ff (by simp; omega) ?_)
    (refine gw ?_; refine IfB.ff (by simp; omega) ?_)
    (refine gw ?_; refine IfB.ff (by simp; omega) ?_)
    (refine gw ?_; refine IfB.tt (by simp; omega) ?_)
    (refine gw ?_; refine Choice.mk ⟨true, Choice.mk ⟨false, _, _, t2, ?_⟩⟩)
    (refine gw ?_; refine Choice.mk ⟨true, Choice.mk ⟨false, _, _, t3, ?_⟩⟩)
    (refine gw ?_; exact RetN.mk ⟨[], rfl, rfl, rfl⟩)
  · obtain ⟨v, p2, t2, k2, b2⟩ := block_told hH ha p1 k1
    refine ⟨⟨5, v, 0, 0, 0, 0⟩, p2, ?_, k2, ⟨by simp, b2, by simp; omega, by simp, by simp, by simp, by simp, by simp, by simp, by simp, by simp⟩⟩
    refine told_of_ev (fn := mk_Picks_Op_fn) tabOk mixed (by kernel_rfl) (by kernel_rfl) (by kernel_rfl) (by kernel_rfl) ?_
    (refine gw ?_; refine Choice.mk ⟨true, Choice.mk ⟨false, _, _, t1, ?_⟩⟩)
    (refine gw ?_; refine IfB.ff (by simp; omega) ?_)
    (refine gw ?_; refine IfB.ff (by simp; omega) ?_)
    (refine gw ?_; refine IfB.ff (by simp; omega) ?_)
    (refine gw ?_; refine IfB.ff (by simp; omega) ?_)
    (refine gw ?_; refine IfB.tt (by simp; omega) ?_)
    (refine gw ?_; refine Choice.mk ⟨true, Choice.mk ⟨false, _, _, t2, ?_⟩⟩)
    (refine gw ?_; exact RetN.mk ⟨[], rfl, rfl, rfl⟩)
  · obtain ⟨v, p2, t2, k2, b2⟩ := block_told hH ha p1 k1
    subst h
    refine ⟨⟨6, v, 0, 0, 0, 0⟩, p2, ?_, k2, ⟨by simp, b2, by simp; omega, by simp, by simp, by simp, by simp, by simp, by simp, by simp, by simp⟩⟩
    refine told_of_ev (fn := mk_Picks_Op_fn) tabOk mixed (by kernel_rfl) (by kernel_rfl) (by kernel_rfl) (by kernel_rfl) ?_
    (refine gw ?_; refine Choice.mk ⟨true, Choice.mk ⟨false, _, _, t1, ?_⟩⟩)
    (refine gw ?_; refine Choice.mk ⟨true, Choice.mk ⟨false, _, _, t2, ?_⟩⟩)
    (refine gw ?_; exact RetN.mk ⟨[], rfl, rfl, rfl⟩)
  · obtain ⟨v, p2, t2, k2, b2⟩ := block_told hH ha p1 k1
    have t3 := num_told p2 k2 9 (by omega)
    have b3 := p2.num_lt (m := 9) (by omega)
    refine ⟨⟨7, v, 0, 0, (p2.num 9 : Nat), 0⟩, p2.next 9, ?_, k2.next 9, ⟨by simp, b2, by simp; omega, by simp, by simp only; omega, by simp, by simp, by simp, by simp, by simp, by simp⟩⟩
    refine told_of_ev (fn := mk_Picks_Op_fn) tabOk mixed (by kernel_rfl) (by kernel_rfl) (by kernel_rfl) (by kernel_rfl) ?_
    (refine gw ?_; refine Choice.mk ⟨true, Choice.mk ⟨false, _, _, t1, ?_⟩⟩)
    (refine gw ?_; refine IfB.ff (by simp; omega) ?_)
    (refine gw ?_; refine IfB.ff (by simp; omega) ?_)
    (refine gw ?_; refine IfB.ff (by simp; omega) ?_)
    (refine gw ?_; refine IfB.ff (by simp; omega) ?_)
    (refine gw ?_; refine IfB.ff (by simp; omega) ?_)
    (refine gw ?_; refine IfB.ff (by simp; omega) ?_)
    (refine gw ?_; refine IfB.tt (by simp; omega) ?_)
    (refine gw ?_; refine Choice.mk ⟨true, Choice.mk ⟨false, _, _, t2, ?_⟩⟩)
    (refine gw ?_; refine Choice.mk ⟨true, Choice.mk ⟨false, _, _, t3, ?_⟩⟩)
    (refine gw ?_; exact RetN.mk ⟨[], rfl, rfl, rfl⟩)
  · subst h
    refine ⟨⟨9, 0, 0, 0, 0, 0⟩, p1, ?_, k1, ⟨by simp, by simp, by simp; omega, by simp, by simp, by simp, by simp, by simp, by simp, by simp, by simp⟩⟩
    refine told_of_ev (fn := mk_Picks_Op_fn) tabOk mixed (by kernel_rfl) (by kernel_rfl) (by kernel_rfl) (by kernel_rfl) ?_
    (refine gw ?_; refine Choice.mk ⟨true, Choice.mk ⟨false, _, _, t1, ?_⟩⟩)
    (refine gw ?_; exact RetN.mk ⟨[], rfl, rfl, rfl⟩)
  · subst h
    refine ⟨⟨10, 0, 0, 0, 0, 0⟩, p1, ?_, k1, ⟨by simp, by simp, by simp; omega, by simp, by simp, by simp, by simp, by simp, by simp, by simp, by simp⟩⟩
    refine told_of_ev (fn := mk_Picks_Op_fn) tabOk mixed (by kernel_rfl) (by kernel_rfl) (by kernel_rfl) (by kernel_rfl) ?_
    (refine gw ?_; refine Choice.mk ⟨true, Choice.mk ⟨false, _, _, t1, ?_⟩⟩)
    (refine gw ?_; exact RetN.mk ⟨[], rfl, rfl, rfl⟩)
  · obtain ⟨v, p2, t2, k2, b2⟩ := block_told hH ha p1 k1
    have t3 := num_told p2 k2 9 (by omega)
    have b3 := p2.num_lt (m := 9) (by omega)
    have t4 := num_told _ (k2.next 9) 256 (by omega)
    have b4 := (p2.next 9).num_lt (m := 256) (by omega)
    subst h
    refine ⟨⟨8, v, 0, 0, (p2.num 9 : Nat), ((p2.next 9).num 256 : Nat)⟩, (p2.next 9).next 256, ?_, (k2.next 9).next 256, ⟨by simp, b2, by simp; omega, by simp, by simp only; omega, by simp only; omega, by simp, by simp, by simp, by simp, by simp⟩⟩
    refine told_of_ev (fn := mk_Picks_Op_fn) tabOk mixed (by kernel_rfl) (by kernel_rfl) (by kernel_rfl) (by kernel_rfl) ?_
    (refine gw ?_; refine Choice.mk ⟨true, Choice.mk ⟨false, _, _, t1, ?_⟩⟩)
    (refine gw ?_; refine Choice.mk ⟨true, Choice.mk ⟨false, _, _, t2, ?_⟩⟩)
    (refine gw ?_; refine Choice.mk ⟨true, Choice.mk ⟨false, _, _, t3, ?_⟩⟩)
    (refine gw ?_; refine Choice.mk ⟨true, Choice.mk ⟨false, _, _, t4, ?_⟩⟩)
    (refine gw ?_)
    refine fits (by rw [IntKind.wrap_u8]; omega) ?_
    (refine gw ?_; exact RetN.mk ⟨[], rfl, rfl, rfl⟩)
end Go.Ev.W
namespace Go.Ev.W
open Go.Ev Go.Ev.N

set_option maxRecDepth 20000 in
set_option maxHeartbeats 4000000 in
theorem new17_told (r : Rw) : Told P T ref17_New [] [eR r] (.tup [eM (newM r).1, i64 ((newM r).2 : Nat)]) [] := by
  have c1 := refOf_told r
  have hok := ofF_ok (r := r)
  unfold newM
  generalize ofF r = R at *
  obtain ⟨c, e⟩ := R
  by_cases he : e = 0
  · subst he
    have hc : c.Ok := (hok rfl).1
    have hH := hc.h2
    have hpg := hc.pgpos
    have d1 : ((c.H : Nat) : Int).tdiv ((c.Pg : Nat) : Int) = ((c.H / c.Pg : Nat) : Int) := (Int.ofNat_tdiv c.H c.Pg).symm
    have d2 := Nat.div_le_self c.H c.Pg
    simp only [ne_eq, not_true_eq_false, if_false]
    generalize hD : c.H / c.Pg = D at *
    have c1 : Told P T ref1_Of [] [eR r] (.tup [eC c, i64 ((0 : Nat) : Int)]) [] := c1
    refine told_of_ev (fn := ref17_New_fn) tabOk mixed (by kernel_rfl) (by kernel_rfl) (by kernel_rfl) (by kernel_rfl) ?_
    (refine gw ?_; refine Choice.mk ⟨false, Choice.mk ⟨false, _, _, c1, ?_⟩⟩)
    (refine gw ?_)
    rw [d1]
    (refine gw ?_; refine Room.mk (by first | omega | (simp; omega) | (simp <;> fail)) ?_)
    (refine gw ?_; refine Room.mk (by first | omega | (simp; omega) | (simp <;> fail)) ?_)
    (refine gw ?_; refine RetN.fz ⟨[true, true], [], rfl, ?_, rfl⟩)
    have hr1 : lT (List.replicate D false) = .lst t_bool (List.replicate D (.bool false)) := by unfold lT; rw [List.map_replicate]
    have hr2 : lU (List.replicate c.H 0) = .lst t_uint8 (List.replicate c.H (u8 0)) := by unfold lU; rw [List.map_replicate]
    refine Eq.trans ?_ (congrArg (fun z => AV.tup [z, i64 0]) (show AV.agg [i64 c.G, i64 c.N, i64 c.M, i64 c.L, i64 c.Pg, i64 c.P, i64 c.H, i64 c.Sd, lK [], i64 0, i64 0, i64 0, .lst t_bool (List.replicate ((D : Nat) : Int).toNat (.bool false)), .lst t_uint8 (List.replicate ((c.H : Nat) : Int).toNat (u8 0))] = eM ⟨c, [], 0, 0, 0, List.replicate D false, List.replicate c.H 0⟩ by
      rw [Int.toNat_natCast, Int.toNat_natCast, ← hr1, ← hr2]; rfl))
    rfl
  · simp only [ne_eq, he, not_false_eq_true, if_true]
    refine told_of_ev (fn := ref17_New_fn) tabOk mixed (by kernel_rfl) (by kernel_rfl) (by kernel_rfl) (by kernel_rfl) ?_
    have c1 : Told P T ref1_Of [] [eR r] (.tup [eC c, i64 ((e : Nat) : Int)]) [] := c1
    (refine gw ?_; refine Choice.mk ⟨false, Choice.mk ⟨false, _, _, c1, ?_⟩⟩)
    (refine gw ?_; refine IfB.tt (by simpa using he) ?_)
    (refine gw ?_; exact RetN.fz ⟨[true, true], [], rfl, rfl, rfl⟩)
theorem newM_ok {r : Rw} (h : (newM r).2 = 0) : MoOk (newM r).1 := by
  have hok := ofF_ok (r := r)
  unfold newM at h ⊢
  split at h
  · rename_i h1; exact absurd h h1
  · rename_i h1
    rw [if_neg h1]
    have hc := (hok (Decidable.of_not_not h1)).1
    refine ⟨hc, ApB.nil _, by simp, by simp [totalB], by simp, by simp, by simp, by simp, ?_, by simp, ?_⟩
    · show cntB (List.replicate _ false) ≤ _
      unfold cntB
      rw [List.filter_eq_nil_iff.2 (by intro a ha; rw [List.eq_of_mem_replicate ha]; simp)]
      simp
    · intro x hx
      rw [List.eq_of_mem_replicate hx]; omega
end Go.Ev.W
