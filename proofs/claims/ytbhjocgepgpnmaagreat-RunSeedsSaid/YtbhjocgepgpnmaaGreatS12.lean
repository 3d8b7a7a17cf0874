/- Words and lemmas, part 12, for laws of this seat (a part of their proofs). -/
import Derived.Test.YtbhjocgepgpnmaaGreatS1
import Derived.Test.YtbhjocgepgpnmaaGreatS6
import Derived.Test.YtbhjocgepgpnmaaGreatS7
import Derived.Test.YtbhjocgepgpnmaaGreatS10
import Derived.Test.YtbhjocgepgpnmaaGreatS11
import Derived.Test.YtbhjocgepgpnmaaGreatNm
import Derived.Test.YtbhjocgepgpnmaaGreatEvOpen
import Derived.Test.YtbhjocgepgpnmaaGreatEvLib
import Derived.Test.YtbhjocgepgpnmaaGreatEvGrid
import Derived.Test.YtbhjocgepgpnmaaGreatEvTrim
set_option linter.unusedVariables false
set_option linter.unusedSimpArgs false
namespace Go.Ev.W
open Go.Ev Go.Ev.N

/-- What is told of what was let in, or not. -/
def asksF (m : Mo) (ce : Nat × Nat) (q : Int) (f : Mo × Int × Nat → Mo) : Mo × An :=
  if ce.2 ≠ 0 then (m, anE ce.2) else if (placeF m m.bs ce.1 q).2.2 ≠ 0 then (m, anE (placeF m m.bs ce.1 q).2.2) else (f (placeF m m.bs ce.1 q), { an0 with at' := (placeF m m.bs ce.1 q).2.1 })
theorem class_bd {c : Cf} (hc : c.Ok) : ∀ ch, (∃ k, k ≤ c.L ∧ ch = c.G * 2 ^ k) → 1 ≤ ch ∧ ch ≤ c.N := fun ch ⟨k, h1, h2⟩ => by
  rw [h2, hc.n]
  exact ⟨Nat.mul_pos hc.gpos (Nat.two_pow_pos _), Nat.mul_le_mul_left _ (Nat.pow_le_pow_right (by omega) h1)⟩
set_option maxRecDepth 20000 in
set_option maxHeartbeats 4000000 in
theorem aligned_told {m : Mo} (hm : MoOk m) {s a : Int} (ha : a ≤ 9223372036854775807) : Told P T plain_aligned [rK m.bs, rT m.on, rU m.mem] [eMr m.c (.ref 0) m.live m.peak m.mark (.ref 1) (.ref 2), i64 s, i64 a] (.tup [eM (asksF m (newF m.c m.live s a) s (·.1)).1, eA (asksF m (newF m.c m.live s a) s (·.1)).2]) [.dead, .dead, .dead] := by
  have hH := hm.c.h2
  have hMH : m.c.M ≤ m.c.H := by have := hm.c.h; omega
  have htb := totalB_nonneg hm.a
  have hlive : 0 ≤ m.live ∧ m.live ≤ 1000000 := by have := hm.l; have := hm.lM; omega
  have c1 := admitNew_told hm.c m.live s a hlive ha
  have n1 := newF_ok hm.c (live := m.live) (s := s) (a := a)
  unfold asksF
  generalize newF m.c m.live s a = C at *
  obtain ⟨ch, e⟩ := C
  refine told_of_ev_drop (fn := plain_aligned_fn) tabOk mixed (by kernel_rfl) (by kernel_rfl) (by kernel_rfl) (by kernel_rfl) ?_
  (refine gw ?_; refine Choice.mk ⟨false, Choice.mk ⟨true, _, _, c1, ?_⟩⟩)
  by_cases he : e = 0
  · subst he
    obtain ⟨hch, hq1, hq2, hq3⟩ := n1 rfl
    obtain ⟨hc1, hc2⟩ := class_bd hm.c ch hch
    have hpi := hm.putIn (q := s) hc1 hc2
    have t1 := putsNo_told hpi
    have t2 := puts_told hpi
    simp only [ne_eq, not_true_eq_false, if_false]
    generalize placeF m m.bs ch s = C2 at *
    obtain ⟨m2, y2, e2⟩ := C2
    by_cases he2 : e2 = 0
    · subst he2
      simp only [ne_eq, not_true_eq_false, if_false]
      rcases t2 rfl with t | t
      · (refine gw ?_; refine Choice.mk ⟨true, Choice.mk ⟨false, _, _, t, ?_⟩⟩)
        (refine gw ?_)
        exact RetN.fz ⟨[true, true], [], rfl, rfl, .inr rfl, .inr rfl, .inr rfl, trivial⟩
      · (refine gw ?_; refine Choice.mk ⟨true, Choice.mk ⟨false, _, _, t, ?_⟩⟩)
        (refine gw ?_)
        exact RetN.fz ⟨[true, true], [], rfl, rfl, .inr rfl, .inr rfl, .inr rfl, trivial⟩
    · simp only [ne_eq, he2, not_false_eq_true, if_true]
      have t1 := t1 he2
      (refine gw ?_; refine Choice.mk ⟨true, Choice.mk ⟨false, _, _, t1, ?_⟩⟩)
      (refine gw ?_)
      exact RetN.fz ⟨[true, true], [], rfl, rfl, .inr rfl, .inr rfl, .inr rfl, trivial⟩
  · simp only [ne_eq, he, not_false_eq_true, if_true]
    (refine gw ?_; refine IfB.tt (by simpa using he) ?_)
    (refine gw ?_)
    exact RetN.fz ⟨[true, true], [], rfl, rfl, .inr rfl, .inr rfl, .inr rfl, trivial⟩
set_option maxRecDepth 20000 in
set_option maxHeartbeats 4000000 in
theorem calloc_told {m : Mo} (hm : MoOk m) {n s : Int} (hn : -9223372036854775808 ≤ n ∧ n ≤ 9223372036854775807) (hs : -9223372036854775808 ≤ s ∧ s ≤ 9223372036854775807) :
    Told P T plain_calloc [rK m.bs, rT m.on, rU m.mem] [eMr m.c (.ref 0) m.live m.peak m.mark (.ref 1) (.ref 2), i64 n, i64 s] (.tup [eM (asksF m (manyF m.c m.live n s) (n * s) (fun p => { p.1 with mem := zeroF p.1.mem p.2.1.toNat (manyF m.c m.live n s).1 })).1, eA (asksF m (manyF m.c m.live n s) (n * s) (fun p => { p.1 with mem := zeroF p.1.mem p.2.1.toNat (manyF m.c m.live n s).1 })).2]) [.dead, .dead, .dead] := by
  have hH := hm.c.h2
  have hMH : m.c.M ≤ m.c.H := by have := hm.c.h; omega
  have hNM := hm.c.nM
  have htb := totalB_nonneg hm.a
  have hlive : 0 ≤ m.live ∧ m.live ≤ 1000000 := by have := hm.l; have := hm.lM; omega
  have c1 := admitMany_told hm.c m.live n s hlive hn hs
  have c0 := classProd_told (c := m.c) (by omega) n s hn hs
  have n0 := prodF_ok (c := m.c) (n := n) (s := s)
  have n1 := manyF_ok hm.c (live := m.live) (n := n) (s := s)
  have n2 : (manyF m.c m.live n s).2 = 0 → (prodF m.c n s).2 = 0 := fun h => by
    unfold manyF at h
    split at h
    · rename_i h1; exact absurd h h1
    · rename_i h1; simpa using h1
  unfold asksF
  generalize manyF m.c m.live n s = C at *
  obtain ⟨ch, e⟩ := C
  refine told_of_ev_drop (fn := plain_calloc_fn) tabOk mixed (by kernel_rfl) (by kernel_rfl) (by kernel_rfl) (by kernel_rfl) ?_
  (refine gw ?_; refine Choice.mk ⟨false, Choice.mk ⟨true, _, _, c1, ?_⟩⟩)
  by_cases he : e = 0
  · subst he
    obtain ⟨hch, hq1, hq2, hq3, hq4⟩ := n1 rfl
    have hp := n0 (n2 rfl)
    have e0 : i64 ((prodF m.c n s).1 : Nat) = i64 (n * s) := by rw [hp.2.2.2]
    rw [e0] at c0
    obtain ⟨hc1, hc2⟩ := class_bd hm.c ch hch
    have hpi := hm.putIn (q := n * s) hc1 hc2
    have t1 := putsNo_told hpi
    have t2 := puts_told hpi
    have n2 := placeF_ok hm hm.a hm.z hch ⟨hq1, hq2⟩ (by rw [← hm.l]; exact hq3) hm.k.1
    simp only [ne_eq, not_true_eq_false, if_false]
    (refine gw ?_; refine Choice.mk ⟨false, Choice.mk ⟨true, _, _, c0, ?_⟩⟩)
    generalize placeF m m.bs ch (n * s) = C2 at *
    obtain ⟨m2, y2, e2⟩ := C2
    by_cases he2 : e2 = 0
    · subst he2
      have n3 : Put m m.bs ch (n * s) m2 y2 := n2 rfl
      have hy := n3.y0
      have hy2 := n3.yH
      have hml := n3.ml
      have hmm := hm.mm
      have c4 := memZero_told (mem := m2.mem) (by omega) (a := y2.toNat) (n := ch) (by omega)
      rw [Int.toNat_of_nonneg hy] at c4
      simp only [ne_eq, not_true_eq_false, if_false]
      rcases t2 rfl with t | t
      · (refine gw ?_; refine Choice.mk ⟨true, Choice.mk ⟨false, _, _, t, ?_⟩⟩)
        (refine gw ?_; refine Choice.mk ⟨false, Choice.mk ⟨false, _, _, c4, ?_⟩⟩)
        (refine gw ?_)
        exact RetN.fz ⟨[true, true], [], rfl, rfl, .inr rfl, .inr rfl, .inr rfl, trivial⟩
      · (refine gw ?_; refine Choice.mk ⟨true, Choice.mk ⟨false, _, _, t, ?_⟩⟩)
        (refine gw ?_; refine Choice.mk ⟨false, Choice.mk ⟨false, _, _, c4, ?_⟩⟩)
        (refine gw ?_)
        exact RetN.fz ⟨[true, true], [], rfl, rfl, .inr rfl, .inr rfl, .inr rfl, trivial⟩
    · simp only [ne_eq, he2, not_false_eq_true, if_true]
      have t1 := t1 he2
      (refine gw ?_; refine Choice.mk ⟨true, Choice.mk ⟨false, _, _, t1, ?_⟩⟩)
      (refine gw ?_; refine IfB.tt (by simpa using he2) ?_)
      (refine gw ?_)
      exact RetN.fz ⟨[true, true], [], rfl, rfl, .inr rfl, .inr rfl, .inr rfl, trivial⟩
  · simp only [ne_eq, he, not_false_eq_true, if_true]
    (refine gw ?_; refine IfB.tt (by simpa using he) ?_)
    (refine gw ?_)
    exact RetN.fz ⟨[true, true], [], rfl, rfl, .inr rfl, .inr rfl, .inr rfl, trivial⟩
end Go.Ev.W
namespace Go.Ev.W
open Go.Ev Go.Ev.N

set_option maxRecDepth 20000 in
set_option maxHeartbeats 8000000 in
theorem realloc_told {m : Mo} (hm : MoOk m) {o : X.O} (ho : OpOk o) {i : Nat} (hi : i < m.bs.length) (hk : o.k = 4) : Told P T plain_realloc [rK m.bs, rT m.on, rU m.mem] [eMr m.c (.ref 0) m.live m.peak m.mark (.ref 1) (.ref 2), i64 i, i64 o.s] (.tup [eM (ofB m o i).1, eA (ofB m o i).2]) [.dead, .dead, .dead] := by
  have hH := hm.c.h2
  have hNM := hm.c.nM
  have hMH : m.c.M ≤ m.c.H := by have := hm.c.h; omega
  have htb := totalB_nonneg hm.a
  have hlen := hm.a.len
  have hlive : 0 ≤ m.live ∧ m.live ≤ 65536 := by have := hm.l; have := hm.lM; omega
  have hml : (m.bs.map eB).length = m.bs.length := by simp
  have hmu : (m.mem.map u8).length = m.c.H := by rw [List.length_map]; exact hm.mm
  have hmm := hm.mm
  have hmo : (m.on.map AV.bool).length ≤ 65536 := by rw [List.length_map]; have := hm.o; have := Nat.div_le_self m.c.H m.c.Pg; omega
  have hsr := ho.s
  have hb := hm.a.b _ (List.getElem_mem hi)
  have hdt := dropB_tot hi
  have hds := dropB_sub m.bs i
  have had := hm.a.sub hds
  have hdn := totalB_nonneg had
  have hg : m.bs.getD i bk0 = m.bs[i] := by simp [List.getD_eq_getElem?_getD, hi]
  have hl := hm.l
  have hpk := hm.p
  have hmk := hm.k
  have c1 := admitAnew_told hm.c m.live m.bs[i].c o.s (by omega)
  have n1 := newF_ok hm.c (live := m.live - m.bs[i].c) (s := o.s) (a := 1)
  have c2 := twin_told (c := m.c) (live := m.live) (peak := m.peak) (mark := m.mark) (bs := m.bs.map eB) (on := m.on.map .bool) (mem := m.mem.map u8) (by omega) (by omega) (by omega)
  have c3 := goes_told (c := m.c) (live := m.live) (peak := m.peak) (mark := m.mark) (bs := m.bs) (on := m.on.map .bool) (mem := m.mem.map u8) (by omega) (by omega) (fun x hx => by have := hm.a.b x hx; omega) hi
  unfold ofB
  simp only []
  rw [hg, if_pos hk]
  generalize newF m.c (m.live - m.bs[i].c) o.s 1 = C at *
  obtain ⟨ch, e⟩ := C
  refine told_of_ev_drop (fn := plain_realloc_fn) tabOk mixed (by kernel_rfl) (by kernel_rfl) (by kernel_rfl) (by kernel_rfl) ?_
  (refine gw ?_)
  refine at_map (k := i) hi ?_
  (refine gw ?_; refine Choice.mk ⟨false, Choice.mk ⟨true, _, _, c1, ?_⟩⟩)
  by_cases he : e = 0
  · subst he
    obtain ⟨hch, hq1, hq2, hq3⟩ := n1 rfl
    obtain ⟨hc1, hc2⟩ := class_bd hm.c ch hch
    have hpi : PutIn { m with bs := dropB m.bs i, live := m.live - m.bs[i].c } ch o.s := ⟨hm.c, had, by rw [hdt, ← hl], by simp only; omega, by simp only; omega, hm.o, hm.mm, hc1, hc2⟩
    have t1 := putsNo_told hpi
    have t2 := puts_told hpi
    have n2 := placeF_ok hm had (fun x hx => hm.z x (hds.subset hx)) hch ⟨hq1, hq2⟩ (by rw [hdt, ← hl]; exact hq3) (fun x hx => hm.k.1 x (hds.subset hx))
    have ePl : (placeF { m with bs := dropB m.bs i, live := m.live - m.bs[i].c } (dropB m.bs i) ch o.s).2 = (placeF m (dropB m.bs i) ch o.s).2 ∧ ((placeF { m with bs := dropB m.bs i, live := m.live - m.bs[i].c } (dropB m.bs i) ch o.s).2.2 = 0 → (placeF { m with bs := dropB m.bs i, live := m.live - m.bs[i].c } (dropB m.bs i) ch o.s).1 = (placeF m (dropB m.bs i) ch o.s).1) := by
      unfold placeF
      simp only
      split
      · exact ⟨rfl, fun h => by simp at h⟩
      · split
        · exact ⟨rfl, fun h => by simp at h⟩
        · exact ⟨rfl, fun _ => rfl⟩
    obtain ⟨e1, e2⟩ := ePl
    rw [show ({ m with bs := dropB m.bs i, live := m.live - m.bs[i].c } : Mo).bs = dropB m.bs i from rfl] at t1 t2
    rw [e1] at t1 t2 e2
    simp only [ne_eq, not_true_eq_false, if_false]
    (refine gw ?_; refine Choice.mk ⟨false, Choice.mk ⟨false, _, _, c2, ?_⟩⟩)
    (refine gw ?_; refine Choice.mk ⟨true, Choice.mk ⟨false, _, _, c3, ?_⟩⟩)
    by_cases he2 : (placeF m (dropB m.bs i) ch o.s).2.2 = 0
    · rw [e2 he2] at t2
      have t3 := t2 he2
      have n3 := n2 he2
      clear t1 e1 e2 t2 n2
      generalize placeF m (dropB m.bs i) ch o.s = C2 at *
      obtain ⟨m2, y2, e2⟩ := C2
      simp only at he2 t3 n3
      subst he2
      simp only [not_true_eq_false, if_false]
      have hy := n3.y0
      have hy2 := n3.yH
      have hml2 := n3.ml
      have hu2 : (m2.mem.map u8).length = m.c.H := by rw [List.length_map]; omega
      have emin : ∀ a b : Int, min a b = if b < a then b else a := fun a b => by split <;> omega
      obtain ⟨y, rfl⟩ : ∃ y : Nat, y2 = ((y : Nat) : Int) := ⟨y2.toNat, by omega⟩
      rw [emin]
      obtain ⟨N, hN, hN1, hN2⟩ : ∃ N : Nat, (if m.bs[i].c < (ch : Int) then m.bs[i].c else (ch : Int)) = ((N : Nat) : Int) ∧ N ≤ ch ∧ ((N : Nat) : Int) ≤ m.bs[i].c := ⟨(if m.bs[i].c < (ch : Int) then m.bs[i].c else (ch : Int)).toNat, by split <;> omega, by split <;> omega, by split <;> omega⟩
      have hN' : (if (ch : Int) < m.bs[i].c then (ch : Int) else m.bs[i].c) = ((N : Nat) : Int) := by rw [← hN]; split <;> split <;> omega
      rw [hN]
      have hX : lU (m2.mem.take ((y : Nat) : Int).toNat ++ (m.mem.take (m.bs[i].a + ((N : Nat) : Int)).toNat).drop m.bs[i].a.toNat ++ m2.mem.drop (((y : Nat) : Int) + ((N : Nat) : Int)).toNat) =
          .lst t_uint8 ((m2.mem.map u8).take ((y : Nat) : Int).toNat ++ (List.take (min (((m.mem.map u8).take (m.bs[i].a + ((N : Nat) : Int)).toNat).drop m.bs[i].a.toNat).length ((((m2.mem.map u8).length : Nat) : Int).toNat - ((y : Nat) : Int).toNat)) (((m.mem.map u8).take (m.bs[i].a + ((N : Nat) : Int)).toNat).drop m.bs[i].a.toNat) ++ (m2.mem.map u8).drop (((y : Nat) : Int).toNat + min (((m.mem.map u8).take (m.bs[i].a + ((N : Nat) : Int)).toNat).drop m.bs[i].a.toNat).length ((((m2.mem.map u8).length : Nat) : Int).toNat - ((y : Nat) : Int).toNat)))) := by
        have g1 : (((m.mem.map u8).take (m.bs[i].a + ((N : Nat) : Int)).toNat).drop m.bs[i].a.toNat).length = N := by rw [List.length_drop, List.length_take, hmu]; omega
        have g2 : min N ((((m2.mem.map u8).length : Nat) : Int).toNat - ((y : Nat) : Int).toNat) = N := by rw [hu2]; omega
        have g4 : List.take N (((m.mem.map u8).take (m.bs[i].a + ((N : Nat) : Int)).toNat).drop m.bs[i].a.toNat) = ((m.mem.map u8).take (m.bs[i].a + ((N : Nat) : Int)).toNat).drop m.bs[i].a.toNat := List.take_of_length_le (by rw [g1]; exact Nat.le_refl _)
        rw [g1, g2, g4]
        have g3 : (((y : Nat) : Int) + ((N : Nat) : Int)).toNat = y + N := by omega
        unfold lU
        rw [g3, Int.toNat_natCast]
        simp only [List.map_append, List.map_take, List.map_drop, List.append_assoc]
      rcases t3 with t | t
      · (refine gw ?_; refine Choice.mk ⟨true, Choice.mk ⟨false, _, _, t, ?_⟩⟩)
        (refine gw ?_; refine Cut.mk (by first | omega | (simp; omega) | (simp <;> fail)) (by first | omega | (simp; omega) | (simp <;> fail)) (by first | omega | (simp; omega) | (simp <;> fail)) ?_)
        (refine gw ?_)
        rw [hN']
        (refine gw ?_; refine Cut.mk (by first | omega | (simp; omega) | (simp <;> fail)) (by first | omega | (simp; omega) | (simp <;> fail)) (by first | omega | (simp; omega) | (simp <;> fail)) ?_)
        (refine gw ?_)
        refine RetN.fz ⟨[true, true], [], rfl, ?_, .inr rfl, .inr rfl, .inr rfl, trivial⟩
        refine Eq.trans ?_ (congrArg (fun z => AV.tup [AV.agg [i64 m2.c.G, i64 m2.c.N, i64 m2.c.M, i64 m2.c.L, i64 m2.c.Pg, i64 m2.c.P, i64 m2.c.H, i64 m2.c.Sd, lK m2.bs, i64 m2.live, i64 m2.peak, i64 m2.mark, lT m2.on, z], eA { an0 with at' := ((y : Nat) : Int) }]) hX.symm)
        rfl
      · (refine gw ?_; refine Choice.mk ⟨true, Choice.mk ⟨false, _, _, t, ?_⟩⟩)
        (refine gw ?_; refine Cut.mk (by first | omega | (simp; omega) | (simp <;> fail)) (by first | omega | (simp; omega) | (simp <;> fail)) (by first | omega | (simp; omega) | (simp <;> fail)) ?_)
        (refine gw ?_)
        rw [hN']
        (refine gw ?_; refine Cut.mk (by first | omega | (simp; omega) | (simp <;> fail)) (by first | omega | (simp; omega) | (simp <;> fail)) (by first | omega | (simp; omega) | (simp <;> fail)) ?_)
        (refine gw ?_)
        refine RetN.fz ⟨[true, true], [], rfl, ?_, .inr rfl, .inr rfl, .inr rfl, trivial⟩
        refine Eq.trans ?_ (congrArg (fun z => AV.tup [AV.agg [i64 m2.c.G, i64 m2.c.N, i64 m2.c.M, i64 m2.c.L, i64 m2.c.Pg, i64 m2.c.P, i64 m2.c.H, i64 m2.c.Sd, lK m2.bs, i64 m2.live, i64 m2.peak, i64 m2.mark, lT m2.on, z], eA { an0 with at' := ((y : Nat) : Int) }]) hX.symm)
        rfl
    · have t1 := t1 he2
      simp only [he2, not_false_eq_true, if_true]
      (refine gw ?_; refine Choice.mk ⟨true, Choice.mk ⟨false, _, _, t1, ?_⟩⟩)
      (refine gw ?_; refine IfB.tt (by simpa using he2) ?_)
      (refine gw ?_)
      exact RetN.fz ⟨[true, true], [], rfl, rfl, .inr rfl, .inr rfl, .inr rfl, trivial⟩
  · simp only [ne_eq, he, not_false_eq_true, if_true]
    (refine gw ?_; refine IfB.tt (by simpa using he) ?_)
    (refine gw ?_)
    exact RetN.fz ⟨[true, true], [], rfl, rfl, .inr rfl, .inr rfl, .inr rfl, trivial⟩
end Go.Ev.W
namespace Go.Ev.W
open Go.Ev Go.Ev.N

theorem pg_le {c : Cf} (hc : c.Ok) (h : 1 ≤ c.H) : c.Pg ≤ c.H := by
  obtain ⟨k, hk⟩ := hc.pgH
  have : 1 ≤ k := by
    rcases Nat.eq_zero_or_pos k with h | h
    · subst h; omega
    · exact h
  rw [hk]; exact Nat.le_mul_of_pos_right _ this
set_option maxRecDepth 20000 in
set_option maxHeartbeats 4000000 in
theorem plainTrim_told {m : Mo} (hm : MoOk m) (hH1 : 1 ≤ m.c.H) : Told P T plain_trim [rK m.bs, rT m.on, rU m.mem] [eMr m.c (.ref 0) m.live m.peak m.mark (.ref 1) (.ref 2)] (.tup [eM { m with on := (trimF m.on (metF m.c.Pg m.c.H m.bs)).1 }, eA { an0 with n := (trimF m.on (metF m.c.Pg m.c.H m.bs)).2 }]) [.dead, .dead, .dead] := by
  have hH := hm.c.h2
  have hpg := hm.c.pgpos
  have hlen := hm.a.len
  have hml : (metF m.c.Pg m.c.H m.bs).length = m.on.length := by rw [hm.o]; simp [metF]
  have hol : m.on.length ≤ 65536 := by have := hm.o; have := Nat.div_le_self m.c.H m.c.Pg; omega
  have c3 := pinMetR_told (pg := m.c.Pg) (size := m.c.H) hpg hH (pg_le hm.c hH1) (l := m.bs) (by omega) hm.a.b
  have c4 := trim_told hml hol
  refine told_of_ev_drop (fn := plain_trim_fn) tabOk mixed (by kernel_rfl) (by kernel_rfl) (by kernel_rfl) (by kernel_rfl) ?_
  (refine gw ?_; refine Choice.mk ⟨false, Choice.mk ⟨true, _, _, c3, ?_⟩⟩)
  (refine gw ?_)
  refine Need.mk ?_ ?_
  · intro x hx
    obtain ⟨v, _, rfl⟩ := List.mem_map.1 hx
    rfl
  (refine gw ?_; refine Choice.mk ⟨false, Choice.mk ⟨false, _, _, c4, ?_⟩⟩)
  (refine gw ?_)
  exact RetN.fz ⟨[true, true], [], rfl, rfl, .inr rfl, .inr rfl, .inr rfl, trivial⟩
set_option maxRecDepth 20000 in
set_option maxHeartbeats 4000000 in
theorem bytes_told {m : Mo} (hm : MoOk m) {o : X.O} (ho : OpOk o) {i : Nat} (hi : i < m.bs.length) (hk : o.k = 7 ∨ o.k = 8) : Told P T plain_bytes [rK m.bs, rT m.on, rU m.mem] [eMr m.c (.ref 0) m.live m.peak m.mark (.ref 1) (.ref 2), i64 i, X.encO o] (.tup [eM (ofB m o i).1, eA (ofB m o i).2]) [.dead, .dead, .dead] := by
  have hH := hm.c.h2
  have hb := hm.a.b _ (List.getElem_mem hi)
  have hml : (m.bs.map eB).length = m.bs.length := by simp
  have hg : m.bs.getD i bk0 = m.bs[i] := by simp [List.getD_eq_getElem?_getD, hi]
  have hnr := ho.n
  have hbr := ho.b
  have hmm := hm.mm
  unfold ofB
  simp only []
  rw [hg, if_neg (by omega), if_neg (by omega), if_neg (by omega)]
  refine told_of_ev_drop (fn := plain_bytes_fn) tabOk mixed (by kernel_rfl) (by kernel_rfl) (by kernel_rfl) (by kernel_rfl) ?_
  (refine gw ?_)
  refine at_map (k := i) hi ?_
  by_cases hr : o.n < 0 ∨ o.n ≥ m.bs[i].c
  · rw [if_pos hr]
    by_cases h0 : o.n < 0
    · (refine gw ?_; refine IfB.tt (by simpa using h0) ?_)
      (refine gw ?_)
      exact RetN.fz ⟨[true, true], [], rfl, rfl, .inr rfl, .inr rfl, .inr rfl, trivial⟩
    · (refine gw ?_; refine IfB.ff (by simpa using h0) ?_)
      (refine gw ?_; refine IfB.tt (by simp; omega) ?_)
      (refine gw ?_)
      exact RetN.fz ⟨[true, true], [], rfl, rfl, .inr rfl, .inr rfl, .inr rfl, trivial⟩
  · obtain ⟨j, hj⟩ : ∃ j : Nat, m.bs[i].a + o.n = ((j : Nat) : Int) := ⟨(m.bs[i].a + o.n).toNat, by omega⟩
    rw [if_neg hr]
    (refine gw ?_; refine IfB.ff (by simp; omega) ?_)
    (refine gw ?_; refine IfB.ff (by simp; omega) ?_)
    rw [hj, Int.toNat_natCast]
    have c1 := memGet_told (mem := m.mem) (by omega) (a := j) (by omega)
    have c2 := memPut_told (mem := m.mem) (by omega) (a := j) (b := o.b) (by omega)
    by_cases h7 : o.k = 7
    · rw [if_pos h7]
      (refine gw ?_; refine IfB.tt (by simp [h7]) ?_)
      (refine gw ?_)
      rw [hj]
      (refine gw ?_; refine Choice.mk ⟨false, Choice.mk ⟨true, _, _, c1, ?_⟩⟩)
      (refine gw ?_)
      exact RetN.fz ⟨[true, true], [], rfl, rfl, .inr rfl, .inr rfl, .inr rfl, trivial⟩
    · rw [if_neg h7]
      (refine gw ?_; refine IfB.ff (by simp [h7]) ?_)
      (refine gw ?_)
      rw [hj]
      (refine gw ?_; refine Choice.mk ⟨false, Choice.mk ⟨false, _, _, c2, ?_⟩⟩)
      (refine gw ?_)
      have hse : lU (m.mem.set j o.b.toNat) = .lst t_uint8 ((m.mem.map u8).set j (.int .u8 o.b)) := by
        unfold lU
        rw [List.map_set]
        have : u8 o.b.toNat = .int .u8 o.b := by unfold u8; rw [Int.toNat_of_nonneg hbr.1]
        rw [this]
      refine RetN.fz ⟨[true, true], [], rfl, ?_, .inr rfl, .inr rfl, .inr rfl, trivial⟩
      refine Eq.trans ?_ (congrArg (fun z => AV.tup [AV.agg [i64 m.c.G, i64 m.c.N, i64 m.c.M, i64 m.c.L, i64 m.c.Pg, i64 m.c.P, i64 m.c.H, i64 m.c.Sd, lK m.bs, i64 m.live, i64 m.peak, i64 m.mark, lT m.on, z], eA an0]) hse.symm)
      rfl
set_option maxRecDepth 20000 in
set_option maxHeartbeats 4000000 in
theorem block_told' {m : Mo} (hm : MoOk m) {o : X.O} (ho : OpOk o) (hk : o.k = 4 ∨ o.k = 5 ∨ o.k = 6 ∨ o.k = 7 ∨ o.k = 8) : Told P T plain_block [rK m.bs, rT m.on, rU m.mem] [eMr m.c (.ref 0) m.live m.peak m.mark (.ref 1) (.ref 2), X.encO o] (.tup [eM (doF m o).1, eA (doF m o).2]) [.dead, .dead, .dead] := by
  have hH := hm.c.h2
  have hMH : m.c.M ≤ m.c.H := by have := hm.c.h; omega
  have hlen := hm.a.len
  have htb := totalB_nonneg hm.a
  have hlive : 0 ≤ m.live ∧ m.live ≤ 65536 := by have := hm.l; have := hm.lM; omega
  have hml : (m.bs.map eB).length = m.bs.length := by simp
  have c1 := plainFind_told m (by omega) o.p
  unfold doF
  rw [if_neg (by omega), if_neg (by omega), if_neg (by omega), if_pos hk]
  refine told_of_ev_drop (fn := plain_block_fn) tabOk mixed (by kernel_rfl) (by kernel_rfl) (by kernel_rfl) (by kernel_rfl) ?_
  cases hf : findB m.bs o.p with
  | none =>
    rw [hf] at c1
    (refine gw ?_; refine Choice.mk ⟨false, Choice.mk ⟨true, _, _, c1, ?_⟩⟩)
    (refine gw ?_)
    exact RetN.fz ⟨[true, true], [], rfl, rfl, .inr rfl, .inr rfl, .inr rfl, trivial⟩
  | some i =>
    rw [hf] at c1
    obtain ⟨hi, _⟩ := findB_lt hf
    have hb := hm.a.b _ (List.getElem_mem hi)
    simp only at c1 ⊢
    (refine gw ?_; refine Choice.mk ⟨false, Choice.mk ⟨true, _, _, c1, ?_⟩⟩)
    by_cases h4 : o.k = 4
    · have c2 := realloc_told hm ho hi h4
      (refine gw ?_; refine IfB.tt (by simp [h4]) ?_)
      (refine gw ?_; refine Choice.mk ⟨true, Choice.mk ⟨false, _, _, c2, ?_⟩⟩)
      (refine gw ?_)
      exact RetN.fz ⟨[true, true], [], rfl, rfl, .inr rfl, .inr rfl, .inr rfl, trivial⟩
    · have hg : m.bs.getD i bk0 = m.bs[i] := by simp [List.getD_eq_getElem?_getD, hi]
      (refine gw ?_; refine IfB.ff (by simp [h4]) ?_)
      by_cases h5 : o.k = 5
      · have e5 : ofB m o i = ({ m with bs := dropB m.bs i, live := m.live - m.bs[i].c }, an0) := by unfold ofB; simp only []; rw [hg, if_neg h4, if_pos h5]
        rw [e5]
        have c3 := goes_told (c := m.c) (live := m.live) (peak := m.peak) (mark := m.mark) (bs := m.bs) (on := m.on.map .bool) (mem := m.mem.map u8) (by omega) (by omega) (fun x hx => by have := hm.a.b x hx; omega) hi
        (refine gw ?_; refine IfB.tt (by simp [h5]) ?_)
        (refine gw ?_; refine Choice.mk ⟨true, Choice.mk ⟨false, _, _, c3, ?_⟩⟩)
        (refine gw ?_)
        exact RetN.fz ⟨[true, true], [], rfl, rfl, .inr rfl, .inr rfl, .inr rfl, trivial⟩
      · (refine gw ?_; refine IfB.ff (by simp [h5]) ?_)
        by_cases h6 : o.k = 6
        · have e6 : ofB m o i = (m, { an0 with n := m.bs[i].c }) := by unfold ofB; simp only []; rw [hg, if_neg h4, if_neg h5, if_pos h6]
          rw [e6]
          (refine gw ?_; refine IfB.tt (by simp [h6]) ?_)
          (refine gw ?_)
          refine at_map (k := i) hi ?_
          (refine gw ?_)
          exact RetN.fz ⟨[true, true], [], rfl, rfl, .inr rfl, .inr rfl, .inr rfl, trivial⟩
        · have c2 := bytes_told hm ho hi (by omega)
          (refine gw ?_; refine IfB.ff (by simp [h6]) ?_)
          (refine gw ?_; refine Choice.mk ⟨true, Choice.mk ⟨false, _, _, c2, ?_⟩⟩)
          (refine gw ?_)
          exact RetN.fz ⟨[true, true], [], rfl, rfl, .inr rfl, .inr rfl, .inr rfl, trivial⟩
set_option maxRecDepth 20000 in
set_option maxHeartbeats 4000000 in
theorem plainDo_told {m : Mo} (hm : MoOk m) (hH1 : 1 ≤ m.c.H) {o : X.O} (ho : OpOk o) : Told P T plain_Do [] [eM m, X.encO o] (.tup [eM (doF m o).1, eA (doF m o).2]) [] := by
  have hH := hm.c.h2
  have hlen := hm.a.len
  have hmm := hm.mm
  have hol : m.on.length ≤ 65536 := by have := hm.o; have := Nat.div_le_self m.c.H m.c.Pg; omega
  have c0 := twin_told (c := m.c) (live := m.live) (peak := m.peak) (mark := m.mark) (bs := m.bs.map eB) (on := m.on.map .bool) (mem := m.mem.map u8) (by rw [List.length_map]; omega) (by rw [List.length_map]; omega) (by rw [List.length_map]; omega)
  have c0 : Told P T plain_twin [] [eM m] _ _ := c0
  refine told_of_ev (fn := plain_Do_fn) tabOk mixed (by kernel_rfl) (by kernel_rfl) (by kernel_rfl) (by kernel_rfl) ?_
  (refine gw ?_; refine Choice.mk ⟨false, Choice.mk ⟨false, _, _, c0, ?_⟩⟩)
  by_cases h1 : o.k = 1
  · have c1 := aligned_told hm (s := o.s) (a := 1) (by omega)
    have e : doF m o = asksF m (newF m.c m.live o.s 1) o.s (·.1) := by
      unfold doF giveF asksF
      rw [if_pos (.inl h1)]
      simp only [if_neg (show ¬ o.k = 2 by omega), if_neg (show ¬ o.k = 3 by omega)]
    rw [e]
    (refine gw ?_; refine IfB.tt (by simp [h1]) ?_)
    (refine gw ?_; refine Choice.mk ⟨true, Choice.mk ⟨false, _, _, c1, ?_⟩⟩)
    (refine gw ?_; exact RetN.fz ⟨[true, true], [], rfl, rfl, rfl⟩)
  (refine gw ?_; refine IfB.ff (by simp [h1]) ?_)
  by_cases h2 : o.k = 2
  · have c1 := calloc_told hm ho.n ho.s
    have e : doF m o = asksF m (manyF m.c m.live o.n o.s) (o.n * o.s) (fun p => { p.1 with mem := zeroF p.1.mem p.2.1.toNat (manyF m.c m.live o.n o.s).1 }) := by
      unfold doF giveF asksF
      rw [if_pos (.inr (.inr h2))]
      simp only [if_pos h2]
    rw [e]
    (refine gw ?_; refine IfB.tt (by simp [h2]) ?_)
    (refine gw ?_; refine Choice.mk ⟨true, Choice.mk ⟨false, _, _, c1, ?_⟩⟩)
    (refine gw ?_; exact RetN.fz ⟨[true, true], [], rfl, rfl, rfl⟩)
  (refine gw ?_; refine IfB.ff (by simp [h2]) ?_)
  by_cases h3 : o.k = 3
  · have c1 := aligned_told hm (s := o.s) (a := o.a) ho.a.2
    have e : doF m o = asksF m (newF m.c m.live o.s o.a) o.s (·.1) := by
      unfold doF giveF asksF
      rw [if_pos (.inr (.inl h3))]
      simp only [if_neg h2, if_pos h3]
    rw [e]
    (refine gw ?_; refine IfB.tt (by simp [h3]) ?_)
    (refine gw ?_; refine Choice.mk ⟨true, Choice.mk ⟨false, _, _, c1, ?_⟩⟩)
    (refine gw ?_; exact RetN.fz ⟨[true, true], [], rfl, rfl, rfl⟩)
  (refine gw ?_; refine IfB.ff (by simp [h3]) ?_)
  by_cases hk : o.k = 4 ∨ o.k = 5 ∨ o.k = 6 ∨ o.k = 7 ∨ o.k = 8
  · have c1 := block_told' hm ho hk
    rcases hk with hk | hk | hk | hk | hk
    · (refine gw ?_; refine IfB.tt (by simp [hk]) ?_)
      (refine gw ?_; refine IfB.tt (by simp [hk]) ?_)
      (refine gw ?_; refine Choice.mk ⟨true, Choice.mk ⟨false, _, _, c1, ?_⟩⟩)
      (refine gw ?_; exact RetN.fz ⟨[true, true], [], rfl, rfl, rfl⟩)
    · (refine gw ?_; refine IfB.ff (by simp [hk]) ?_)
      (refine gw ?_; refine IfB.tt (by simp [hk]) ?_)
      (refine gw ?_; refine IfB.tt (by simp [hk]) ?_)
      (refine gw ?_; refine Choice.mk ⟨true, Choice.mk ⟨false, _, _, c1, ?_⟩⟩)
      (refine gw ?_; exact RetN.fz ⟨[true, true], [], rfl, rfl, rfl⟩)
    · (refine gw ?_; refine IfB.ff (by simp [hk]) ?_)
      (refine gw ?_; refine IfB.ff (by simp [hk]) ?_)
      (refine gw ?_; refine IfB.tt (by simp [hk]) ?_)
      (refine gw ?_; refine IfB.tt (by simp [hk]) ?_)
      (refine gw ?_; refine Choice.mk ⟨true, Choice.mk ⟨false, _, _, c1, ?_⟩⟩)
      (refine gw ?_; exact RetN.fz ⟨[true, true], [], rfl, rfl, rfl⟩)
    · (refine gw ?_; refine IfB.ff (by simp [hk]) ?_)
      (refine gw ?_; refine IfB.ff (by simp [hk]) ?_)
      (refine gw ?_; refine IfB.ff (by simp [hk]) ?_)
      (refine gw ?_; refine IfB.tt (by simp [hk]) ?_)
      (refine gw ?_; refine IfB.tt (by simp [hk]) ?_)
      (refine gw ?_; refine Choice.mk ⟨true, Choice.mk ⟨false, _, _, c1, ?_⟩⟩)
      (refine gw ?_; exact RetN.fz ⟨[true, true], [], rfl, rfl, rfl⟩)
    · (refine gw ?_; refine IfB.ff (by simp [hk]) ?_)
      (refine gw ?_; refine IfB.ff (by simp [hk]) ?_)
      (refine gw ?_; refine IfB.ff (by simp [hk]) ?_)
      (refine gw ?_; refine IfB.ff (by simp [hk]) ?_)
      (refine gw ?_; refine IfB.tt (by simp [hk]) ?_)
      (refine gw ?_; refine Choice.mk ⟨true, Choice.mk ⟨false, _, _, c1, ?_⟩⟩)
      (refine gw ?_; exact RetN.fz ⟨[true, true], [], rfl, rfl, rfl⟩)
  (refine gw ?_; refine IfB.ff (by simp; omega) ?_)
  (refine gw ?_; refine IfB.ff (by simp; omega) ?_)
  (refine gw ?_; refine IfB.ff (by simp; omega) ?_)
  (refine gw ?_; refine IfB.ff (by simp; omega) ?_)
  (refine gw ?_; refine IfB.ff (by simp; omega) ?_)
  unfold doF
  rw [if_neg (by omega)]
  by_cases h9 : o.k = 9
  · have c1 := plainTrim_told hm hH1
    rw [if_pos h9]
    (refine gw ?_; refine IfB.tt (by simp [h9]) ?_)
    (refine gw ?_; refine Choice.mk ⟨true, Choice.mk ⟨false, _, _, c1, ?_⟩⟩)
    (refine gw ?_; exact RetN.fz ⟨[true, true], [], rfl, rfl, rfl⟩)
  rw [if_neg h9]
  (refine gw ?_; refine IfB.ff (by simp [h9]) ?_)
  by_cases h10 : o.k = 10
  · have c1 := pinCount_told m.on (by omega)
    rw [if_pos h10]
    (refine gw ?_; refine IfB.tt (by simp [h10]) ?_)
    (refine gw ?_; refine Choice.mk ⟨false, Choice.mk ⟨true, _, _, c1, ?_⟩⟩)
    (refine gw ?_; exact RetN.fz ⟨[true, true], [], rfl, rfl, rfl⟩)
  rw [if_neg h10, if_neg hk]
  (refine gw ?_; refine IfB.ff (by simp [h10]) ?_)
  (refine gw ?_; exact RetN.fz ⟨[true, true], [], rfl, rfl, rfl⟩)
end Go.Ev.W
namespace Go.Ev.W
open Go.Ev Go.Ev.N

open Classical in
noncomputable def opO (m : Mo) (p : Pk) : X.O := if h : MoOk m ∧ p.Ok then (op_told h.1.c h.1.a p h.2).choose else ⟨0, 0, 0, 0, 0, 0⟩
open Classical in
noncomputable def opP (m : Mo) (p : Pk) : Pk := if h : MoOk m ∧ p.Ok then (op_told h.1.c h.1.a p h.2).choose_spec.choose else p
theorem opO_spec {m : Mo} (hm : MoOk m) {p : Pk} (ok : p.Ok) : Told P T mk_Picks_Op [pkB p] [.ptr 0 0 0, eC m.c, lK m.bs] (X.encO (opO m p)) [pkB (opP m p)] ∧ (opP m p).Ok ∧ OpG m.c (opO m p) := by
  unfold opO opP
  rw [dif_pos ⟨hm, ok⟩, dif_pos ⟨hm, ok⟩]
  exact (op_told hm.c hm.a p ok).choose_spec.choose_spec
noncomputable def opsF : Nat → Mo → Pk → List X.O × Pk
  | 0, _, p => ([], p)
  | n + 1, m, p => if p.over = true then ([], p) else (opO m p :: (opsF n (doF m (opO m p)).1 (opP m p)).1, (opsF n (doF m (opO m p)).1 (opP m p)).2)
noncomputable def opsA (r : Rw) (n : Nat) (p : Pk) : List X.O × Pk := if (newM r).2 ≠ 0 then ([], p) else opsF n (newM r).1 p
theorem opsF_ok : ∀ (n : Nat) {m : Mo} {p : Pk}, MoOk m → p.Ok → (opsF n m p).2.Ok ∧ (opsF n m p).1.length ≤ n ∧ ∀ o ∈ (opsF n m p).1, OpG m.c o
  | 0, m, p, hm, ok => ⟨ok, by simp [opsF], by simp [opsF]⟩
  | n + 1, m, p, hm, ok => by
    unfold opsF
    split
    · exact ⟨ok, by simp, by simp⟩
    · obtain ⟨_, h2, h3⟩ := opO_spec hm ok
      have hd := doF_ok hm (h3.ok hm.c)
      obtain ⟨a, b, c⟩ := opsF_ok n hd.1 h2
      rw [hd.2] at c
      refine ⟨a, by simp; exact b, fun o ho => ?_⟩
      rcases List.mem_cons.1 ho with rfl | ho
      · exact h3
      · exact c o ho
theorem opsA_ok {r : Rw} (n : Nat) {p : Pk} (ok : p.Ok) : (opsA r n p).2.Ok ∧ (opsA r n p).1.length ≤ n ∧ ∀ o ∈ (opsA r n p).1, ∃ c : Cf, c.Ok ∧ OpG c o := by
  unfold opsA
  split
  · exact ⟨ok, by simp, by simp⟩
  · rename_i h
    have hm := newM_ok (Decidable.of_not_not h)
    obtain ⟨a, b, c⟩ := opsF_ok n hm ok
    exact ⟨a, b, fun o ho => ⟨_, hm.c, c o ho⟩⟩
set_option maxRecDepth 20000 in
set_option maxHeartbeats 8000000 in
theorem ops_told (r : Rw) {n : Nat} (hn : n ≤ 100000) {p : Pk} (ok : p.Ok) : Told P T mk_Picks_Ops [pkB p] [.ptr 0 0 0, eR r, i64 n] (.lst t_api_Op ((opsA r n p).1.map X.encO)) [pkB (opsA r n p).2] := by
  have c1 := new17_told r
  have hm0 := newM_ok (r := r)
  unfold opsA
  generalize newM r = M at *
  obtain ⟨m0, e⟩ := M
  by_cases he : e = 0
  · subst he
    have hm0 : MoOk m0 := hm0 rfl
    have c1 : Told P T ref17_New [] [eR r] (.tup [eM m0, i64 ((0 : Nat) : Int)]) [] := c1
    simp only [ne_eq, not_true_eq_false, if_false]
    refine told_of_ev (fn := mk_Picks_Ops_fn) tabOk mixed (by kernel_rfl) (by kernel_rfl) (by kernel_rfl) (by kernel_rfl) ?_
    (refine gw ?_; refine Choice.mk ⟨false, Choice.mk ⟨false, _, _, c1, ?_⟩⟩)
    (refine gw ?_; refine LoopN.mk ⟨[0,2,7,9,10], fun vs L => ∃ (k : Nat) (q : Pk) (m : Mo) (os : List X.O), vs = [.ptr 0 0 0, i64 n, .ptr 1 0 0, .ref 2, i64 k] ∧ L = [pkB q, .var (eM m), .row t_api_Op (os.map X.encO)] ∧ k ≤ n ∧ os.length = k ∧ q.Ok ∧ MoOk m ∧ opsF n m0 p = (os ++ (opsF (n - k) m q).1, (opsF (n - k) m q).2), fun vs L => match vs with | [_, _, _, _, .int _ i] => n - i.toNat | _ => 0, [], [3,7], rfl, ⟨0, p, m0, [], rfl, rfl, by omega, rfl, ok, hm0, rfl⟩, ?_⟩)
    rintro vs L ⟨k, q, m, os, rfl, rfl, hk, hos, okq, hm, he⟩
    have hom : (os.map X.encO).length = k := by rw [List.length_map]; exact hos
    by_cases hkn : k < n
    · obtain ⟨t1, t2, t3⟩ := opO_spec hm okq
      have hd := doF_ok hm (t3.ok hm.c)
      have t4 := do17_told hm (t3.ok hm.c)
      have hsf : opsF (n - k) m q = if q.over = true then ([], q) else (opO m q :: (opsF (n - (k + 1)) (doF m (opO m q)).1 (opP m q)).1, (opsF (n - (k + 1)) (doF m (opO m q)).1 (opP m q)).2) := by
        rw [show n - k = (n - (k + 1)) + 1 by omega]; rfl
      clear c1
      generalize opO m q = o at *
      generalize opP m q = q' at *
      generalize doF m o = D at *
      obtain ⟨m', an'⟩ := D
      have hma : (os ++ [o]).map X.encO = os.map X.encO ++ [X.encO o] := by simp
      simp only at hsf hd t4
      (refine gw ?_; refine IfB.tt (by simp; omega) ?_)
      (refine gw ?_; refine Choice.mk ⟨true, Choice.mk ⟨false, _, _, over_told' q, ?_⟩⟩)
      cases hov : q.over with
      | true =>
        rw [hov, if_pos rfl] at hsf
        rw [hsf, List.append_nil] at he
        rw [he]
        (refine gw ?_; exact RetN.fz ⟨[true], [], rfl, rfl, rfl⟩)
      | false =>
        rw [hov, if_neg (by simp)] at hsf
        rw [hsf] at he
        (refine gw ?_; refine Choice.mk ⟨true, Choice.mk ⟨false, _, _, t1, ?_⟩⟩)
        (refine gw ?_; refine Room.mk (by first | omega | (simp; omega) | (simp <;> fail)) ?_)
        (refine gw ?_; refine Choice.mk ⟨false, Choice.mk ⟨false, _, _, t4, ?_⟩⟩)
        (refine gw ?_; refine ⟨[], [1,5], rfl, ⟨k + 1, q', m', os ++ [o], rfl, by rw [hma]; rfl, hkn, by simp [hos], t2, hd.1, by rw [he]; simp⟩, (by omega : n - ((k : Int) + 1).toNat < n - (k : Int).toNat)⟩)
    · have e : k = n := by omega
      subst e
      rw [Nat.sub_self] at he
      have he : opsF k m0 p = (os, q) := by rw [he]; simp [opsF]
      rw [he]
      (refine gw ?_; exact RetN.fz ⟨[true], [], rfl, rfl, rfl⟩)
  · simp only [ne_eq, he, not_false_eq_true, if_true]
    have c1 : Told P T ref17_New [] [eR r] (.tup [eM m0, i64 ((e : Nat) : Int)]) [] := c1
    refine told_of_ev (fn := mk_Picks_Ops_fn) tabOk mixed (by kernel_rfl) (by kernel_rfl) (by kernel_rfl) (by kernel_rfl) ?_
    (refine gw ?_; refine Choice.mk ⟨false, Choice.mk ⟨false, _, _, c1, ?_⟩⟩)
    (refine gw ?_; refine IfB.tt (by simpa using he) ?_)
    (refine gw ?_; exact RetN.fz ⟨[true], [], rfl, rfl, rfl⟩)
end Go.Ev.W
namespace Go.Ev.W
open Go.Ev Go.Ev.N

theorem allF_ok : ∀ {os : List X.O} {m : Mo}, MoOk m → (∀ o ∈ os, OpOk o) → MoOk (allF m os).1 ∧ (allF m os).1.c = m.c ∧ (allF m os).2.length = os.length
  | [], m, hm, _ => ⟨hm, rfl, rfl⟩
  | o :: os, m, hm, h => by
    have hd := doF_ok hm (h o (by simp))
    have ih := allF_ok (os := os) hd.1 fun x hx => h x (by simp [hx])
    refine ⟨ih.1, ih.2.1.trans hd.2, ?_⟩
    show ((doF m o).2 :: (allF (doF m o).1 os).2).length = _
    rw [List.length_cons, ih.2.2]; rfl
theorem allF_snoc : ∀ (os : List X.O) (m : Mo) (o : X.O), allF m (os ++ [o]) = ((doF (allF m os).1 o).1, (allF m os).2 ++ [(doF (allF m os).1 o).2])
  | [], m, o => rfl
  | x :: os, m, o => by
    show ((allF (doF m x).1 (os ++ [o])).1, (doF m x).2 :: (allF (doF m x).1 (os ++ [o])).2) = _
    rw [allF_snoc os]; rfl
theorem opsA_op {r : Rw} {n : Nat} {p : Pk} (ok : p.Ok) : ∀ o ∈ (opsA r n p).1, OpOk o := fun o ho => by
  obtain ⟨c, hc, hg⟩ := (opsA_ok n ok).2.2 o ho
  exact hg.ok hc
end Go.Ev.W
namespace Go.Ev.W
open Go.Ev Go.Ev.N

/-- A run, so far. -/
theorem allF_at {m : Mo} {os : List X.O} (hm : MoOk m) (ho : ∀ o ∈ os, OpOk o) {k : Nat} (hk : k < os.length) :
    MoOk (allF m (os.take k)).1 ∧ (allF m (os.take k)).2.length = k ∧ (allF m (os.take (k + 1))).1 = (doF (allF m (os.take k)).1 os[k]).1 ∧ (allF m (os.take (k + 1))).2 = (allF m (os.take k)).2 ++ [(doF (allF m (os.take k)).1 os[k]).2] := by
  have h := allF_ok (os := os.take k) hm fun o h => ho o (List.mem_of_mem_take h)
  have hs := allF_snoc (os.take k) m os[k]
  rw [← List.take_succ_eq_append_getElem hk] at hs
  exact ⟨h.1, by rw [h.2.2, List.length_take]; omega, by rw [hs], by rw [hs]⟩
end Go.Ev.W
namespace Go.Ev.W
open Go.Ev Go.Ev.N

/-- What many calls are told. -/
def runF (r : Rw) (os : List X.O) : List An × Nat :=
  if (newM r).2 ≠ 0 then ([], (newM r).2) else if os.length > 5000 then ([], 2) else ((allF (newM r).1 os).2, 0)
def lA (l : List An) : AV := .lst t_api_Ans (l.map eA)
theorem moH1 {m : Mo} (hm : MoOk m) : 1 ≤ m.c.H := hm.c.H1
set_option maxRecDepth 20000 in
set_option maxHeartbeats 4000000 in
theorem runHeap_told (r : Rw) {os : List X.O} (ho : ∀ o ∈ os, OpOk o) : Told P T run_Heap [] [eR r, .lst t_api_Op (os.map X.encO)] (.tup [lA (runF r os).1, i64 ((runF r os).2 : Nat)]) [] := by
  have hom : (os.map X.encO).length = os.length := by simp
  have n1 := hpNewI (r := r)
  have n1e := hpNewE (r := r)
  have hok := newM_ok (r := r)
  unfold runF lA
  generalize newM r = M at *
  obtain ⟨m0, e⟩ := M
  by_cases he : e = 0
  case neg =>
    simp only [ne_eq, he, not_false_eq_true, if_true]
    refine told_of_ev (fn := run_Heap_fn) tabOk mixed (by kernel_rfl) (by kernel_rfl) (by kernel_rfl) (by kernel_rfl) ?_
    (refine gw ?_; refine Choice.mk ⟨false, Choice.mk ⟨false, _, _, n1e he, ?_⟩⟩)
    (refine gw ?_; refine IfB.tt (by simpa using he) ?_)
    (refine gw ?_; exact RetN.fz ⟨[true], [], rfl, rfl, rfl⟩)
  subst he
  have hm0 : MoOk m0 := hok rfl
  obtain ⟨s0, hr0, n1⟩ := n1 rfl
  simp only [ne_eq, not_true_eq_false, if_false]
  by_cases hl : os.length > 5000
  · rw [if_pos hl]
    refine told_of_ev (fn := run_Heap_fn) tabOk mixed (by kernel_rfl) (by kernel_rfl) (by kernel_rfl) (by kernel_rfl) ?_
    (refine gw ?_; refine Choice.mk ⟨false, Choice.mk ⟨false, _, _, n1, ?_⟩⟩)
    (refine gw ?_; refine IfB.tt (by rw [hom]; simp; omega) ?_)
    (refine gw ?_; exact RetN.fz ⟨[true], [], rfl, rfl, rfl⟩)
  rw [if_neg hl]
  refine told_of_ev (fn := run_Heap_fn) tabOk mixed (by kernel_rfl) (by kernel_rfl) (by kernel_rfl) (by kernel_rfl) ?_
  (refine gw ?_; refine Choice.mk ⟨false, Choice.mk ⟨false, _, _, n1, ?_⟩⟩)
  (refine gw ?_; refine IfB.ff (by rw [hom]; simp; omega) ?_)
  (refine gw ?_; refine LoopN.mk ⟨[4,6,22,23,24], fun vs L => ∃ (k : Nat) (s : Hs), vs = [.ref 4, .ptr 0 0 0, .lst t_api_Op (os.map X.encO), i64 (os.map X.encO).length, i64 k] ∧ L = hI (allF m0 (os.take k)).1 s ++ [.row t_api_Ans ((allF m0 (os.take k)).2.map eA)] ∧ k ≤ os.length ∧ Hr (allF m0 (os.take k)).1 s, fun vs L => match vs with | [_, _, _, _, .int _ i] => os.length - i.toNat | _ => 0, [], [2,3,4,5,1], rfl, ⟨0, s0, rfl, rfl, by omega, hr0⟩, ?_⟩)
  rintro vs L ⟨k, s, rfl, rfl, hk, hr⟩
  by_cases hko : k < os.length
  · obtain ⟨g1, g2, g3, g4⟩ := allF_at hm0 ho hko
    obtain ⟨s', hr', d1⟩ := hpDoI hr g1 (ho _ (List.getElem_mem hko))
    rw [← g3] at hr' d1
    have hma : (allF m0 (os.take (k + 1))).2.map eA = (allF m0 (os.take k)).2.map eA ++ [eA (doF (allF m0 (os.take k)).1 os[k]).2] := by rw [g4]; simp
    have hlk : ((allF m0 (os.take k)).2.map eA).length = k := by rw [List.length_map]; exact g2
    generalize (doF (allF m0 (os.take k)).1 os[k]).2 = an at *
    (refine gw ?_; refine IfB.tt (by rw [hom]; simp; omega) ?_)
    (refine gw ?_; refine idx_map (hko) ?_)
    (refine gw ?_; refine Choice.mk ⟨false, Choice.mk ⟨false, _, _, d1, ?_⟩⟩)
    (refine gw ?_; refine Room.mk (by first | omega | (simp; omega) | (simp <;> fail)) ?_)
    (refine gw ?_; refine ⟨[], [0,1,2,3,7], rfl, ⟨k + 1, s', rfl, by rw [hma]; rfl, hko, hr'⟩, (by omega : os.length - ((k : Int) + 1).toNat < os.length - (k : Int).toNat)⟩)
  obtain rfl : k = os.length := by omega
  rw [List.take_length]
  (refine gw ?_)
  (refine gw ?_; exact RetN.fz ⟨[true], [], rfl, rfl, rfl⟩)
set_option maxRecDepth 20000 in
set_option maxHeartbeats 4000000 in
theorem runPlain_told (r : Rw) {os : List X.O} (ho : ∀ o ∈ os, OpOk o) : Told P T run_Plain [] [eR r, .lst t_api_Op (os.map X.encO)] (.tup [lA (runF r os).1, i64 ((runF r os).2 : Nat)]) [] := by
  have hom : (os.map X.encO).length = os.length := by simp
  have n1 := plainNew_told r
  have hok := newM_ok (r := r)
  unfold runF lA
  generalize newM r = M at *
  obtain ⟨m0, e⟩ := M
  by_cases he : e = 0
  case neg =>
    simp only [ne_eq, he, not_false_eq_true, if_true]
    refine told_of_ev (fn := run_Plain_fn) tabOk mixed (by kernel_rfl) (by kernel_rfl) (by kernel_rfl) (by kernel_rfl) ?_
    (refine gw ?_; refine Choice.mk ⟨false, Choice.mk ⟨false, _, _, n1, ?_⟩⟩)
    (refine gw ?_; refine IfB.tt (by simpa using he) ?_)
    (refine gw ?_; exact RetN.fz ⟨[true], [], rfl, rfl, rfl⟩)
  subst he
  have hm0 : MoOk m0 := hok rfl
  simp only [ne_eq, not_true_eq_false, if_false]
  by_cases hl : os.length > 5000
  · rw [if_pos hl]
    refine told_of_ev (fn := run_Plain_fn) tabOk mixed (by kernel_rfl) (by kernel_rfl) (by kernel_rfl) (by kernel_rfl) ?_
    (refine gw ?_; refine Choice.mk ⟨false, Choice.mk ⟨false, _, _, n1, ?_⟩⟩)
    (refine gw ?_; refine IfB.tt (by rw [hom]; simp; omega) ?_)
    (refine gw ?_; exact RetN.fz ⟨[true], [], rfl, rfl, rfl⟩)
  rw [if_neg hl]
  refine told_of_ev (fn := run_Plain_fn) tabOk mixed (by kernel_rfl) (by kernel_rfl) (by kernel_rfl) (by kernel_rfl) ?_
  (refine gw ?_; refine Choice.mk ⟨false, Choice.mk ⟨false, _, _, n1, ?_⟩⟩)
  (refine gw ?_; refine IfB.ff (by rw [hom]; simp; omega) ?_)
  (refine gw ?_; refine LoopN.mk ⟨[4,6,24,25,26], fun vs L => ∃ (k : Nat), vs = [.ref 1, .ptr 0 0 0, .lst t_api_Op (os.map X.encO), i64 (os.map X.encO).length, i64 k] ∧ L = [.var (eM (allF m0 (os.take k)).1), .row t_api_Ans ((allF m0 (os.take k)).2.map eA)] ∧ k ≤ os.length, fun vs L => match vs with | [_, _, _, _, .int _ i] => os.length - i.toNat | _ => 0, [], [2,1], rfl, ⟨0, rfl, rfl, by omega⟩, ?_⟩)
  rintro vs L ⟨k, rfl, rfl, hk⟩
  by_cases hko : k < os.length
  · obtain ⟨g1, g2, g3, g4⟩ := allF_at hm0 ho hko
    have d1 := plainDo_told g1 (moH1 g1) (ho _ (List.getElem_mem hko))
    rw [← g3] at d1
    have hma : (allF m0 (os.take (k + 1))).2.map eA = (allF m0 (os.take k)).2.map eA ++ [eA (doF (allF m0 (os.take k)).1 os[k]).2] := by rw [g4]; simp
    have hlk : ((allF m0 (os.take k)).2.map eA).length = k := by rw [List.length_map]; exact g2
    generalize (doF (allF m0 (os.take k)).1 os[k]).2 = an at *
    (refine gw ?_; refine IfB.tt (by rw [hom]; simp; omega) ?_)
    (refine gw ?_; refine idx_map (hko) ?_)
    (refine gw ?_; refine Choice.mk ⟨false, Choice.mk ⟨false, _, _, d1, ?_⟩⟩)
    (refine gw ?_; refine Room.mk (by first | omega | (simp; omega) | (simp <;> fail)) ?_)
    (refine gw ?_; refine ⟨[], [0,9], rfl, ⟨k + 1, rfl, by rw [hma]; rfl, hko⟩, (by omega : os.length - ((k : Int) + 1).toNat < os.length - (k : Int).toNat)⟩)
  obtain rfl : k = os.length := by omega
  rw [List.take_length]
  (refine gw ?_)
  (refine gw ?_; exact RetN.fz ⟨[true], [], rfl, rfl, rfl⟩)
end Go.Ev.W
namespace Go.Ev.W
open Go.Ev Go.Ev.N

def rR : Rw := ⟨1, 4, 8, 4, 6, 0⟩
def oR1 : X.O := ⟨1, 0, 1, 0, 0, 0⟩
def oR2 : X.O := ⟨5, 3, 0, 0, 0, 0⟩
theorem oR1_ok : ∀ o ∈ [oR1], OpOk o := fun o ho => by
  simp at ho; subst ho
  exact ⟨by decide, by decide, by decide, by decide, by decide, by decide⟩
theorem oR2_ok : ∀ o ∈ [oR2], OpOk o := fun o ho => by
  simp at ho; subst ho
  exact ⟨by decide, by decide, by decide, by decide, by decide, by decide⟩
theorem runB1 : runF rR [oR1] = ([an0], 0) := by decide +kernel
theorem runB2 : runF rR [oR2] = ([anE 8], 0) := by decide +kernel
theorem runB3 : runF ⟨0, 0, 0, 0, 0, 0⟩ [] = ([], 1) := by decide +kernel
set_option maxRecDepth 20000 in
set_option maxHeartbeats 4000000 in
theorem begun26_told : Told P T law26_begun [] [] (.bool true) [] := by
  have c1 := runHeap_told rR oR1_ok
  have c2 := runPlain_told rR oR2_ok
  have c3 := runHeap_told ⟨0, 0, 0, 0, 0, 0⟩ (os := []) (fun o ho => by simp at ho)
  rw [runB1] at c1
  rw [runB2] at c2
  rw [runB3] at c3
  refine told_of_ev (fn := law26_begun_fn) tabOk mixed (by kernel_rfl) (by kernel_rfl) (by kernel_rfl) (by kernel_rfl) ?_
  (refine gw ?_; refine Choice.mk ⟨false, Choice.mk ⟨false, _, _, c1, ?_⟩⟩)
  (refine gw ?_; refine Choice.mk ⟨false, Choice.mk ⟨false, _, _, c2, ?_⟩⟩)
  (refine gw ?_; refine Choice.mk ⟨false, Choice.mk ⟨false, _, _, c3, ?_⟩⟩)
  (refine gw ?_)
  refine Idx.mk ⟨_, by omega, rfl, ?_⟩
  (refine gw ?_)
  refine Idx.mk ⟨_, by omega, rfl, ?_⟩
  (refine gw ?_; exact RetN.mk ⟨[], rfl, rfl, rfl⟩)
end Go.Ev.W
namespace Go.Ev.W
open Go.Ev Go.Ev.N

theorem runF_ok0 {r : Rw} (h : (newM r).2 = 0) {os : List X.O} (ho : ∀ o ∈ os, OpOk o) (hl : os.length ≤ 5000) : runF r os = ((allF (newM r).1 os).2, 0) ∧ (allF (newM r).1 os).2.length = os.length := by
  refine ⟨?_, (allF_ok (newM_ok h) ho).2.2⟩
  unfold runF
  rw [if_neg (by simpa using h), if_neg (by omega)]
end Go.Ev.W
namespace Go.Ev.W
open Go.Ev Go.Ev.N

/-- All but what stands in pages. -/
structure Sd' (m n : Mo) : Prop where
  c : ∃ d, n.c = { m.c with Sd := d }
  bs : n.bs = m.bs
  live : n.live = m.live
  peak : n.peak = m.peak
  mark : n.mark = m.mark
  on : n.on = m.on
def clr (a : An) : An := { a with b := 0 }
theorem sd_place {m n : Mo} (h : Sd' m n) (l : List Bk) (ch : Nat) (q : Int) : (placeF n l ch q).2 = (placeF m l ch q).2 ∧ Sd' (placeF m l ch q).1 (placeF n l ch q).1 := by
  obtain ⟨d, hc⟩ := h.c
  have e1 : lowF n.c l ch = lowF m.c l ch := by rw [hc]; rfl
  unfold placeF
  simp only
  rw [e1]
  by_cases h1 : (lowF m.c l ch).2 = false
  · rw [if_pos h1, if_pos h1]
    exact ⟨rfl, h⟩
  · rw [if_neg h1, if_neg h1]
    have e2 : commitF n.on (metF n.c.Pg n.c.H l) ((lowF m.c l ch).1 / n.c.Pg) (((lowF m.c l ch).1 + ch - 1) / n.c.Pg + 1) n.c.P = commitF m.on (metF m.c.Pg m.c.H l) ((lowF m.c l ch).1 / m.c.Pg) (((lowF m.c l ch).1 + ch - 1) / m.c.Pg + 1) m.c.P := by rw [hc, h.on]
    rw [e2]
    split
    · exact ⟨rfl, h⟩
    · exact ⟨rfl, ⟨⟨d, hc⟩, rfl, rfl, by show max n.peak _ = max m.peak _; rw [h.peak], by show max n.mark _ = max m.mark _; rw [h.mark], rfl⟩⟩
theorem sd_do {m n : Mo} (h : Sd' m n) (o : X.O) : Sd' (doF m o).1 (doF n o).1 ∧ clr (doF n o).2 = clr (doF m o).2 ∧ (o.k ≠ 7 → (doF n o).2 = (doF m o).2) := by
  obtain ⟨d, hc⟩ := h.c
  have new : ∀ live s a, newF n.c live s a = newF m.c live s a := fun live s a => by rw [hc]; rfl
  have many : ∀ live k s, manyF n.c live k s = manyF m.c live k s := fun live k s => by rw [hc]; rfl
  have triv : ∀ {x y : An}, x = y → clr x = clr y ∧ (o.k ≠ 7 → x = y) := fun e => ⟨by rw [e], fun _ => e⟩
  unfold doF
  by_cases h1 : o.k = 1 ∨ o.k = 3 ∨ o.k = 2
  · rw [if_pos h1, if_pos h1]
    unfold giveF
    simp only
    rw [h.live, h.bs, new, many]
    by_cases h2 : o.k = 2
    · simp only [if_pos h2]
      have hp := sd_place h m.bs (manyF m.c m.live o.n o.s).1 (o.n * o.s)
      split
      · exact ⟨h, triv rfl⟩
      · rw [hp.1]
        split
        · exact ⟨h, triv rfl⟩
        · exact ⟨⟨hp.2.c, hp.2.bs, hp.2.live, hp.2.peak, hp.2.mark, hp.2.on⟩, triv rfl⟩
    · simp only [if_neg h2]
      generalize (if o.k = 3 then o.a else 1) = al
      have hp := sd_place h m.bs (newF m.c m.live o.s al).1 o.s
      split
      · exact ⟨h, triv rfl⟩
      · rw [hp.1]
        split
        · exact ⟨h, triv rfl⟩
        · exact ⟨hp.2, triv rfl⟩
  rw [if_neg h1, if_neg h1]
  by_cases h9 : o.k = 9
  · rw [if_pos h9, if_pos h9]
    have e : trimF n.on (metF n.c.Pg n.c.H n.bs) = trimF m.on (metF m.c.Pg m.c.H m.bs) := by rw [hc, h.on, h.bs]
    rw [e]
    exact ⟨⟨h.c, h.bs, h.live, h.peak, h.mark, rfl⟩, triv rfl⟩
  rw [if_neg h9, if_neg h9]
  by_cases h10 : o.k = 10
  · rw [if_pos h10, if_pos h10, h.live, h.peak, h.mark, h.on]
    exact ⟨h, triv rfl⟩
  rw [if_neg h10, if_neg h10]
  split
  · rw [h.bs]
    cases hf : findB m.bs o.p with
    | none => exact ⟨h, triv rfl⟩
    | some i =>
      simp only
      unfold ofB
      rw [h.bs, h.live]
      simp only
      by_cases h4 : o.k = 4
      · rw [if_pos h4, if_pos h4, new]
        have hp := sd_place h (dropB m.bs i) (newF m.c (m.live - (m.bs.getD i bk0).c) o.s 1).1 o.s
        split
        · exact ⟨h, triv rfl⟩
        · rw [hp.1]
          split
          · exact ⟨h, triv rfl⟩
          · exact ⟨⟨hp.2.c, hp.2.bs, hp.2.live, hp.2.peak, hp.2.mark, hp.2.on⟩, triv rfl⟩
      rw [if_neg h4, if_neg h4]
      by_cases h5 : o.k = 5
      · rw [if_pos h5, if_pos h5]
        exact ⟨⟨h.c, rfl, rfl, h.peak, h.mark, h.on⟩, triv rfl⟩
      rw [if_neg h5, if_neg h5]
      by_cases h6 : o.k = 6
      · rw [if_pos h6, if_pos h6]
        exact ⟨h, triv rfl⟩
      rw [if_neg h6, if_neg h6]
      split
      · exact ⟨h, triv rfl⟩
      · by_cases h7 : o.k = 7
        · rw [if_pos h7, if_pos h7]
          exact ⟨h, rfl, fun q => absurd h7 q⟩
        · rw [if_neg h7, if_neg h7]
          exact ⟨⟨h.c, rfl, rfl, h.peak, h.mark, h.on⟩, triv rfl⟩
  · exact ⟨h, triv rfl⟩
theorem sd_all : ∀ (os : List X.O) {m n : Mo}, Sd' m n → (allF n os).2.length = (allF m os).2.length ∧ ∀ k (h1 : k < (allF m os).2.length) (h2 : k < (allF n os).2.length) (h3 : k < os.length), clr (allF n os).2[k] = clr (allF m os).2[k] ∧ (os[k].k ≠ 7 → (allF n os).2[k] = (allF m os).2[k])
  | [], m, n, h => ⟨rfl, fun k h1 => by simp [allF] at h1⟩
  | o :: os, m, n, h => by
    have hd := sd_do h o
    have ih := sd_all os hd.1
    refine ⟨?_, fun k h1 h2 h3 => ?_⟩
    · show ((doF n o).2 :: (allF (doF n o).1 os).2).length = ((doF m o).2 :: (allF (doF m o).1 os).2).length
      rw [List.length_cons, List.length_cons, ih.1]
    · cases k with
      | zero => exact hd.2
      | succ k =>
        exact ih.2 k (by simpa [allF] using h1) (by simpa [allF] using h2) (by simpa using h3)
theorem newM_seed {r : Rw} {d : Nat} (hd : d < 256) (h : (newM r).2 = 0) : (newM { r with s := d }).2 = 0 ∧ Sd' (newM r).1 (newM { r with s := d }).1 := by
  have h0 : (ofF r).2 = 0 := by rw [← newM_of]; exact h
  have hk := ofF_ok h0
  have hr := hk.2.1
  have hs : ({ r with s := d } : Rw).ok = true := by
    simp only [Rw.ok, Bool.and_eq_true, decide_eq_true_eq] at hr ⊢
    exact ⟨⟨hr.1.1, hr.1.2⟩, by omega⟩
  have e1 : cfOf { r with s := d } = { cfOf r with Sd := d } := by
    unfold cfOf
    simp
  have hH : (cfOf r).H ≤ 65536 := by rw [← hk.2.2]; exact hk.1.h2
  have e2 : ofF { r with s := d } = ({ cfOf r with Sd := d }, 0) := by
    unfold ofF
    rw [if_pos ⟨hs, by rw [e1]; exact hH⟩, e1]
  have e3 : ofF r = (cfOf r, 0) := Prod.ext hk.2.2 h0
  unfold newM
  rw [e2, e3]
  exact ⟨rfl, ⟨d, rfl⟩, rfl, rfl, rfl, rfl, rfl⟩
set_option maxRecDepth 20000 in
set_option maxHeartbeats 8000000 in
theorem runSeeds_told {a b : List Nat} {d : Nat} (ha : IsB a) (hla : a.length ≤ maxLen) (hb : IsB b) (hlb : b.length ≤ maxLen) (hd : d < 256) : Told P T law26_RunSeeds [] [lB a, lB b, u8 d] (.bool true) [] := by
  have hua : (a.map u8).length = a.length := by simp
  have hub : (b.map u8).length = b.length := by simp
  have oka : (⟨a, 0⟩ : Pk).Ok := ⟨ha, Nat.zero_le _, hla⟩
  have okb : (⟨b, 0⟩ : Pk).Ok := ⟨hb, Nat.zero_le _, hlb⟩
  have t1 := raw_told ⟨a, 0⟩ oka false
  have hsm := (small_of (rawF_s ⟨a, 0⟩ false)).1
  rw [← newM_of] at hsm
  generalize rawF ⟨a, 0⟩ false = R at *
  obtain ⟨r, pa⟩ := R
  have hsm : (newM r).2 = 0 := hsm
  have o1 := ops_told r (n := 40) (by omega) okb
  have oo := opsA_op (r := r) (n := 40) okb
  have ol := (opsA_ok (r := r) 40 okb).2.1
  generalize opsA r 40 ⟨b, 0⟩ = A at *
  obtain ⟨os, pb⟩ := A
  have o1 : Told P T mk_Picks_Ops [pkB ⟨b, 0⟩] [.ptr 0 0 0, eR r, i64 40] (.lst t_api_Op (os.map X.encO)) [pkB pb] := o1
  have hom : (os.map X.encO).length = os.length := by simp
  have oo : ∀ o ∈ os, OpOk o := oo
  have ol : os.length ≤ 40 := ol
  obtain ⟨g1, g2⟩ := newM_seed hd hsm
  have c1 := runHeap_told r oo
  have c2 := runHeap_told { r with s := d } oo
  obtain ⟨e1, l1⟩ := runF_ok0 hsm oo (by omega)
  obtain ⟨e2, l2⟩ := runF_ok0 g1 oo (by omega)
  obtain ⟨g3, g4⟩ := sd_all os g2
  rw [e1] at c1
  rw [e2] at c2
  generalize (allF (newM r).1 os).2 = an at *
  generalize (allF (newM { r with s := d }).1 os).2 = an2 at *
  have hal : (an.map eA).length = an.length := by simp
  have hal2 : (an2.map eA).length = an.length := by rw [List.length_map]; exact g3
  unfold lA eR at *
  refine told_of_ev (fn := law26_RunSeeds_fn) tabOk mixed (by kernel_rfl) (by kernel_rfl) (by kernel_rfl) (by kernel_rfl) ?_
  (refine gw ?_; refine Choice.mk ⟨false, Choice.mk ⟨false, _, _, begun26_told, ?_⟩⟩)
  by_cases h6 : a.length > 6
  · (refine gw ?_; refine IfB.tt (by rw [hua]; simp; omega) ?_)
    (refine gw ?_; exact RetN.mk ⟨[], rfl, rfl, rfl⟩)
  (refine gw ?_; refine IfB.ff (by rw [hua]; simp; omega) ?_)
  by_cases h7 : b.length > 150
  · (refine gw ?_; refine IfB.tt (by rw [hub]; simp; omega) ?_)
    (refine gw ?_; exact RetN.mk ⟨[], rfl, rfl, rfl⟩)
  (refine gw ?_; refine IfB.ff (by rw [hub]; simp; omega) ?_)
  (refine gw ?_; refine Choice.mk ⟨false, Choice.mk ⟨false, _, _, made_told a, ?_⟩⟩)
  (refine gw ?_; refine Choice.mk ⟨true, Choice.mk ⟨false, _, _, t1, ?_⟩⟩)
  (refine gw ?_; refine Choice.mk ⟨false, Choice.mk ⟨false, _, _, made_told b, ?_⟩⟩)
  (refine gw ?_; refine Choice.mk ⟨true, Choice.mk ⟨false, _, _, o1, ?_⟩⟩)
  (refine gw ?_; refine Choice.mk ⟨false, Choice.mk ⟨false, _, _, c1, ?_⟩⟩)
  (refine gw ?_; refine Choice.mk ⟨false, Choice.mk ⟨false, _, _, c2, ?_⟩⟩)
  (refine gw ?_; refine IfB.ff (by rw [hal, hal2]; simp) ?_)
  (refine gw ?_; refine LoopN.mk ⟨[9,10,12,14], fun vs L => ∃ (k : Nat), vs = [.lst t_api_Op (os.map X.encO), .lst t_api_Ans (an.map eA), .lst t_api_Ans (an2.map eA), i64 k] ∧ L = [] ∧ k ≤ an.length, fun vs L => match vs with | [_, _, _, .int _ i] => an.length - i.toNat | _ => 0, [], [], rfl, ⟨0, rfl, rfl, by omega⟩, ?_⟩)
  rintro vs L ⟨k, rfl, rfl, hk⟩
  by_cases hka : k < an.length
  · have h2 : k < an2.length := by omega
    have h3 : k < os.length := by omega
    obtain ⟨q1, q2⟩ := g4 k hka h2 h3
    have x3 : ∀ Q : AV → Prop, Q (X.encO os[k]) → Idx (os.map X.encO) ((k : Nat) : Int) Q := fun Q q => idx_map (f := X.encO) h3 q
    (refine gw ?_; refine IfB.tt (by rw [hal]; simp; omega) ?_)
    (refine gw ?_; refine idx_map (hka) ?_)
    (refine gw ?_; refine idx_map (h2) ?_)
    generalize an[k] = A1 at *
    generalize an2[k] = A2 at *
    generalize os[k] = o at *
    obtain ⟨b1, b2, b3, b4, b5, b6, b7, b8⟩ := A1
    obtain ⟨d1, d2, d3, d4, d5, d6, d7, d8⟩ := A2
    simp only [clr, An.mk.injEq] at q1
    obtain ⟨rfl, rfl, rfl, _, rfl, rfl, rfl, rfl⟩ := q1
    (refine gw ?_; refine IfB.tt (by rw [hom]; simp; omega) ?_)
    (refine gw ?_)
    refine x3 _ ?_
    by_cases h7 : o.k = 7
    · (refine gw ?_; refine IfB.tt (by simpa using h7) ?_)
      (refine gw ?_; refine ⟨[], [], rfl, ⟨k + 1, rfl, rfl, hka⟩, (by omega : an.length - ((k : Int) + 1).toNat < an.length - (k : Int).toNat)⟩)
    · have q2 := q2 h7
      simp only [An.mk.injEq, true_and, and_true] at q2
      subst q2
      (refine gw ?_; refine IfB.ff (by simpa using h7) ?_)
      (refine gw ?_; refine ⟨[], [], rfl, ⟨k + 1, rfl, rfl, hka⟩, (by omega : an.length - ((k : Int) + 1).toNat < an.length - (k : Int).toNat)⟩)
  · (refine gw ?_; refine IfB.ff (by rw [hal]; simp; omega) ?_)
    (refine gw ?_; exact RetN.mk ⟨[], rfl, rfl, rfl⟩)
theorem runSeeds {x0 x1 x2 : AV} (h0 : Shp T 8 ts_uint8 x0) (h1 : Shp T 8 ts_uint8 x1) (h2 : Shp T 8 t_uint8 x2) : Told P T law26_RunSeeds [] [x0, x1, x2] (.bool true) [] := by
  obtain ⟨a, rfl, ha, hla⟩ := shp_bytes h0
  obtain ⟨b, rfl, hb, hlb⟩ := shp_bytes h1
  obtain ⟨d, rfl, hd⟩ := shp_u8 (by kernel_rfl) h2
  exact runSeeds_told ha hla hb hlb hd
end Go.Ev.W
