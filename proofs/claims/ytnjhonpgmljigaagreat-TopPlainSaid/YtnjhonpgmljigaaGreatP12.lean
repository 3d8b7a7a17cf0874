/- Words and lemmas, part 12, for laws of this seat (a part of their proofs). -/
import Derived.Test.YtnjhonpgmljigaaGreatP1
import Derived.Test.YtnjhonpgmljigaaGreatP11
import Derived.Test.YtnjhonpgmljigaaGreatNm
import Derived.Test.YtnjhonpgmljigaaGreatEvOpen
import Derived.Test.YtnjhonpgmljigaaGreatEvLib
import Derived.Test.YtnjhonpgmljigaaGreatEvGrid
import Derived.Test.YtnjhonpgmljigaaGreatEvTrim
set_option linter.unusedVariables false
set_option linter.unusedSimpArgs false
namespace Go.Ev.W
open Go.Ev Go.Ev.N

theorem overlaps_Block (xs es : List AV) (hx : 0 < xs.length) (i n : Nat) : Told P T slices_overlaps_api_Block [.row t_api_Block xs, .row t_api_Block es] [.ref 0, .sub 1 i n] (.bool false) [.row t_api_Block xs, .row t_api_Block es] :=
  told_overlaps (fn := slices_overlaps_api_Block_fn) (tS := ts_api_Block) (tR := t_bool) tabOk (by kernel_rfl) (by kernel_rfl) (by kernel_rfl) (by kernel_rfl) (by kernel_rfl) (by kernel_rfl) (by kernel_rfl) xs es hx i n

set_option maxHeartbeats 4000000 in
theorem insert_Block (es : List AV) (x : AV) (i : Nat) (hi : i ≤ es.length) (hl : es.length ≤ 1000000) :
    Told P T slices_Insert_api_Block_api_Block [.row t_api_Block es, .row t_api_Block [x]] [.ref 0, .int .i64 (i : Nat), .ref 1] (.ref 2) [.dead, .row t_api_Block [x], .row t_api_Block (es.take i ++ (x :: es.drop i))] := by
  refine told_of_ev_drop (fn := slices_Insert_api_Block_api_Block_fn) tabOk mixed (by kernel_rfl) (by kernel_rfl) (by kernel_rfl) (by kernel_rfl) ?_
  refine Cut.mk (by omega) (by omega) (by omega) ?_
  refine IfB.ff rfl ?_
  refine IfB.mk (fun h1 => ?_) (fun h1 => ?_)
  · have hie : i = es.length := by have := of_decide_eq_true h1; omega
    refine Room.mk (by first | omega | (simp; omega) | (simp; done)) ?_
    refine RetN.mk ⟨[3], rfl, rfl, .inl rfl, .inl rfl, .inl ?_, trivial⟩
    subst hie
    show Blk.row t_api_Block (es.take es.length ++ (x :: es.drop es.length)) = Blk.row t_api_Block (es ++ [x])
    rw [List.take_length, List.drop_length]
  · have hlt : i < es.length := by have := of_decide_eq_false h1; omega
    refine fits (wrap64 (by first | omega | (simp; omega) | (simp; done)) (by first | omega | (simp; omega) | (simp; done))) ?_
    refine AnyN.mk (fun c hc => ?_)
    refine IfB.mk (fun h2 => ?_) (fun h2 => ?_)
    · have hcc : c < es.length + 1 := by have := of_decide_eq_true h2; simp at this; omega
      refine Choice.mk ⟨false, ?_⟩
      refine Cut.mk (Int.le_refl _) (by omega) (by omega) ?_
      refine fits (wrap64 (by first | omega | (simp; omega) | (simp; done)) (by first | omega | (simp; omega) | (simp; done))) ?_
      refine fits (wrap64 (by first | omega | (simp; omega) | (simp; done)) (by first | omega | (simp; omega) | (simp; done))) ?_
      refine Need.mk (by first | omega | (simp; omega) | (simp; done)) ?_
      refine Need.mk (by first | omega | (simp; omega) | (simp; done)) ?_
      refine Room.mk (by first | omega | (simp; omega) | (simp; done)) ?_
      refine Cut.mk (by omega) (by first | omega | (simp; omega) | (simp; done)) (by first | omega | (simp; omega) | (simp; done)) ?_
      refine fits (wrap64 (by first | omega | (simp; omega) | (simp; done)) (by first | omega | (simp; omega) | (simp; done))) ?_
      refine Cut.mk (by first | omega | (simp; omega) | (simp; done)) (by first | omega | (simp; omega) | (simp; done)) (by first | omega | (simp; omega) | (simp; done)) ?_
      refine Cut.mk (by omega) (by omega) (by omega) ?_
      refine Sure.mk (by kernel_rfl) ?_
      refine RetN.mk ⟨[3], rfl, rfl, .inr rfl, .inl rfl, .inl ?_, trivial⟩
      show Blk.row t_api_Block (es.take i ++ (x :: es.drop i)) = Blk.row t_api_Block _
      refine congrArg _ ?_
      have e1 : ((es.length : Int) + (([x] : List AV).length : Int) - (i : Int)).toNat = es.length + 1 - i := by first | (simp; done) | (simp; omega)
      have e2 : ((i : Int) + (([x] : List AV).length : Int)).toNat = i + 1 := by first | (simp; done) | (simp; omega)
      have e3 : min 1 (es.length + 1 - i) = 1 := by omega
      simp only [e1, e2, Int.toNat_natCast]
      have e4 : i + (1 + (es.length + 1 - i - 1)) - (i + 1) = es.length - i := by omega
      have e5 : i + 1 + (es.length - i) - i - 1 = es.length - i := by omega
      have e6 : es.length + 1 - i - 1 - (es.length - i) = 0 := by omega
      have e7 : (es.take i).length = i := by rw [List.length_take]; omega
      have d1 : ∀ k, i ≤ k → (es.take i).drop k = [] := fun k hk => List.drop_eq_nil_of_le (by omega)
      have d2 : ∀ k, 1 ≤ k → ([x] : List AV).drop k = [] := fun k hk => List.drop_eq_nil_of_le (by simpa using hk)
      have d3 : ([x] : List AV).take 1 = [x] := rfl
      have d4 : (es.drop i).take (es.length - i) = es.drop i := List.take_of_length_le (by simp)
      have e8 : i + 1 + (es.length - i) - i = 1 + (es.length - i) := by omega
      simp [List.take_append, List.drop_append, List.take_of_length_le, Nat.min_eq_left (Nat.le_of_lt hlt), e3, e4, e8, d3, d4, d2, d1, e6]
      have e9 : i + (es.length + 1 - i - 1 + 1) - (i + 1) = es.length - i := by omega
      have d5 : ∀ z : AV, (x :: List.replicate (es.length + 1 - i - 1) z).drop (i + 1 + (es.length - i) - i) = [] := fun z => List.drop_eq_nil_of_le (by rw [List.length_cons, List.length_replicate]; omega)
      rw [e9, Nat.min_self, d4, d1 _ (by omega), d5]
      simp
    · have hcc : es.length + 1 ≤ c := by have := of_decide_eq_false h2; simp at this; omega
      refine fits (wrap64 (by first | omega | (simp; omega) | (simp; done)) (by first | omega | (simp; omega) | (simp; done))) ?_
      refine Choice.mk ⟨true, ?_⟩
      refine Cut.mk (by omega) (by first | omega | (simp; omega) | (simp; done)) (by first | omega | (simp; omega) | (simp; done)) ?_
      refine fits (wrap64 (by first | omega | (simp; omega) | (simp; done)) (by first | omega | (simp; omega) | (simp; done))) ?_
      refine Cut.mk (by first | omega | (simp; omega) | (simp; done)) (by first | omega | (simp; omega) | (simp; done)) (by first | omega | (simp; omega) | (simp; done)) ?_
      refine Choice.mk ⟨true, Choice.mk ⟨false, _, _, overlaps_Block [x] _ (by simp) _ _, ?_⟩⟩
      refine IfB.tt rfl ?_
      refine fits (wrap64 (by first | omega | (simp; omega) | (simp; done)) (by first | omega | (simp; omega) | (simp; done))) ?_
      refine Cut.mk (by first | omega | (simp; omega) | (simp; done)) (by first | omega | (simp; omega) | (simp; done)) (by first | omega | (simp; omega) | (simp; done)) ?_
      refine Cut.mk (by simp) (by first | omega | (simp; omega) | (simp; done)) (by first | omega | (simp; omega) | (simp; done)) ?_
      refine Sure.mk (by kernel_rfl) ?_
      refine Cut.mk (by simp) (by first | omega | (simp; omega) | (simp; done)) (by first | omega | (simp; omega) | (simp; done)) ?_
      refine RetN.mk ⟨[3], rfl, rfl, .inl rfl, .inl rfl, .inl ?_, trivial⟩
      show Blk.row t_api_Block (es.take i ++ (x :: es.drop i)) = Blk.row t_api_Block _
      refine congrArg _ ?_
      have n1 : ((es.length : Int) + (([x] : List AV).length : Int)).toNat - es.length = 1 := by first | (simp; done) | (simp; omega)
      have n2 : ((i : Int) + (([x] : List AV).length : Int)).toNat = i + 1 := by first | (simp; done) | (simp; omega)
      have r := ins_room es x (junkE T t_api_Block) i hlt
      have m1 : min ([x] : List AV).length (es.length + 1 - i) = 1 := by first | (simp; done) | (simp; omega)
      simp only [n1, n2, Int.toNat_natCast, List.replicate_one]
      rw [r.2.2, m1, r.1, r.2.1]
      rfl

set_option maxHeartbeats 4000000 in
theorem delete_Block (es : List AV) (i : Nat) (hi : i < es.length) (hl : es.length ≤ 1000000) :
    Told P T slices_Delete_api_Block_api_Block [.row t_api_Block es] [.ref 0, .int .i64 (i : Nat), .int .i64 ((i : Nat) + 1)] (.sub 0 0 (es.length - 1)) [.row t_api_Block (es.take i ++ (es.drop (i + 1) ++ [zeroE T t_api_Block]))] := by
  refine told_of_ev (fn := slices_Delete_api_Block_api_Block_fn) tabOk mixed (by kernel_rfl) (by kernel_rfl) (by kernel_rfl) (by kernel_rfl) ?_
  refine Cut.mk (by omega) (by omega) (by omega) ?_
  refine Need.mk (by omega) ?_
  refine IfB.ff (by simp; omega) ?_
  refine Cut.mk (by omega) (by omega) (by omega) ?_
  refine Cut.mk (by omega) (by omega) (by omega) ?_
  refine Need.mk (by simp; omega) ?_
  refine Sure.mk (by kernel_rfl) ?_
  refine Cut.mk (by omega) (by simp; omega) (by simp; omega) ?_
  have f0 : Int.toNat 0 = 0 := rfl
  have f1 : (((i : Nat) : Int) + 1).toNat = i + 1 := by omega
  have f2 : (es.drop (i + 1)).take (es.length - (i + 1)) = es.drop (i + 1) := List.take_of_length_le (by simp)
  have f3 : (es.drop (i + 1)).length = es.length - (i + 1) := by simp
  have f4 : i + (es.length - (i + 1)) = es.length - 1 := by omega
  have f5 : es.length - (es.length - 1) = 1 := by omega
  have f6 : es.length - 1 + 1 = es.length := by omega
  refine RetN.mk ⟨[], rfl, ?_, ?_⟩
  · show AV.sub 0 0 _ = AV.sub 0 0 _
    congr 1
    simp only [Int.toNat_natCast, f1, f2, f3, f0, Nat.sub_zero]
    omega
  · show [Blk.row t_api_Block _] = [Blk.row t_api_Block _]
    congr 2
    simp only [Int.toNat_natCast, f1, f2, f3, f0, Nat.sub_zero, Nat.zero_add, f4, f5, f6]
    have g1 : (es.take i ++ es.drop (i + 1)).length = es.length - 1 := by rw [List.length_append, List.length_take, f3]; omega
    have R : es.take i ++ (es.drop (i + 1) ++ es.drop (es.length - 1)) = (es.take i ++ es.drop (i + 1)) ++ es.drop (es.length - 1) := by simp
    have g3 : ((es.take i ++ es.drop (i + 1)) ++ es.drop (es.length - 1)).drop es.length = [] := List.drop_eq_nil_of_le (by rw [List.length_append, g1, List.length_drop]; omega)
    rw [R, List.take_append_of_le_length (by omega), List.take_of_length_le (by omega), g3, List.append_nil, List.append_assoc]
    rfl

end Go.Ev.W
namespace Go.Ev.W
open Go.Ev Go.Ev.N

/-- All that there is, its rows in blocks. -/
def eMr (c : Cf) (x : AV) (live peak mark : Int) (y z : AV) : AV := .agg [i64 c.G, i64 c.N, i64 c.M, i64 c.L, i64 c.Pg, i64 c.P, i64 c.H, i64 c.Sd, x, i64 live, i64 peak, i64 mark, y, z]
theorem deleteB_told (l : List Bk) (i : Nat) (hi : i < l.length) (hl : l.length ≤ 1000000) :
    Told P T slices_Delete_api_Block_api_Block [.row t_api_Block (l.map eB)] [.ref 0, i64 (i : Nat), i64 ((i : Nat) + 1)] (.ref 1) [.dead, .row t_api_Block ((dropB l i).map eB)] := by
  have t := delete_Block (l.map eB) i (by simpa using hi) (by simpa using hl)
  have t := t.trim 0 (l.length - 1) rfl (by simp; omega) (by simp; omega) (fun _ => ⟨rfl, by simp⟩)
  have e : List.take (l.length - 1) ((l.map eB).take i ++ ((l.map eB).drop (i + 1) ++ [zeroE T t_api_Block])) = (dropB l i).map eB := by
    unfold dropB
    rw [List.map_append, List.map_take, List.map_drop, ← List.append_assoc, List.take_left']
    simp; omega
  rw [e] at t
  exact t
set_option maxHeartbeats 2000000 in
theorem goes_told {c : Cf} {bs : List Bk} {live peak mark : Int} {on mem : List AV} (hl : bs.length ≤ 1000000) (hlv : 0 ≤ live ∧ live ≤ 1000000) (hb : ∀ x ∈ bs, 0 ≤ x.c ∧ x.c ≤ 1000000) {i : Nat} (hi : i < bs.length) :
    Told P T plain_goes [.row t_api_Block (bs.map eB), .row t_bool on, .row t_uint8 mem] [eMr c (.ref 0) live peak mark (.ref 1) (.ref 2), i64 i]
      (eMr c (.ref 3) (live - bs[i].c) peak mark (.ref 1) (.ref 2)) [.dead, .row t_bool on, .row t_uint8 mem, .row t_api_Block ((dropB bs i).map eB)] := by
  have hml : (bs.map eB).length = bs.length := by simp
  have c1 := deleteB_told bs i hi hl
  have hbi := hb _ (List.getElem_mem hi)
  refine told_of_ev (fn := plain_goes_fn) tabOk mixed (by kernel_rfl) (by kernel_rfl) (by kernel_rfl) (by kernel_rfl) ?_
  (refine gw ?_)
  refine at_map (k := i) hi ?_
  (refine gw ?_; refine Choice.mk ⟨true, Choice.mk ⟨false, _, _, c1, ?_⟩⟩)
  (refine gw ?_)
  exact RetN.mk ⟨[8], rfl, rfl, rfl⟩
set_option maxHeartbeats 2000000 in
theorem twin_told {c : Cf} {live peak mark : Int} {bs on mem : List AV} (h1 : bs.length ≤ 1000000) (h2 : on.length ≤ 1000000) (h3 : mem.length ≤ 1000000) :
    Told P T plain_twin [] [eMr c (.lst t_api_Block bs) live peak mark (.lst t_bool on) (.lst t_uint8 mem)] (eMr c (.ref 0) live peak mark (.ref 1) (.ref 2)) [.row t_api_Block bs, .row t_bool on, .row t_uint8 mem] := by
  have c1 := clone_Block bs h1
  have c2 := clone_bool on h2
  have c3 := clone_byte mem h3
  refine told_of_ev (fn := plain_twin_fn) tabOk mixed (by kernel_rfl) (by kernel_rfl) (by kernel_rfl) (by kernel_rfl) ?_
  (refine gw ?_; refine Choice.mk ⟨false, Choice.mk ⟨false, _, _, c1, ?_⟩⟩)
  (refine gw ?_; refine Choice.mk ⟨false, Choice.mk ⟨false, _, _, c2, ?_⟩⟩)
  (refine gw ?_; refine Choice.mk ⟨false, Choice.mk ⟨false, _, _, c3, ?_⟩⟩)
  (refine gw ?_)
  exact RetN.mk ⟨[5,6,7], rfl, rfl, rfl⟩
end Go.Ev.W
namespace Go.Ev.W
open Go.Ev Go.Ev.N

/-- Where a block is put: behind those that begin below. -/
theorem lowB_free {H : Nat} {l : List Bk} (ha : ApB H l) {y : Int} {n : Int} (hn : 1 ≤ n) (hf : freeAt l n y = true) : ∀ k (h : k < l.length), l[k].a < y ↔ k < lowB y l := by
  intro k h
  have hb := ha.b _ (List.getElem_mem h)
  have hx := (freeAt_iff.1 hf) _ (List.getElem_mem h)
  constructor
  · intro h1
    rcases Nat.lt_or_ge k (lowB y l) with h2 | h2
    · exact h2
    · exfalso
      have h3 := lowB_ge (y := y) (l := l) (by omega)
      rcases Nat.lt_or_ge (lowB y l) k with h4 | h4
      · have := List.pairwise_iff_getElem.1 ha.p (lowB y l) k (by omega) h h4
        have := ha.b _ (List.getElem_mem (show lowB y l < l.length by omega))
        omega
      · have e : lowB y l = k := by omega
        simp only [e] at h3
        omega
  · intro h1
    have h2 := lowB_lt (y := y) h h1
    omega
structure PutIn (m : Mo) (n : Nat) (q : Int) : Prop where
  c : m.c.Ok
  a : ApB m.c.H m.bs
  l : m.live = totalB m.bs
  p : 0 ≤ m.peak ∧ m.peak ≤ m.c.H
  k : 0 ≤ m.mark ∧ m.mark ≤ m.c.H
  o : m.on.length = m.c.H / m.c.Pg
  mm : m.mem.length = m.c.H
  n1 : 1 ≤ n
  n2 : n ≤ m.c.N
theorem MoOk.putIn {m : Mo} (h : MoOk m) {n : Nat} {q : Int} (h1 : 1 ≤ n) (h2 : n ≤ m.c.N) : PutIn m n q := by
  have hc := h.c
  have hMH : m.c.M ≤ m.c.H := by have := hc.h; omega
  have ht := totalB_nonneg h.a
  have hl := h.l
  have hp := h.p
  have hk := h.k
  exact ⟨hc, h.a, hl, by omega, by omega, h.o, h.mm, h1, h2⟩
abbrev rK (l : List Bk) : Blk := .row t_api_Block (l.map eB)
abbrev rT (l : List Bool) : Blk := .row t_bool (l.map .bool)
abbrev rU (l : List Nat) : Blk := .row t_uint8 (l.map u8)
set_option maxHeartbeats 8000000 in
theorem putsNo_told {m : Mo} {n : Nat} {q : Int} (hi : PutIn m n q) (h : (placeF m m.bs n q).2.2 ≠ 0) : Told P T plain_puts [rK m.bs, rT m.on, rU m.mem] [eMr m.c (.ref 0) m.live m.peak m.mark (.ref 1) (.ref 2), i64 n, i64 q] (.tup [eM m, i64 0, i64 (placeF m m.bs n q).2.2]) [.fz t_api_Block (m.bs.map eB), .fz t_bool (m.on.map .bool), .fz t_uint8 (m.mem.map u8)] := by
  have hc := hi.c
  have ha := hi.a
  have hn := hi.n1
  have hN := hi.n2
  have hH := hc.h2
  have hNM := hc.nM
  have hMH : m.c.M ≤ m.c.H := by have := hc.h; omega
  have hlen := ha.len
  have hpg := hc.pgpos
  have c1 := plainLowest_told hc ha hn (by omega)
  have hsp := lowF_spec (c := m.c) (l := m.bs) hn
  unfold placeF at h ⊢
  simp only at h ⊢
  generalize lowF m.c m.bs n = R at *
  obtain ⟨y, ok⟩ := R
  refine told_of_ev (fn := plain_puts_fn) tabOk mixed (by kernel_rfl) (by kernel_rfl) (by kernel_rfl) (by kernel_rfl) ?_
  (refine gw ?_; refine Choice.mk ⟨false, Choice.mk ⟨true, _, _, c1, ?_⟩⟩)
  cases ok with
  | false =>
    rw [if_pos rfl]
    (refine gw ?_; exact RetN.fz ⟨[true, true, true], [], rfl, rfl, rfl⟩)
  | true =>
    obtain ⟨j, h1, h2, h3, h4⟩ := hsp rfl
    simp only at h1 h2 h3 h4 h ⊢
    rw [← h1] at h2
    rw [if_neg (by simp)] at h ⊢
    have hpa := hc.pages hn h2
    have hml : (metF m.c.Pg m.c.H m.bs).length = m.on.length := by rw [hi.o]; simp [metF]
    have hol : m.on.length ≤ 65536 := by have := hi.o; have := Nat.div_le_self m.c.H m.c.Pg; omega
    have c2 := pinPages_told (pg := m.c.Pg) (y := y) (n := n) hpg hn (by omega)
    have hpH : m.c.Pg ≤ m.c.H := by
      obtain ⟨k, hk⟩ := hc.pgH
      have : 1 ≤ k := by
        rcases Nat.eq_zero_or_pos k with h | h
        · subst h; omega
        · exact h
      rw [hk]; exact Nat.le_mul_of_pos_right _ this
    have c3 := pinMetR_told (pg := m.c.Pg) (size := m.c.H) hpg hH hpH (l := m.bs) (by omega) ha.b
    have c4 := commit_told (on := m.on) hml hol (f := y / m.c.Pg) (b := (y + n - 1) / m.c.Pg + 1) (most := m.c.P) hpa.1 (by rw [hi.o]; exact hpa.2) hc.b
    generalize commitF m.on (metF m.c.Pg m.c.H m.bs) (y / m.c.Pg) ((y + n - 1) / m.c.Pg + 1) m.c.P = C at *
    obtain ⟨on', fr, ok'⟩ := C
    (refine gw ?_; refine Choice.mk ⟨false, Choice.mk ⟨true, _, _, c2, ?_⟩⟩)
    (refine gw ?_; refine Choice.mk ⟨false, Choice.mk ⟨true, _, _, c3, ?_⟩⟩)
    (refine gw ?_)
    refine Need.mk ?_ ?_
    · intro x hx
      obtain ⟨v, _, rfl⟩ := List.mem_map.1 hx
      rfl
    (refine gw ?_; refine Choice.mk ⟨false, Choice.mk ⟨false, _, _, c4, ?_⟩⟩)
    cases ok' with
    | false =>
      rw [if_pos rfl]
      (refine gw ?_; exact RetN.fz ⟨[true, true, true], [], rfl, rfl, rfl⟩)
    | true =>
      rw [if_neg (by simp)] at h
      exact absurd rfl h
end Go.Ev.W
namespace Go.Ev.W
open Go.Ev Go.Ev.N

/-- The answer's variable, before it is written: of no matter. -/
def moU : AV := .agg [i64 0, i64 0, i64 0, i64 0, i64 0, i64 0, i64 0, i64 0, .und, i64 0, i64 0, i64 0, .und, .und]
/-- What puts leaves behind. -/
def PutsTo (m : Mo) (n : Nat) (q : Int) (z : Mo) (y : Int) : Prop :=
  Told P T plain_puts [rK m.bs, rT m.on, rU m.mem] [eMr m.c (.ref 0) m.live m.peak m.mark (.ref 1) (.ref 2), i64 n, i64 q] (.tup [eMr z.c (.ref 3) z.live z.peak z.mark (lT z.on) (.ref 2), i64 y, i64 0]) [.dead, .dead, rU z.mem, rK z.bs] ∨
  Told P T plain_puts [rK m.bs, rT m.on, rU m.mem] [eMr m.c (.ref 0) m.live m.peak m.mark (.ref 1) (.ref 2), i64 n, i64 q] (.tup [eMr z.c (.ref 3) z.live z.peak z.mark (lT z.on) (.ref 4), i64 y, i64 0]) [.dead, .dead, .dead, rK z.bs, rU z.mem]
set_option maxHeartbeats 16000000 in
theorem puts_told {m : Mo} {n : Nat} {q : Int} (hi : PutIn m n q) (h : (placeF m m.bs n q).2.2 = 0) : PutsTo m n q (placeF m m.bs n q).1 (placeF m m.bs n q).2.1 := by
  have hc := hi.c
  have ha := hi.a
  have hn := hi.n1
  have hN := hi.n2
  have hH := hc.h2
  have hNM := hc.nM
  have hMH : m.c.M ≤ m.c.H := by have := hc.h; omega
  have hlen := ha.len
  have hpg := hc.pgpos
  have c1 := plainLowest_told hc ha hn (by omega)
  have hsp := lowF_spec (c := m.c) (l := m.bs) hn
  unfold placeF at h ⊢
  simp only at h ⊢
  generalize lowF m.c m.bs n = R at *
  obtain ⟨y, ok⟩ := R
  cases ok with
  | false => simp at h
  | true =>
    obtain ⟨j, h1, h2, h3, h4⟩ := hsp rfl
    simp only at h1 h2 h3 h4 h ⊢
    rw [← h1] at h2
    rw [if_neg (by simp)] at h ⊢
    have hpa := hc.pages hn h2
    have hml : (metF m.c.Pg m.c.H m.bs).length = m.on.length := by rw [hi.o]; simp [metF]
    have hol : m.on.length ≤ 65536 := by have := hi.o; have := Nat.div_le_self m.c.H m.c.Pg; omega
    have c2 := pinPages_told (pg := m.c.Pg) (y := y) (n := n) hpg hn (by omega)
    have hpH : m.c.Pg ≤ m.c.H := by
      obtain ⟨k, hk⟩ := hc.pgH
      have : 1 ≤ k := by
        rcases Nat.eq_zero_or_pos k with h | h
        · subst h; omega
        · exact h
      rw [hk]; exact Nat.le_mul_of_pos_right _ this
    have c3 := pinMetR_told (pg := m.c.Pg) (size := m.c.H) hpg hH hpH (l := m.bs) (by omega) ha.b
    have c4 := commit_told (on := m.on) hml hol (f := y / m.c.Pg) (b := (y + n - 1) / m.c.Pg + 1) (most := m.c.P) hpa.1 (by rw [hi.o]; exact hpa.2) hc.b
    have hfr := commitF_eq m.on (metF m.c.Pg m.c.H m.bs) (y / m.c.Pg) ((y + n - 1) / m.c.Pg + 1) m.c.P
    generalize commitF m.on (metF m.c.Pg m.c.H m.bs) (y / m.c.Pg) ((y + n - 1) / m.c.Pg + 1) m.c.P = C at *
    obtain ⟨on', fr, ok'⟩ := C
    cases ok' with
    | false => simp at h
    | true =>
      rw [if_neg (by simp)]
      have hlb := lowB_free ha (y := y) (n := n) (by omega) h3
      have hput := putB_ok ha (b := ⟨y, n, q⟩) h3 (by simp; omega)
      have hfl : fr.length ≤ 65536 ∧ ∀ p ∈ fr, (p + 1) * m.c.Pg ≤ m.c.H := by
        split at hfr
        · simp at hfr
        · have e : fr = _ := congrArg (fun z : List Bool × List Nat × Bool => z.2.1) hfr
          simp only at e
          subst e
          refine ⟨Nat.le_trans (freshL_len _ _ _ _) hol, fun p hp => ?_⟩
          have hp := (List.mem_filter.1 hp).1
          have hp : p < m.on.length := by simpa using hp
          rw [hi.o] at hp
          exact (Nat.le_div_iff_mul_le (by omega)).1 hp
      have hfm : (fr.map fun n => i64 (n : Nat)).length = fr.length := by simp
      have hlbl := lowB_le (y : Int) m.bs
      have hmm := hi.mm
      have hbm : (m.bs.map eB).length = m.bs.length := by simp
      have c5 := insert_Block (m.bs.map eB) (eB ⟨y, n, q⟩) (lowB y m.bs) (by omega) (by omega)
      have e5 : (m.bs.map eB).take (lowB y m.bs) ++ (eB ⟨y, n, q⟩ :: (m.bs.map eB).drop (lowB y m.bs)) = (putB m.bs ⟨y, n, q⟩).map eB := by
        unfold putB; rw [List.map_append, List.map_take, List.map_cons, List.map_drop]
      rw [e5] at c5
      have htot := hput.2.2.1
      have htt := hput.1.tot
      have ht0 := totalB_nonneg ha
      have hlv := hi.l
      have hpk := hi.p
      have hmk := hi.k
      have emax : ∀ a b : Int, max a b = if b > a then b else a := fun a b => by split <;> omega
      have htot' : totalB (putB m.bs ⟨y, n, q⟩) = m.live + n := by rw [htot, hlv]
      have htt' : m.live + n ≤ m.c.H := by rw [← htot']; exact htt
      unfold PutsTo
      simp only [htot', emax]
      by_cases hfz : fr.length = 0
      · obtain rfl := List.eq_nil_of_length_eq_zero hfz
        left
        refine told_of_ev_drop (fn := plain_puts_fn) tabOk mixed (by kernel_rfl) (by kernel_rfl) (by kernel_rfl) (by kernel_rfl) ?_
        (refine gw ?_; refine Choice.mk ⟨false, Choice.mk ⟨true, _, _, c1, ?_⟩⟩)
        (refine gw ?_; refine Choice.mk ⟨false, Choice.mk ⟨true, _, _, c2, ?_⟩⟩)
        (refine gw ?_; refine Choice.mk ⟨false, Choice.mk ⟨true, _, _, c3, ?_⟩⟩)
        (refine gw ?_)
        refine Need.mk ?_ ?_
        · intro x hx
          obtain ⟨v, _, rfl⟩ := List.mem_map.1 hx
          rfl
        (refine gw ?_; refine Choice.mk ⟨false, Choice.mk ⟨false, _, _, c4, ?_⟩⟩)
        (refine gw ?_; refine LoopN.mk ⟨[1,2,3,6,9,13,60,61,62], fun vs L => vs = [i64 n, i64 q, .ptr 3 0 0, .ptr 4 0 0, i64 y, lT on', .lst t_int [], i64 0, i64 0] ∧ L = [rK m.bs, .fz t_bool (m.on.map .bool), rU m.mem, .var (eMr m.c (.ref 0) m.live m.peak m.mark (.ref 1) (.ref 2)), .var moU], fun vs L => match vs with | [_, _, _, _, _, _, _, _, .int _ i] => 0 - i.toNat | _ => 0, [], [3,4], rfl, ⟨rfl, rfl⟩, ?_⟩)
        rintro vs L ⟨rfl, rfl⟩
        (refine gw ?_)
        (refine gw ?_; refine LoopN.mk ⟨[1,2,3,6,9,17], fun vs L => ∃ k : Nat, vs = [i64 n, i64 q, .ptr 3 0 0, .ptr 4 0 0, i64 y, i64 k] ∧ L = [rK m.bs, .fz t_bool (m.on.map .bool), rU m.mem, .var (eMr m.c (.ref 0) m.live m.peak m.mark (lT on') (.ref 2)), .var moU] ∧ k ≤ lowB y m.bs, fun vs L => match vs with | [_, _, _, _, _, .int _ i] => lowB y m.bs - i.toNat | _ => 0, [], [3,4], rfl, ⟨0, rfl, rfl, by omega⟩, ?_⟩)
        rintro vs L ⟨k, rfl, rfl, hk⟩
        have hfin : ¬ (k < lowB y m.bs) → k = lowB y m.bs := fun h => by omega
        by_cases g1 : k < m.bs.length
        · have hkk := hlb k g1
          (refine gw ?_; refine IfB.tt (by simp; omega) ?_)
          (refine gw ?_)
          refine at_map (k := k) g1 ?_
          (refine gw ?_; first | refine IfB.dec (fun g2 => ?_) (fun g2 => ?_) | refine IfB.eq (fun g2 => ?_) (fun g2 => ?_) | refine IfB.ne (fun g2 => ?_) (fun g2 => ?_) | refine IfB.mk (fun g2 => ?_) (fun g2 => ?_))
          · (refine gw ?_; refine ⟨[], [3,4], rfl, ⟨k + 1, rfl, rfl, by omega⟩, (by omega : lowB y m.bs - ((k : Int) + 1).toNat < lowB y m.bs - (k : Int).toNat)⟩)
          · obtain rfl := hfin (by omega)
            (refine gw ?_; refine Choice.mk ⟨true, Choice.mk ⟨false, _, _, c5, ?_⟩⟩)
            (refine gw ?_)
            exact RetN.mk ⟨[6], rfl, rfl, .inr rfl, .inr rfl, .inl rfl, .inl rfl, trivial⟩
        · obtain rfl := hfin (by omega)
          (refine gw ?_; refine IfB.ff (by simp; omega) ?_)
          (refine gw ?_; refine Choice.mk ⟨true, Choice.mk ⟨false, _, _, c5, ?_⟩⟩)
          (refine gw ?_)
          exact RetN.mk ⟨[6], rfl, rfl, .inr rfl, .inr rfl, .inl rfl, .inl rfl, trivial⟩
      · right
        have hfk := fun k => fills_len m.c.Sd m.c.Pg (fr.take k) m.mem
        refine told_of_ev_drop (fn := plain_puts_fn) tabOk mixed (by kernel_rfl) (by kernel_rfl) (by kernel_rfl) (by kernel_rfl) ?_
        (refine gw ?_; refine Choice.mk ⟨false, Choice.mk ⟨true, _, _, c1, ?_⟩⟩)
        (refine gw ?_; refine Choice.mk ⟨false, Choice.mk ⟨true, _, _, c2, ?_⟩⟩)
        (refine gw ?_; refine Choice.mk ⟨false, Choice.mk ⟨true, _, _, c3, ?_⟩⟩)
        (refine gw ?_)
        refine Need.mk ?_ ?_
        · intro x hx
          obtain ⟨v, _, rfl⟩ := List.mem_map.1 hx
          rfl
        (refine gw ?_; refine Choice.mk ⟨false, Choice.mk ⟨false, _, _, c4, ?_⟩⟩)
        (refine gw ?_; refine LoopN.mk ⟨[1,2,3,6,9,13,60,61,62], fun vs L => ∃ k : Nat, vs = [i64 n, i64 q, .ptr 3 0 0, .ptr 4 0 0, i64 y, lT on', .lst t_int (fr.map fun n => i64 (n : Nat)), i64 fr.length, i64 k] ∧ k ≤ fr.length ∧ ((k = 0 ∧ L = [rK m.bs, .fz t_bool (m.on.map .bool), rU m.mem, .var (eMr m.c (.ref 0) m.live m.peak m.mark (.ref 1) (.ref 2)), .var moU]) ∨ (0 < k ∧ L = [rK m.bs, .fz t_bool (m.on.map .bool), .fz t_uint8 (m.mem.map u8), .var (eMr m.c (.ref 0) m.live m.peak m.mark (.ref 1) (.ref 5)), .var moU, rU ((fr.take k).foldl (fun mem p => fillF mem m.c.Sd p m.c.Pg) m.mem)])), fun vs L => match vs with | [_, _, _, _, _, _, _, _, .int _ i] => fr.length - i.toNat | _ => 0, [], [3,4], rfl, ⟨0, by rw [← hfm]; rfl, by omega, .inl ⟨rfl, rfl⟩⟩, ?_⟩)
        rintro vs L ⟨k, rfl, hk, hL⟩
        by_cases hkf : k < fr.length
        · have hsu := fills_succ m.c.Sd m.c.Pg m.mem hkf
          have c6 := junkFillR_told (mem := (fr.take k).foldl (fun mem p => fillF mem m.c.Sd p m.c.Pg) m.mem) (by rw [hfk]; omega) (seed := m.c.Sd) (page := fr[k]) (size := m.c.Pg) hpg (by rw [hfk, hmm]; exact hfl.2 _ (List.getElem_mem hkf))
          rw [← hsu] at c6
          rcases hL with ⟨rfl, rfl⟩ | ⟨hk0, rfl⟩
          · have c6 : Told P T junk_Fill [] [lU m.mem, i64 m.c.Sd, i64 fr[0], i64 m.c.Pg] _ _ := c6
            (refine gw ?_; refine IfB.tt (by simp; omega) ?_)
            (refine gw ?_; refine idx_map (hkf) ?_)
            (refine gw ?_; refine Choice.mk ⟨false, Choice.mk ⟨false, _, _, c6, ?_⟩⟩)
            (refine gw ?_; refine ⟨[], [3,4,5], rfl, ⟨1, rfl, by omega, .inr ⟨by omega, rfl⟩⟩, (by omega : fr.length - ((0 : Int) + 1).toNat < fr.length - (0 : Int).toNat)⟩)
          · (refine gw ?_; refine IfB.tt (by simp; omega) ?_)
            (refine gw ?_; refine idx_map (hkf) ?_)
            (refine gw ?_; refine Choice.mk ⟨false, Choice.mk ⟨false, _, _, c6, ?_⟩⟩)
            (refine gw ?_; refine ⟨[], [3,4,6], rfl, ⟨k + 1, rfl, by omega, .inr ⟨by omega, rfl⟩⟩, (by omega : fr.length - ((k : Int) + 1).toNat < fr.length - (k : Int).toNat)⟩)
        · have e : k = fr.length := by omega
          subst e
          rcases hL with ⟨h, _⟩ | ⟨hk0, rfl⟩
          · omega
          · rw [List.take_length]
            (refine gw ?_; refine LoopN.mk ⟨[1,2,3,6,9,17], fun vs L => ∃ k : Nat, vs = [i64 n, i64 q, .ptr 3 0 0, .ptr 4 0 0, i64 y, i64 k] ∧ L = [rK m.bs, .fz t_bool (m.on.map .bool), .fz t_uint8 (m.mem.map u8), .var (eMr m.c (.ref 0) m.live m.peak m.mark (lT on') (.ref 5)), .var moU, rU (fr.foldl (fun mem p => fillF mem m.c.Sd p m.c.Pg) m.mem)] ∧ k ≤ lowB y m.bs, fun vs L => match vs with | [_, _, _, _, _, .int _ i] => lowB y m.bs - i.toNat | _ => 0, [], [3,4,5], rfl, ⟨0, rfl, rfl, by omega⟩, ?_⟩)
            rintro vs L ⟨k, rfl, rfl, hk⟩
            have hfin : ¬ (k < lowB y m.bs) → k = lowB y m.bs := fun h => by omega
            by_cases g1 : k < m.bs.length
            · have hkk := hlb k g1
              (refine gw ?_; refine IfB.tt (by simp; omega) ?_)
              (refine gw ?_)
              refine at_map (k := k) g1 ?_
              (refine gw ?_; first | refine IfB.dec (fun g2 => ?_) (fun g2 => ?_) | refine IfB.eq (fun g2 => ?_) (fun g2 => ?_) | refine IfB.ne (fun g2 => ?_) (fun g2 => ?_) | refine IfB.mk (fun g2 => ?_) (fun g2 => ?_))
              · (refine gw ?_; refine ⟨[], [3,4,5], rfl, ⟨k + 1, rfl, rfl, by omega⟩, (by omega : lowB y m.bs - ((k : Int) + 1).toNat < lowB y m.bs - (k : Int).toNat)⟩)
              · obtain rfl := hfin (by omega)
                (refine gw ?_; refine Choice.mk ⟨true, Choice.mk ⟨false, _, _, c5, ?_⟩⟩)
                (refine gw ?_)
                exact RetN.mk ⟨[7, 5], rfl, rfl, .inr rfl, .inr rfl, .inr rfl, .inl rfl, .inl rfl, trivial⟩
            · obtain rfl := hfin (by omega)
              (refine gw ?_; refine IfB.ff (by simp; omega) ?_)
              (refine gw ?_; refine Choice.mk ⟨true, Choice.mk ⟨false, _, _, c5, ?_⟩⟩)
              (refine gw ?_)
              exact RetN.mk ⟨[7, 5], rfl, rfl, .inr rfl, .inr rfl, .inr rfl, .inl rfl, .inl rfl, trivial⟩
end Go.Ev.W
namespace Go.Ev.W
open Go.Ev Go.Ev.N

/-- What is told of what was let in, or not. -/
def asksF (m : Mo) (ce : Nat × Nat) (q : Int) (f : Mo × Int × Nat → Mo) : Mo × An :=
  if ce.2 ≠ 0 then (m, anE ce.2) else if (placeF m m.bs ce.1 q).2.2 ≠ 0 then (m, anE (placeF m m.bs ce.1 q).2.2) else (f (placeF m m.bs ce.1 q), { an0 with at' := (placeF m m.bs ce.1 q).2.1 })
theorem class_bd {c : Cf} (hc : c.Ok) : ∀ ch, (∃ k, k ≤ c.L ∧ ch = c.G * 2 ^ k) → 1 ≤ ch ∧ ch ≤ c.N := fun ch ⟨k, h1, h2⟩ => by
  rw [h2, hc.n]
  exact ⟨Nat.mul_pos hc.gpos (Nat.two_pow_pos _), Nat.mul_le_mul_left _ (Nat.pow_le_pow_right (by omega) h1)⟩
set_option maxRecDepth 20000 in
set_option maxHeartbeats 4000000 in
theorem aligned_told {m : Mo} (hm : MoOk m) {s a : Int} (ha : a ≤ 9223372036854775807) : Told P T plain_aligned [rK m.bs, rT m.on, rU m.mem] [eMr m.c (.ref 0) m.live m.peak m.mark (.ref 1) (.ref 2), i64 s, i64 a] (.tup [eM (asksF m (newF m.c m.live s a) s (·.1)).1, eA (asksF m (newF m.c m.live s a) s (·.1)).2]) [.dead, .dead, .dead] := by
  have hH := hm.c.h2
  have hMH : m.c.M ≤ m.c.H := by have := hm.c.h; omega
  have htb := totalB_nonneg hm.a
  have hlive : 0 ≤ m.live ∧ m.live ≤ 1000000 := by have := hm.l; have := hm.lM; omega
  have c1 := admitNew_told hm.c m.live s a hlive ha
  have n1 := newF_ok hm.c (live := m.live) (s := s) (a := a)
  unfold asksF
  generalize newF m.c m.live s a = C at *
  obtain ⟨ch, e⟩ := C
  refine told_of_ev_drop (fn := plain_aligned_fn) tabOk mixed (by kernel_rfl) (by kernel_rfl) (by kernel_rfl) (by kernel_rfl) ?_
  (refine gw ?_; refine Choice.mk ⟨false, Choice.mk ⟨true, _, _, c1, ?_⟩⟩)
  by_cases he : e = 0
  · subst he
    obtain ⟨hch, hq1, hq2, hq3⟩ := n1 rfl
    obtain ⟨hc1, hc2⟩ := class_bd hm.c ch hch
    have hpi := hm.putIn (q := s) hc1 hc2
    have t1 := putsNo_told hpi
    have t2 := puts_told hpi
    simp only [ne_eq, not_true_eq_false, if_false]
    generalize placeF m m.bs ch s = C2 at *
    obtain ⟨m2, y2, e2⟩ := C2
    by_cases he2 : e2 = 0
    · subst he2
      simp only [ne_eq, not_true_eq_false, if_false]
      rcases t2 rfl with t | t
      · (refine gw ?_; refine Choice.mk ⟨true, Choice.mk ⟨false, _, _, t, ?_⟩⟩)
        (refine gw ?_)
        exact RetN.fz ⟨[true, true], [], rfl, rfl, .inr rfl, .inr rfl, .inr rfl, trivial⟩
      · (refine gw ?_; refine Choice.mk ⟨true, Choice.mk ⟨false, _, _, t, ?_⟩⟩)
        (refine gw ?_)
        exact RetN.fz ⟨[true, true], [], rfl, rfl, .inr rfl, .inr rfl, .inr rfl, trivial⟩
    · simp only [ne_eq, he2, not_false_eq_true, if_true]
      have t1 := t1 he2
      (refine gw ?_; refine Choice.mk ⟨true, Choice.mk ⟨false, _, _, t1, ?_⟩⟩)
      (refine gw ?_)
      exact RetN.fz ⟨[true, true], [], rfl, rfl, .inr rfl, .inr rfl, .inr rfl, trivial⟩
  · simp only [ne_eq, he, not_false_eq_true, if_true]
    (refine gw ?_; refine IfB.tt (by simpa using he) ?_)
    (refine gw ?_)
    exact RetN.fz ⟨[true, true], [], rfl, rfl, .inr rfl, .inr rfl, .inr rfl, trivial⟩
set_option maxRecDepth 20000 in
set_option maxHeartbeats 4000000 in
theorem calloc_told {m : Mo} (hm : MoOk m) {n s : Int} (hn : -9223372036854775808 ≤ n ∧ n ≤ 9223372036854775807) (hs : -9223372036854775808 ≤ s ∧ s ≤ 9223372036854775807) :
    Told P T plain_calloc [rK m.bs, rT m.on, rU m.mem] [eMr m.c (.ref 0) m.live m.peak m.mark (.ref 1) (.ref 2), i64 n, i64 s] (.tup [eM (asksF m (manyF m.c m.live n s) (n * s) (fun p => { p.1 with mem := zeroF p.1.mem p.2.1.toNat (manyF m.c m.live n s).1 })).1, eA (asksF m (manyF m.c m.live n s) (n * s) (fun p => { p.1 with mem := zeroF p.1.mem p.2.1.toNat (manyF m.c m.live n s).1 })).2]) [.dead, .dead, .dead] := by
  have hH := hm.c.h2
  have hMH : m.c.M ≤ m.c.H := by have := hm.c.h; omega
  have hNM := hm.c.nM
  have htb := totalB_nonneg hm.a
  have hlive : 0 ≤ m.live ∧ m.live ≤ 1000000 := by have := hm.l; have := hm.lM; omega
  have c1 := admitMany_told hm.c m.live n s hlive hn hs
  have c0 := classProd_told (c := m.c) (by omega) n s hn hs
  have n0 := prodF_ok (c := m.c) (n := n) (s := s)
  have n1 := manyF_ok hm.c (live := m.live) (n := n) (s := s)
  have n2 : (manyF m.c m.live n s).2 = 0 → (prodF m.c n s).2 = 0 := fun h => by
    unfold manyF at h
    split at h
    · rename_i h1; exact absurd h h1
    · rename_i h1; simpa using h1
  unfold asksF
  generalize manyF m.c m.live n s = C at *
  obtain ⟨ch, e⟩ := C
  refine told_of_ev_drop (fn := plain_calloc_fn) tabOk mixed (by kernel_rfl) (by kernel_rfl) (by kernel_rfl) (by kernel_rfl) ?_
  (refine gw ?_; refine Choice.mk ⟨false, Choice.mk ⟨true, _, _, c1, ?_⟩⟩)
  by_cases he : e = 0
  · subst he
    obtain ⟨hch, hq1, hq2, hq3, hq4⟩ := n1 rfl
    have hp := n0 (n2 rfl)
    have e0 : i64 ((prodF m.c n s).1 : Nat) = i64 (n * s) := by rw [hp.2.2.2]
    rw [e0] at c0
    obtain ⟨hc1, hc2⟩ := class_bd hm.c ch hch
    have hpi := hm.putIn (q := n * s) hc1 hc2
    have t1 := putsNo_told hpi
    have t2 := puts_told hpi
    have n2 := placeF_ok hm hm.a hm.z hch ⟨hq1, hq2⟩ (by rw [← hm.l]; exact hq3) hm.k.1
    simp only [ne_eq, not_true_eq_false, if_false]
    (refine gw ?_; refine Choice.mk ⟨false, Choice.mk ⟨true, _, _, c0, ?_⟩⟩)
    generalize placeF m m.bs ch (n * s) = C2 at *
    obtain ⟨m2, y2, e2⟩ := C2
    by_cases he2 : e2 = 0
    · subst he2
      have n3 : Put m m.bs ch (n * s) m2 y2 := n2 rfl
      have hy := n3.y0
      have hy2 := n3.yH
      have hml := n3.ml
      have hmm := hm.mm
      have c4 := memZero_told (mem := m2.mem) (by omega) (a := y2.toNat) (n := ch) (by omega)
      rw [Int.toNat_of_nonneg hy] at c4
      simp only [ne_eq, not_true_eq_false, if_false]
      rcases t2 rfl with t | t
      · (refine gw ?_; refine Choice.mk ⟨true, Choice.mk ⟨false, _, _, t, ?_⟩⟩)
        (refine gw ?_; refine Choice.mk ⟨false, Choice.mk ⟨false, _, _, c4, ?_⟩⟩)
        (refine gw ?_)
        exact RetN.fz ⟨[true, true], [], rfl, rfl, .inr rfl, .inr rfl, .inr rfl, trivial⟩
      · (refine gw ?_; refine Choice.mk ⟨true, Choice.mk ⟨false, _, _, t, ?_⟩⟩)
        (refine gw ?_; refine Choice.mk ⟨false, Choice.mk ⟨false, _, _, c4, ?_⟩⟩)
        (refine gw ?_)
        exact RetN.fz ⟨[true, true], [], rfl, rfl, .inr rfl, .inr rfl, .inr rfl, trivial⟩
    · simp only [ne_eq, he2, not_false_eq_true, if_true]
      have t1 := t1 he2
      (refine gw ?_; refine Choice.mk ⟨true, Choice.mk ⟨false, _, _, t1, ?_⟩⟩)
      (refine gw ?_; refine IfB.tt (by simpa using he2) ?_)
      (refine gw ?_)
      exact RetN.fz ⟨[true, true], [], rfl, rfl, .inr rfl, .inr rfl, .inr rfl, trivial⟩
  · simp only [ne_eq, he, not_false_eq_true, if_true]
    (refine gw ?_; refine IfB.tt (by simpa using he) ?_)
    (refine gw ?_)
    exact RetN.fz ⟨[true, true], [], rfl, rfl, .inr rfl, .inr rfl, .inr rfl, trivial⟩
end Go.Ev.W
namespace Go.Ev.W
open Go.Ev Go.Ev.N

set_option maxRecDepth 20000 in
set_option maxHeartbeats 8000000 in
theorem realloc_told {m : Mo} (hm : MoOk m) {o : X.O} (ho : OpOk o) {i : Nat} (hi : i < m.bs.length) (hk : o.k = 4) : Told P T plain_realloc [rK m.bs, rT m.on, rU m.mem] [eMr m.c (.ref 0) m.live m.peak m.mark (.ref 1) (.ref 2), i64 i, i64 o.s] (.tup [eM (ofB m o i).1, eA (ofB m o i).2]) [.dead, .dead, .dead] := by
  have hH := hm.c.h2
  have hNM := hm.c.nM
  have hMH : m.c.M ≤ m.c.H := by have := hm.c.h; omega
  have htb := totalB_nonneg hm.a
  have hlen := hm.a.len
  have hlive : 0 ≤ m.live ∧ m.live ≤ 65536 := by have := hm.l; have := hm.lM; omega
  have hml : (m.bs.map eB).length = m.bs.length := by simp
  have hmu : (m.mem.map u8).length = m.c.H := by rw [List.length_map]; exact hm.mm
  have hmm := hm.mm
  have hmo : (m.on.map AV.bool).length ≤ 65536 := by rw [List.length_map]; have := hm.o; have := Nat.div_le_self m.c.H m.c.Pg; omega
  have hsr := ho.s
  have hb := hm.a.b _ (List.getElem_mem hi)
  have hdt := dropB_tot hi
  have hds := dropB_sub m.bs i
  have had := hm.a.sub hds
  have hdn := totalB_nonneg had
  have hg : m.bs.getD i bk0 = m.bs[i] := by simp [List.getD_eq_getElem?_getD, hi]
  have hl := hm.l
  have hpk := hm.p
  have hmk := hm.k
  have c1 := admitAnew_told hm.c m.live m.bs[i].c o.s (by omega)
  have n1 := newF_ok hm.c (live := m.live - m.bs[i].c) (s := o.s) (a := 1)
  have c2 := twin_told (c := m.c) (live := m.live) (peak := m.peak) (mark := m.mark) (bs := m.bs.map eB) (on := m.on.map .bool) (mem := m.mem.map u8) (by omega) (by omega) (by omega)
  have c3 := goes_told (c := m.c) (live := m.live) (peak := m.peak) (mark := m.mark) (bs := m.bs) (on := m.on.map .bool) (mem := m.mem.map u8) (by omega) (by omega) (fun x hx => by have := hm.a.b x hx; omega) hi
  unfold ofB
  simp only []
  rw [hg, if_pos hk]
  generalize newF m.c (m.live - m.bs[i].c) o.s 1 = C at *
  obtain ⟨ch, e⟩ := C
  refine told_of_ev_drop (fn := plain_realloc_fn) tabOk mixed (by kernel_rfl) (by kernel_rfl) (by kernel_rfl) (by kernel_rfl) ?_
  (refine gw ?_)
  refine at_map (k := i) hi ?_
  (refine gw ?_; refine Choice.mk ⟨false, Choice.mk ⟨true, _, _, c1, ?_⟩⟩)
  by_cases he : e = 0
  · subst he
    obtain ⟨hch, hq1, hq2, hq3⟩ := n1 rfl
    obtain ⟨hc1, hc2⟩ := class_bd hm.c ch hch
    have hpi : PutIn { m with bs := dropB m.bs i, live := m.live - m.bs[i].c } ch o.s := ⟨hm.c, had, by rw [hdt, ← hl], by simp only; omega, by simp only; omega, hm.o, hm.mm, hc1, hc2⟩
    have t1 := putsNo_told hpi
    have t2 := puts_told hpi
    have n2 := placeF_ok hm had (fun x hx => hm.z x (hds.subset hx)) hch ⟨hq1, hq2⟩ (by rw [hdt, ← hl]; exact hq3) (fun x hx => hm.k.1 x (hds.subset hx))
    have ePl : (placeF { m with bs := dropB m.bs i, live := m.live - m.bs[i].c } (dropB m.bs i) ch o.s).2 = (placeF m (dropB m.bs i) ch o.s).2 ∧ ((placeF { m with bs := dropB m.bs i, live := m.live - m.bs[i].c } (dropB m.bs i) ch o.s).2.2 = 0 → (placeF { m with bs := dropB m.bs i, live := m.live - m.bs[i].c } (dropB m.bs i) ch o.s).1 = (placeF m (dropB m.bs i) ch o.s).1) := by
      unfold placeF
      simp only
      split
      · exact ⟨rfl, fun h => by simp at h⟩
      · split
        · exact ⟨rfl, fun h => by simp at h⟩
        · exact ⟨rfl, fun _ => rfl⟩
    obtain ⟨e1, e2⟩ := ePl
    rw [show ({ m with bs := dropB m.bs i, live := m.live - m.bs[i].c } : Mo).bs = dropB m.bs i from rfl] at t1 t2
    rw [e1] at t1 t2 e2
    simp only [ne_eq, not_true_eq_false, if_false]
    (refine gw ?_; refine Choice.mk ⟨false, Choice.mk ⟨false, _, _, c2, ?_⟩⟩)
    (refine gw ?_; refine Choice.mk ⟨true, Choice.mk ⟨false, _, _, c3, ?_⟩⟩)
    by_cases he2 : (placeF m (dropB m.bs i) ch o.s).2.2 = 0
    · rw [e2 he2] at t2
      have t3 := t2 he2
      have n3 := n2 he2
      clear t1 e1 e2 t2 n2
      generalize placeF m (dropB m.bs i) ch o.s = C2 at *
      obtain ⟨m2, y2, e2⟩ := C2
      simp only at he2 t3 n3
      subst he2
      simp only [not_true_eq_false, if_false]
      have hy := n3.y0
      have hy2 := n3.yH
      have hml2 := n3.ml
      have hu2 : (m2.mem.map u8).length = m.c.H := by rw [List.length_map]; omega
      have emin : ∀ a b : Int, min a b = if b < a then b else a := fun a b => by split <;> omega
      obtain ⟨y, rfl⟩ : ∃ y : Nat, y2 = ((y : Nat) : Int) := ⟨y2.toNat, by omega⟩
      rw [emin]
      obtain ⟨N, hN, hN1, hN2⟩ : ∃ N : Nat, (if m.bs[i].c < (ch : Int) then m.bs[i].c else (ch : Int)) = ((N : Nat) : Int) ∧ N ≤ ch ∧ ((N : Nat) : Int) ≤ m.bs[i].c := ⟨(if m.bs[i].c < (ch : Int) then m.bs[i].c else (ch : Int)).toNat, by split <;> omega, by split <;> omega, by split <;> omega⟩
      have hN' : (if (ch : Int) < m.bs[i].c then (ch : Int) else m.bs[i].c) = ((N : Nat) : Int) := by rw [← hN]; split <;> split <;> omega
      rw [hN]
      have hX : lU (m2.mem.take ((y : Nat) : Int).toNat ++ (m.mem.take (m.bs[i].a + ((N : Nat) : Int)).toNat).drop m.bs[i].a.toNat ++ m2.mem.drop (((y : Nat) : Int) + ((N : Nat) : Int)).toNat) =
          .lst t_uint8 ((m2.mem.map u8).take ((y : Nat) : Int).toNat ++ (List.take (min (((m.mem.map u8).take (m.bs[i].a + ((N : Nat) : Int)).toNat).drop m.bs[i].a.toNat).length ((((m2.mem.map u8).length : Nat) : Int).toNat - ((y : Nat) : Int).toNat)) (((m.mem.map u8).take (m.bs[i].a + ((N : Nat) : Int)).toNat).drop m.bs[i].a.toNat) ++ (m2.mem.map u8).drop (((y : Nat) : Int).toNat + min (((m.mem.map u8).take (m.bs[i].a + ((N : Nat) : Int)).toNat).drop m.bs[i].a.toNat).length ((((m2.mem.map u8).length : Nat) : Int).toNat - ((y : Nat) : Int).toNat)))) := by
        have g1 : (((m.mem.map u8).take (m.bs[i].a + ((N : Nat) : Int)).toNat).drop m.bs[i].a.toNat).length = N := by rw [List.length_drop, List.length_take, hmu]; omega
        have g2 : min N ((((m2.mem.map u8).length : Nat) : Int).toNat - ((y : Nat) : Int).toNat) = N := by rw [hu2]; omega
        have g4 : List.take N (((m.mem.map u8).take (m.bs[i].a + ((N : Nat) : Int)).toNat).drop m.bs[i].a.toNat) = ((m.mem.map u8).take (m.bs[i].a + ((N : Nat) : Int)).toNat).drop m.bs[i].a.toNat := List.take_of_length_le (by rw [g1]; exact Nat.le_refl _)
        rw [g1, g2, g4]
        have g3 : (((y : Nat) : Int) + ((N : Nat) : Int)).toNat = y + N := by omega
        unfold lU
        rw [g3, Int.toNat_natCast]
        simp only [List.map_append, List.map_take, List.map_drop, List.append_assoc]
      rcases t3 with t | t
      · (refine gw ?_; refine Choice.mk ⟨true, Choice.mk ⟨false, _, _, t, ?_⟩⟩)
        (refine gw ?_; refine Cut.mk (by first | omega | (simp; omega) | (simp <;> fail)) (by first | omega | (simp; omega) | (simp <;> fail)) (by first | omega | (simp; omega) | (simp <;> fail)) ?_)
        (refine gw ?_)
        rw [hN']
        (refine gw ?_; refine Cut.mk (by first | omega | (simp; omega) | (simp <;> fail)) (by first | omega | (simp; omega) | (simp <;> fail)) (by first | omega | (simp; omega) | (simp <;> fail)) ?_)
        (refine gw ?_)
        refine RetN.fz ⟨[true, true], [], rfl, ?_, .inr rfl, .inr rfl, .inr rfl, trivial⟩
        refine Eq.trans ?_ (congrArg (fun z => AV.tup [AV.agg [i64 m2.c.G, i64 m2.c.N, i64 m2.c.M, i64 m2.c.L, i64 m2.c.Pg, i64 m2.c.P, i64 m2.c.H, i64 m2.c.Sd, lK m2.bs, i64 m2.live, i64 m2.peak, i64 m2.mark, lT m2.on, z], eA { an0 with at' := ((y : Nat) : Int) }]) hX.symm)
        rfl
      · (refine gw ?_; refine Choice.mk ⟨true, Choice.mk ⟨false, _, _, t, ?_⟩⟩)
        (refine gw ?_; refine Cut.mk (by first | omega | (simp; omega) | (simp <;> fail)) (by first | omega | (simp; omega) | (simp <;> fail)) (by first | omega | (simp; omega) | (simp <;> fail)) ?_)
        (refine gw ?_)
        rw [hN']
        (refine gw ?_; refine Cut.mk (by first | omega | (simp; omega) | (simp <;> fail)) (by first | omega | (simp; omega) | (simp <;> fail)) (by first | omega | (simp; omega) | (simp <;> fail)) ?_)
        (refine gw ?_)
        refine RetN.fz ⟨[true, true], [], rfl, ?_, .inr rfl, .inr rfl, .inr rfl, trivial⟩
        refine Eq.trans ?_ (congrArg (fun z => AV.tup [AV.agg [i64 m2.c.G, i64 m2.c.N, i64 m2.c.M, i64 m2.c.L, i64 m2.c.Pg, i64 m2.c.P, i64 m2.c.H, i64 m2.c.Sd, lK m2.bs, i64 m2.live, i64 m2.peak, i64 m2.mark, lT m2.on, z], eA { an0 with at' := ((y : Nat) : Int) }]) hX.symm)
        rfl
    · have t1 := t1 he2
      simp only [he2, not_false_eq_true, if_true]
      (refine gw ?_; refine Choice.mk ⟨true, Choice.mk ⟨false, _, _, t1, ?_⟩⟩)
      (refine gw ?_; refine IfB.tt (by simpa using he2) ?_)
      (refine gw ?_)
      exact RetN.fz ⟨[true, true], [], rfl, rfl, .inr rfl, .inr rfl, .inr rfl, trivial⟩
  · simp only [ne_eq, he, not_false_eq_true, if_true]
    (refine gw ?_; refine IfB.tt (by simpa using he) ?_)
    (refine gw ?_)
    exact RetN.fz ⟨[true, true], [], rfl, rfl, .inr rfl, .inr rfl, .inr rfl, trivial⟩
end Go.Ev.W
namespace Go.Ev.W
open Go.Ev Go.Ev.N

theorem pg_le {c : Cf} (hc : c.Ok) (h : 1 ≤ c.H) : c.Pg ≤ c.H := by
  obtain ⟨k, hk⟩ := hc.pgH
  have : 1 ≤ k := by
    rcases Nat.eq_zero_or_pos k with h | h
    · subst h; omega
    · exact h
  rw [hk]; exact Nat.le_mul_of_pos_right _ this
set_option maxRecDepth 20000 in
set_option maxHeartbeats 4000000 in
theorem plainTrim_told {m : Mo} (hm : MoOk m) (hH1 : 1 ≤ m.c.H) : Told P T plain_trim [rK m.bs, rT m.on, rU m.mem] [eMr m.c (.ref 0) m.live m.peak m.mark (.ref 1) (.ref 2)] (.tup [eM { m with on := (trimF m.on (metF m.c.Pg m.c.H m.bs)).1 }, eA { an0 with n := (trimF m.on (metF m.c.Pg m.c.H m.bs)).2 }]) [.dead, .dead, .dead] := by
  have hH := hm.c.h2
  have hpg := hm.c.pgpos
  have hlen := hm.a.len
  have hml : (metF m.c.Pg m.c.H m.bs).length = m.on.length := by rw [hm.o]; simp [metF]
  have hol : m.on.length ≤ 65536 := by have := hm.o; have := Nat.div_le_self m.c.H m.c.Pg; omega
  have c3 := pinMetR_told (pg := m.c.Pg) (size := m.c.H) hpg hH (pg_le hm.c hH1) (l := m.bs) (by omega) hm.a.b
  have c4 := trim_told hml hol
  refine told_of_ev_drop (fn := plain_trim_fn) tabOk mixed (by kernel_rfl) (by kernel_rfl) (by kernel_rfl) (by kernel_rfl) ?_
  (refine gw ?_; refine Choice.mk ⟨false, Choice.mk ⟨true, _, _, c3, ?_⟩⟩)
  (refine gw ?_)
  refine Need.mk ?_ ?_
  · intro x hx
    obtain ⟨v, _, rfl⟩ := List.mem_map.1 hx
    rfl
  (refine gw ?_; refine Choice.mk ⟨false, Choice.mk ⟨false, _, _, c4, ?_⟩⟩)
  (refine gw ?_)
  exact RetN.fz ⟨[true, true], [], rfl, rfl, .inr rfl, .inr rfl, .inr rfl, trivial⟩
set_option maxRecDepth 20000 in
set_option maxHeartbeats 4000000 in
theorem bytes_told {m : Mo} (hm : MoOk m) {o : X.O} (ho : OpOk o) {i : Nat} (hi : i < m.bs.length) (hk : o.k = 7 ∨ o.k = 8) : Told P T plain_bytes [rK m.bs, rT m.on, rU m.mem] [eMr m.c (.ref 0) m.live m.peak m.mark (.ref 1) (.ref 2), i64 i, X.encO o] (.tup [eM (ofB m o i).1, eA (ofB m o i).2]) [.dead, .dead, .dead] := by
  have hH := hm.c.h2
  have hb := hm.a.b _ (List.getElem_mem hi)
  have hml : (m.bs.map eB).length = m.bs.length := by simp
  have hg : m.bs.getD i bk0 = m.bs[i] := by simp [List.getD_eq_getElem?_getD, hi]
  have hnr := ho.n
  have hbr := ho.b
  have hmm := hm.mm
  unfold ofB
  simp only []
  rw [hg, if_neg (by omega), if_neg (by omega), if_neg (by omega)]
  refine told_of_ev_drop (fn := plain_bytes_fn) tabOk mixed (by kernel_rfl) (by kernel_rfl) (by kernel_rfl) (by kernel_rfl) ?_
  (refine gw ?_)
  refine at_map (k := i) hi ?_
  by_cases hr : o.n < 0 ∨ o.n ≥ m.bs[i].c
  · rw [if_pos hr]
    by_cases h0 : o.n < 0
    · (refine gw ?_; refine IfB.tt (by simpa using h0) ?_)
      (refine gw ?_)
      exact RetN.fz ⟨[true, true], [], rfl, rfl, .inr rfl, .inr rfl, .inr rfl, trivial⟩
    · (refine gw ?_; refine IfB.ff (by simpa using h0) ?_)
      (refine gw ?_; refine IfB.tt (by simp; omega) ?_)
      (refine gw ?_)
      exact RetN.fz ⟨[true, true], [], rfl, rfl, .inr rfl, .inr rfl, .inr rfl, trivial⟩
  · obtain ⟨j, hj⟩ : ∃ j : Nat, m.bs[i].a + o.n = ((j : Nat) : Int) := ⟨(m.bs[i].a + o.n).toNat, by omega⟩
    rw [if_neg hr]
    (refine gw ?_; refine IfB.ff (by simp; omega) ?_)
    (refine gw ?_; refine IfB.ff (by simp; omega) ?_)
    rw [hj, Int.toNat_natCast]
    have c1 := memGet_told (mem := m.mem) (by omega) (a := j) (by omega)
    have c2 := memPut_told (mem := m.mem) (by omega) (a := j) (b := o.b) (by omega)
    by_cases h7 : o.k = 7
    · rw [if_pos h7]
      (refine gw ?_; refine IfB.tt (by simp [h7]) ?_)
      (refine gw ?_)
      rw [hj]
      (refine gw ?_; refine Choice.mk ⟨false, Choice.mk ⟨true, _, _, c1, ?_⟩⟩)
      (refine gw ?_)
      exact RetN.fz ⟨[true, true], [], rfl, rfl, .inr rfl, .inr rfl, .inr rfl, trivial⟩
    · rw [if_neg h7]
      (refine gw ?_; refine IfB.ff (by simp [h7]) ?_)
      (refine gw ?_)
      rw [hj]
      (refine gw ?_; refine Choice.mk ⟨false, Choice.mk ⟨false, _, _, c2, ?_⟩⟩)
      (refine gw ?_)
      have hse : lU (m.mem.set j o.b.toNat) = .lst t_uint8 ((m.mem.map u8).set j (.int .u8 o.b)) := by
        unfold lU
        rw [List.map_set]
        have : u8 o.b.toNat = .int .u8 o.b := by unfold u8; rw [Int.toNat_of_nonneg hbr.1]
        rw [this]
      refine RetN.fz ⟨[true, true], [], rfl, ?_, .inr rfl, .inr rfl, .inr rfl, trivial⟩
      refine Eq.trans ?_ (congrArg (fun z => AV.tup [AV.agg [i64 m.c.G, i64 m.c.N, i64 m.c.M, i64 m.c.L, i64 m.c.Pg, i64 m.c.P, i64 m.c.H, i64 m.c.Sd, lK m.bs, i64 m.live, i64 m.peak, i64 m.mark, lT m.on, z], eA an0]) hse.symm)
      rfl
set_option maxRecDepth 20000 in
set_option maxHeartbeats 4000000 in
theorem block_told' {m : Mo} (hm : MoOk m) {o : X.O} (ho : OpOk o) (hk : o.k = 4 ∨ o.k = 5 ∨ o.k = 6 ∨ o.k = 7 ∨ o.k = 8) : Told P T plain_block [rK m.bs, rT m.on, rU m.mem] [eMr m.c (.ref 0) m.live m.peak m.mark (.ref 1) (.ref 2), X.encO o] (.tup [eM (doF m o).1, eA (doF m o).2]) [.dead, .dead, .dead] := by
  have hH := hm.c.h2
  have hMH : m.c.M ≤ m.c.H := by have := hm.c.h; omega
  have hlen := hm.a.len
  have htb := totalB_nonneg hm.a
  have hlive : 0 ≤ m.live ∧ m.live ≤ 65536 := by have := hm.l; have := hm.lM; omega
  have hml : (m.bs.map eB).length = m.bs.length := by simp
  have c1 := plainFind_told m (by omega) o.p
  unfold doF
  rw [if_neg (by omega), if_neg (by omega), if_neg (by omega), if_pos hk]
  refine told_of_ev_drop (fn := plain_block_fn) tabOk mixed (by kernel_rfl) (by kernel_rfl) (by kernel_rfl) (by kernel_rfl) ?_
  cases hf : findB m.bs o.p with
  | none =>
    rw [hf] at c1
    (refine gw ?_; refine Choice.mk ⟨false, Choice.mk ⟨true, _, _, c1, ?_⟩⟩)
    (refine gw ?_)
    exact RetN.fz ⟨[true, true], [], rfl, rfl, .inr rfl, .inr rfl, .inr rfl, trivial⟩
  | some i =>
    rw [hf] at c1
    obtain ⟨hi, _⟩ := findB_lt hf
    have hb := hm.a.b _ (List.getElem_mem hi)
    simp only at c1 ⊢
    (refine gw ?_; refine Choice.mk ⟨false, Choice.mk ⟨true, _, _, c1, ?_⟩⟩)
    by_cases h4 : o.k = 4
    · have c2 := realloc_told hm ho hi h4
      (refine gw ?_; refine IfB.tt (by simp [h4]) ?_)
      (refine gw ?_; refine Choice.mk ⟨true, Choice.mk ⟨false, _, _, c2, ?_⟩⟩)
      (refine gw ?_)
      exact RetN.fz ⟨[true, true], [], rfl, rfl, .inr rfl, .inr rfl, .inr rfl, trivial⟩
    · have hg : m.bs.getD i bk0 = m.bs[i] := by simp [List.getD_eq_getElem?_getD, hi]
      (refine gw ?_; refine IfB.ff (by simp [h4]) ?_)
      by_cases h5 : o.k = 5
      · have e5 : ofB m o i = ({ m with bs := dropB m.bs i, live := m.live - m.bs[i].c }, an0) := by unfold ofB; simp only []; rw [hg, if_neg h4, if_pos h5]
        rw [e5]
        have c3 := goes_told (c := m.c) (live := m.live) (peak := m.peak) (mark := m.mark) (bs := m.bs) (on := m.on.map .bool) (mem := m.mem.map u8) (by omega) (by omega) (fun x hx => by have := hm.a.b x hx; omega) hi
        (refine gw ?_; refine IfB.tt (by simp [h5]) ?_)
        (refine gw ?_; refine Choice.mk ⟨true, Choice.mk ⟨false, _, _, c3, ?_⟩⟩)
        (refine gw ?_)
        exact RetN.fz ⟨[true, true], [], rfl, rfl, .inr rfl, .inr rfl, .inr rfl, trivial⟩
      · (refine gw ?_; refine IfB.ff (by simp [h5]) ?_)
        by_cases h6 : o.k = 6
        · have e6 : ofB m o i = (m, { an0 with n := m.bs[i].c }) := by unfold ofB; simp only []; rw [hg, if_neg h4, if_neg h5, if_pos h6]
          rw [e6]
          (refine gw ?_; refine IfB.tt (by simp [h6]) ?_)
          (refine gw ?_)
          refine at_map (k := i) hi ?_
          (refine gw ?_)
          exact RetN.fz ⟨[true, true], [], rfl, rfl, .inr rfl, .inr rfl, .inr rfl, trivial⟩
        · have c2 := bytes_told hm ho hi (by omega)
          (refine gw ?_; refine IfB.ff (by simp [h6]) ?_)
          (refine gw ?_; refine Choice.mk ⟨true, Choice.mk ⟨false, _, _, c2, ?_⟩⟩)
          (refine gw ?_)
          exact RetN.fz ⟨[true, true], [], rfl, rfl, .inr rfl, .inr rfl, .inr rfl, trivial⟩
set_option maxRecDepth 20000 in
set_option maxHeartbeats 4000000 in
theorem plainDo_told {m : Mo} (hm : MoOk m) (hH1 : 1 ≤ m.c.H) {o : X.O} (ho : OpOk o) : Told P T plain_Do [] [eM m, X.encO o] (.tup [eM (doF m o).1, eA (doF m o).2]) [] := by
  have hH := hm.c.h2
  have hlen := hm.a.len
  have hmm := hm.mm
  have hol : m.on.length ≤ 65536 := by have := hm.o; have := Nat.div_le_self m.c.H m.c.Pg; omega
  have c0 := twin_told (c := m.c) (live := m.live) (peak := m.peak) (mark := m.mark) (bs := m.bs.map eB) (on := m.on.map .bool) (mem := m.mem.map u8) (by rw [List.length_map]; omega) (by rw [List.length_map]; omega) (by rw [List.length_map]; omega)
  have c0 : Told P T plain_twin [] [eM m] _ _ := c0
  refine told_of_ev (fn := plain_Do_fn) tabOk mixed (by kernel_rfl) (by kernel_rfl) (by kernel_rfl) (by kernel_rfl) ?_
  (refine gw ?_; refine Choice.mk ⟨false, Choice.mk ⟨false, _, _, c0, ?_⟩⟩)
  by_cases h1 : o.k = 1
  · have c1 := aligned_told hm (s := o.s) (a := 1) (by omega)
    have e : doF m o = asksF m (newF m.c m.live o.s 1) o.s (·.1) := by
      unfold doF giveF asksF
      rw [if_pos (.inl h1)]
      simp only [if_neg (show ¬ o.k = 2 by omega), if_neg (show ¬ o.k = 3 by omega)]
    rw [e]
    (refine gw ?_; refine IfB.tt (by simp [h1]) ?_)
    (refine gw ?_; refine Choice.mk ⟨true, Choice.mk ⟨false, _, _, c1, ?_⟩⟩)
    (refine gw ?_; exact RetN.fz ⟨[true, true], [], rfl, rfl, rfl⟩)
  (refine gw ?_; refine IfB.ff (by simp [h1]) ?_)
  by_cases h2 : o.k = 2
  · have c1 := calloc_told hm ho.n ho.s
    have e : doF m o = asksF m (manyF m.c m.live o.n o.s) (o.n * o.s) (fun p => { p.1 with mem := zeroF p.1.mem p.2.1.toNat (manyF m.c m.live o.n o.s).1 }) := by
      unfold doF giveF asksF
      rw [if_pos (.inr (.inr h2))]
      simp only [if_pos h2]
    rw [e]
    (refine gw ?_; refine IfB.tt (by simp [h2]) ?_)
    (refine gw ?_; refine Choice.mk ⟨true, Choice.mk ⟨false, _, _, c1, ?_⟩⟩)
    (refine gw ?_; exact RetN.fz ⟨[true, true], [], rfl, rfl, rfl⟩)
  (refine gw ?_; refine IfB.ff (by simp [h2]) ?_)
  by_cases h3 : o.k = 3
  · have c1 := aligned_told hm (s := o.s) (a := o.a) ho.a.2
    have e : doF m o = asksF m (newF m.c m.live o.s o.a) o.s (·.1) := by
      unfold doF giveF asksF
      rw [if_pos (.inr (.inl h3))]
      simp only [if_neg h2, if_pos h3]
    rw [e]
    (refine gw ?_; refine IfB.tt (by simp [h3]) ?_)
    (refine gw ?_; refine Choice.mk ⟨true, Choice.mk ⟨false, _, _, c1, ?_⟩⟩)
    (refine gw ?_; exact RetN.fz ⟨[true, true], [], rfl, rfl, rfl⟩)
  (refine gw ?_; refine IfB.ff (by simp [h3]) ?_)
  by_cases hk : o.k = 4 ∨ o.k = 5 ∨ o.k = 6 ∨ o.k = 7 ∨ o.k = 8
  · have c1 := block_told' hm ho hk
    rcases hk with hk | hk | hk | hk | hk
    · (refine gw ?_; refine IfB.tt (by simp [hk]) ?_)
      (refine gw ?_; refine IfB.tt (by simp [hk]) ?_)
      (refine gw ?_; refine Choice.mk ⟨true, Choice.mk ⟨false, _, _, c1, ?_⟩⟩)
      (refine gw ?_; exact RetN.fz ⟨[true, true], [], rfl, rfl, rfl⟩)
    · (refine gw ?_; refine IfB.ff (by simp [hk]) ?_)
      (refine gw ?_; refine IfB.tt (by simp [hk]) ?_)
      (refine gw ?_; refine IfB.tt (by simp [hk]) ?_)
      (refine gw ?_; refine Choice.mk ⟨true, Choice.mk ⟨false, _, _, c1, ?_⟩⟩)
      (refine gw ?_; exact RetN.fz ⟨[true, true], [], rfl, rfl, rfl⟩)
    · (refine gw ?_; refine IfB.ff (by simp [hk]) ?_)
      (refine gw ?_; refine IfB.ff (by simp [hk]) ?_)
      (refine gw ?_; refine IfB.tt (by simp [hk]) ?_)
      (refine gw ?_; refine IfB.tt (by simp [hk]) ?_)
      (refine gw ?_; refine Choice.mk ⟨true, Choice.mk ⟨false, _, _, c1, ?_⟩⟩)
      (refine gw ?_; exact RetN.fz ⟨[true, true], [], rfl, rfl, rfl⟩)
    · (refine gw ?_; refine IfB.ff (by simp [hk]) ?_)
      (refine gw ?_; refine IfB.ff (by simp [hk]) ?_)
      (refine gw ?_; refine IfB.ff (by simp [hk]) ?_)
      (refine gw ?_; refine IfB.tt (by simp [hk]) ?_)
      (refine gw ?_; refine IfB.tt (by simp [hk]) ?_)
      (refine gw ?_; refine Choice.mk ⟨true, Choice.mk ⟨false, _, _, c1, ?_⟩⟩)
      (refine gw ?_; exact RetN.fz ⟨[true, true], [], rfl, rfl, rfl⟩)
    · (refine gw ?_; refine IfB.ff (by simp [hk]) ?_)
      (refine gw ?_; refine IfB.ff (by simp [hk]) ?_)
      (refine gw ?_; refine IfB.ff (by simp [hk]) ?_)
      (refine gw ?_; refine IfB.ff (by simp [hk]) ?_)
      (refine gw ?_; refine IfB.tt (by simp [hk]) ?_)
      (refine gw ?_; refine Choice.mk ⟨true, Choice.mk ⟨false, _, _, c1, ?_⟩⟩)
      (refine gw ?_; exact RetN.fz ⟨[true, true], [], rfl, rfl, rfl⟩)
  (refine gw ?_; refine IfB.ff (by simp; omega) ?_)
  (refine gw ?_; refine IfB.ff (by simp; omega) ?_)
  (refine gw ?_; refine IfB.ff (by simp; omega) ?_)
  (refine gw ?_; refine IfB.ff (by simp; omega) ?_)
  (refine gw ?_; refine IfB.ff (by simp; omega) ?_)
  unfold doF
  rw [if_neg (by omega)]
  by_cases h9 : o.k = 9
  · have c1 := plainTrim_told hm hH1
    rw [if_pos h9]
    (refine gw ?_; refine IfB.tt (by simp [h9]) ?_)
    (refine gw ?_; refine Choice.mk ⟨true, Choice.mk ⟨false, _, _, c1, ?_⟩⟩)
    (refine gw ?_; exact RetN.fz ⟨[true, true], [], rfl, rfl, rfl⟩)
  rw [if_neg h9]
  (refine gw ?_; refine IfB.ff (by simp [h9]) ?_)
  by_cases h10 : o.k = 10
  · have c1 := pinCount_told m.on (by omega)
    rw [if_pos h10]
    (refine gw ?_; refine IfB.tt (by simp [h10]) ?_)
    (refine gw ?_; refine Choice.mk ⟨false, Choice.mk ⟨true, _, _, c1, ?_⟩⟩)
    (refine gw ?_; exact RetN.fz ⟨[true, true], [], rfl, rfl, rfl⟩)
  rw [if_neg h10, if_neg hk]
  (refine gw ?_; refine IfB.ff (by simp [h10]) ?_)
  (refine gw ?_; exact RetN.fz ⟨[true, true], [], rfl, rfl, rfl⟩)
end Go.Ev.W
