/- The walk of transport.parts; a row that was made and filled by copy. No condition. -/
import Derived.Test.YtkpjinkkjbljkaaTs1
import Derived.Test.YtkpjinkkjbljkaaOct3
import Derived.Test.YtkpjinkkjbljkaaCopy
import Derived.Laws.CopyRow
namespace Go.Proofs.Ytkpjinkkjbljkaa
open Go.RowKit

/-- The world with an object more, read. -/
theorem heap_al (w : World) (o : Obj) (k : Nat) : (w.alloc o).heap[k]? = if k = w.heap.size then some o else w.heap[k]? := by
  by_cases h : k = w.heap.size
  · subst h; rw [if_pos rfl, heap_alloc_new]
  · rw [if_neg h]
    rcases Nat.lt_or_ge k w.heap.size with h1 | h1
    · exact Below.heap_alloc _ _ _ h1
    · rw [Array.getElem?_eq_none (by simp; omega), Array.getElem?_eq_none h1]
theorem setRow_alloc (w : World) (a b : Array Value) (t : TypeId) : (w.alloc (.cells a t)).setRow w.heap.size b = w.alloc (.cells b t) := by
  unfold World.setRow World.alloc
  congr 1
  apply Array.ext
  · simp
  · intro i h1 h2
    simp only [Array.getElem_modify, Array.getElem_push]
    simp at h1
    by_cases h : w.heap.size = i
    · subst h; simp
    · rw [if_neg h, dif_pos (show i < w.heap.size by omega), dif_pos (show i < w.heap.size by omega)]
/-- copy of a whole slice onto the row that was just made for it. -/
theorem run_copy_made {P : Program} {t e : TypeId} {size bytes : Nat} (E : El P t e size bytes) (ty : TypeId) (W : World) {B n : Nat} {v : Value} {cs : List Value} (h : Sl W B size v n cs) (hB : B ≤ W.heap.size) (h1 : ∀ u ∈ cs, u.oneCell' = true) (cur : Array Value) (hc : cur.size = n * size) :
    (Builtin.copy_ #[t, t] ty #[.slice (some ⟨W.heap.size, 0, none⟩) n n, v]).run P (W.alloc (.cells cur e)) = .ok (goInt n) (W.alloc (.cells cs.toArray e)) := by
  obtain ⟨ht, ⟨i, z, hi, hz, hsz, hby, hzs⟩, hpos, hposb⟩ := E
  obtain ⟨A, c, rfl, hnc, hcm, hl, hr⟩ := h
  have hmin : Nat.min n n = n := Nat.min_self n
  rcases hr with rfl | ⟨b, off, rfl, hb, hcell⟩
  · have hn : n = 0 := by
      rcases Nat.eq_zero_or_pos n with h | h
      · exact h
      · have := Nat.mul_pos h hpos; simp at hl; omega
    subst hn
    have hcur : cur = #[] := by simpa using hc
    subst hcur
    rcases A with _ | ad
    · simp [Builtin.copy_, run_underlying ht, Builtin.lenOf, Builtin.firstCells, sizeOf, typeInfo, hi, storeCells]
    · have hl0 := run_loadCells_list (P := P) (W.alloc (.cells #[] e)) ad [] (fun j u hu => by simp at hu)
      simp only [List.length_nil] at hl0
      simp [Builtin.copy_, run_underlying ht, Builtin.lenOf, Builtin.firstCells, sizeOf, typeInfo, hi, storeCells, hl0]
  · have h := run_copy_wide (P := P) (W.alloc (.cells cur e)) t t ty e W.heap.size 0 n n ⟨b, off, none⟩ n c size cur e cs ht (by simp [hi, hsz]) (heap_alloc_new _ _) (by rw [hmin]; exact hl)
      (fun j u hu => by
        have e1 : (⟨b, off, none⟩ : Addr).add j = ⟨b, off + j, none⟩ := by unfold Addr.add; split <;> simp_all
        rw [e1]
        exact ((al1 W _).cell (p := ⟨b, off + j, none⟩) (show b < W.heap.size by omega)).trans (hcell j u hu)) (by rw [hc, hl]; omega) h1
    rw [hmin] at h
    rw [h, List.take_zero, List.nil_append, Nat.zero_add, List.drop_eq_nil_of_le (by rw [Array.length_toList, hc, hl]; exact Nat.le_refl _), List.append_nil, setRow_alloc]
/-- copy of a whole slice onto a row of that length. -/
theorem run_copy_row {P : Program} {t e : TypeId} {size bytes : Nat} (E : El P t e size bytes) (ty : TypeId) (W : World) {B n g : Nat} {v : Value} {cs : List Value} (h : Sl W B size v n cs) (h1 : ∀ u ∈ cs, u.oneCell' = true) (cur : Array Value) (hg : W.heap[g]? = some (.cells cur e (0, 0))) (hc : cur.size = n * size) :
    (Builtin.copy_ #[t, t] ty #[.slice (some ⟨g, 0, none⟩) n n, v]).run P W = .ok (goInt n) (W.setRow g cs.toArray) := by
  obtain ⟨ht, ⟨i, z, hi, hz, hsz, hby, hzs⟩, hpos, hposb⟩ := E
  obtain ⟨A, c, rfl, hnc, hcm, hl, hr⟩ := h
  have hmin : Nat.min n n = n := Nat.min_self n
  rcases hr with rfl | ⟨b, off, rfl, hb, hcell⟩
  · have hn : n = 0 := by
      rcases Nat.eq_zero_or_pos n with h | h
      · exact h
      · have := Nat.mul_pos h hpos; simp at hl; omega
    subst hn
    have hcur : cur = #[] := by simpa using hc
    subst hcur
    rw [show ([] : List Value).toArray = #[] from rfl, setRow_self W g #[] e (0, 0) hg]
    rcases A with _ | ad
    · simp [Builtin.copy_, run_underlying ht, Builtin.lenOf, Builtin.firstCells, sizeOf, typeInfo, hi, storeCells]
    · have hl0 := run_loadCells_list (P := P) W ad [] (fun j u hu => by simp at hu)
      simp only [List.length_nil] at hl0
      simp [Builtin.copy_, run_underlying ht, Builtin.lenOf, Builtin.firstCells, sizeOf, typeInfo, hi, storeCells, hl0]
  · have h := run_copy_wide (P := P) W t t ty e g 0 n n ⟨b, off, none⟩ n c size cur e cs ht (by simp [hi, hsz]) hg (by rw [hmin]; exact hl)
      (fun j u hu => by
        have e1 : (⟨b, off, none⟩ : Addr).add j = ⟨b, off + j, none⟩ := by unfold Addr.add; split <;> simp_all
        rw [e1]
        exact hcell j u hu) (by rw [hc, hl]; omega) h1
    rw [hmin] at h
    rw [h, List.take_zero, List.nil_append, Nat.zero_add, List.drop_eq_nil_of_le (by rw [Array.length_toList, hc, hl]; exact Nat.le_refl _), List.append_nil]
theorem own_row {w : World} {base g n size : Nat} {e : TypeId} {cs : List Value} (h : w.heap[g]? = some (.cells cs.toArray e (0, 0))) (hb : base ≤ g) (hm : n ≤ maxLen) (hl : cs.length = n * size) : w.ownsRow base e size (.slice (some ⟨g, 0, none⟩) n n) n cs :=
  ⟨hl, .inr ⟨g, n, cs.toArray, rfl, hb, h, Nat.le_refl _, hm, by simpa using hl, List.take_of_length_le (by simp [hl])⟩⟩
theorem below_setRow {B : Nat} {a w : World} {g : Nat} (h : Below B a w) (hg : B ≤ g) (cs : Array Value) : Below B a (w.setRow g cs) :=
  ⟨h.os, h.tape, h.output, by rw [setRow_size]; exact h.size, fun k hk => (setRow_other w g k cs (by omega)).trans (h.block k hk)⟩
theorem ne_obj {w : World} {g h : Nat} {a b : Obj} (h1 : w.heap[g]? = some a) (h2 : w.heap[h]? = some b) (hne : a ≠ b) : g ≠ h := by
  rintro rfl
  rw [h1] at h2
  exact hne (Option.some.inj h2)
theorem ne_cells {w : World} {g h : Nat} {cs ds : Array Value} {t u : TypeId} {f f' : Nat × Nat} (h1 : w.heap[g]? = some (.cells cs t f)) (h2 : w.heap[h]? = some (.cells ds u f')) (hne : t ≠ u) : g ≠ h :=
  ne_obj h1 h2 fun e => by injection e with _ e2 _; exact hne e2

/-- 'make([]T, n)' as a fact for the walk. -/
theorem make_row {P : Program} {t e : TypeId} {size bytes : Nat} (E : El P t e size bytes) (n : Nat) (hn : bytes * n ≤ 281474976710656) (hm : n ≤ maxLen) :
    ∃ cur : Array Value, cur.size = n * size ∧ ∀ W : World, (Instr.makeSlice t (.int .i64 (n : Int)) (.int .i64 (n : Int))).run P W = .ok (.slice (some ⟨W.heap.size, 0, none⟩) n n) (W.alloc (.cells cur e)) := by
  obtain ⟨ht, ⟨i, z, hi, hz, hsz, hby, hzs⟩, hpos, hposb⟩ := E
  subst hsz hby
  exact ⟨_, size_madeCells _ _, make_full ht hi hz n hn hm⟩

/-- What a copy of parts leaves. -/
def PartsPost (w : World) (ps : List (List UInt8)) (e : Ending) (w' : World) : Prop := Below w.heap.size w w' ∧ ∃ u, e = .returned u ∧ OwnParts w' w.heap.size u ps
set_option maxRecDepth 100000 in
set_option maxHeartbeats 2000000 in
theorem parts_any (ps : List (List UInt8)) (v : Value) (w : World) (h : PartsV w w.heap.size v ps) (hn : ps.length ≤ 65536) (hp : ∀ p ∈ ps, p.length ≤ 65536) : Calls Try.prog 60 #[v] w (PartsPost w ps) := by
  obtain ⟨us, hul, hs, hps⟩ := h
  obtain ⟨A, c, rfl, hnc, hcm, hcl, _⟩ := id hs
  obtain ⟨cur, hcur, mk⟩ := make_row (P := Try.prog) elP ps.length (by omega) (by simp only [maxLen]; omega)
  have cp := run_copy_made (P := Try.prog) elP 3 w hs (Nat.le_refl _) (by
    intro u hu
    obtain ⟨i, hi, rfl⟩ := List.mem_iff_getElem.1 hu
    obtain ⟨A', c', e, _⟩ := hps.2 i us[i] (ps[i]'(by omega)) (List.getElem?_eq_getElem hi) (List.getElem?_eq_getElem (by omega))
    rw [e]
    rfl) cur hcur
  have HU := Lib.hid hul
  have HS := Lib.hid hs
  have HPS := Lib.hid hps
  have HP := Lib.hid hp
  generalize hN : ps.length = N at *
  have HN := Lib.hid hN
  clear hul hs hps hp hN hcl hcur
  go_enter Try.func60, Try.ntmps60
  go_wp2_with fail
  have HO0 := Lib.hid (World.ownsRow_lit (base := w.heap.size) (e := 23) (size := 1) w us.toArray N (Nat.le_refl _) (by simp only [maxLen]; omega) (by simp; exact HU.out))
  clear mk cp
  go_loopw [14] (fun i wr => ∃ (k : Nat) (xs : List Value), k ≤ N ∧ i = .int .i64 k ∧ wr.ownsRow w.heap.size 23 1 (.slice (some ⟨w.heap.size, 0, none⟩) N N) N xs ∧ (∀ (j : Nat) u p, j < k → xs[j]? = some u → ps[j]? = some p → OB wr w.heap.size u p) ∧ Below w.heap.size w wr) (fun i _ => N - (intOf i).toNat)
  case atStart => exact ⟨0, us, Nat.zero_le _, rfl, by simpa using HO0.out, fun j _ _ h => by omega, al1 _ _⟩
  case round =>
    obtain ⟨k, xs, hk, rfl, hown, hall, hbel⟩ := hrel
    have HO := Lib.hid hown
    have HA := Lib.hid hall
    have HB := Lib.hid hbel
    clear hown hall hbel
    by_cases hlt : k < N
    · have hku : k < us.length := by rw [HU.out]; exact hlt
      have hkp : k < ps.length := by rw [HN.out]; exact hlt
      have hkx : k < xs.length := by rw [HO.out.1]; omega
      obtain ⟨b, off, rfl, hbB, hcell⟩ := (HS.out.below HB.out).cells (List.getElem?_eq_getElem hku)
      have hc0 := hcell _ _ (List.getElem?_eq_getElem hku)
      have hb1 := (HPS.out.below HB.out).2 k _ _ (List.getElem?_eq_getElem hku) (List.getElem?_eq_getElem hkp)
      have hpl := HP.out _ (List.getElem_mem hkp)
      have HK1 := Lib.hid (List.getElem?_eq_getElem hkp)
      clear hcell
      generalize us[k] = vk at *
      generalize ps[k] = pk at *
      obtain ⟨A2, c2, rfl, _⟩ := id hb1
      have HK := Lib.hid hb1
      clear hb1
      go_wp2_with fail
      refine (join_any [_] [pk] _ _ _ (Sl.one _ _ _) ⟨rfl, ?_⟩ ?_ ?_).mono ?_
      · intro i v l' h1 h2
        match i, h1, h2 with
        | 0, h1, h2 =>
          simp only [List.getElem?_cons_zero, Option.some.injEq] at h1 h2
          subst h1 h2
          exact (HK.out.more HB.out.size).on (al1 _ _)
      · simp; omega
      · simp
      · rintro e w1 ⟨hb1, u, rfl, hu⟩
        obtain ⟨A3, c3, rfl⟩ := own_form hu
        have ho1 := own_on (own_on HO.out (al1 _ _)) hb1
        have d0 := own_cell ho1 (List.getElem?_eq_getElem hkx)
        have g0 := ho1.frozenAt k
        have z0 := (ho1.lt _ rfl).2
        have HB1 := Lib.hid (HB.out.trans ((one hb1).mono HB.out.size))
        have HA1 := Lib.hid (show ∀ (j : Nat) u p, j < k → xs[j]? = some u → ps[j]? = some p → OB w1 w.heap.size u p from fun j u p h1 h2 h3 => own_on (own_on (HA.out j u p h1 h2 h3) (al1 _ _)) hb1)
        have HO1 := Lib.hid ho1
        have HU1 := Lib.hid (show OB w1 w.heap.size _ pk by simpa using own_base hu (Nat.le_trans HB.out.size (by simp)))
        clear hb1 hu ho1
        go_wp2_with fail
        go_roundw
        case rel =>
          obtain ⟨h1, h2⟩ := HO1.out.stored k (.slice A3 pk.length c3)
          refine ⟨k + 1, _, by omega, by go_num, h1, fun j u p hj hu hp => ?_, HB1.out.setCell (Nat.le_refl _) _⟩
          by_cases hjk : j = k
          · subst hjk
            rw [List.getElem?_set_self hkx] at hu
            rw [HK1.out] at hp
            simp only [Option.some.injEq] at hu hp
            subst hu hp
            exact own_apart HU1.out h2 (far_type HU1.out HO1.out (by decide))
          · rw [List.getElem?_set_ne (by omega)] at hu
            have h3 := HA1.out j u p (by omega) hu hp
            exact own_apart h3 h2 (far_type h3 HO1.out (by decide))
        case measure => simp [intOf]; omega
    · obtain rfl : k = N := by omega
      go_wp2_with fail
      go_ret
      exact ⟨HB.out, _, rfl, xs, by rw [HN.out, HO.out.1]; omega, by rw [HN.out]; exact HO.out, fun j u p h1 h2 => HA.out j u p (by have := (List.getElem?_eq_some_iff.1 h2).1; have := HN.out; omega) h1 h2⟩
end Go.Proofs.Ytkpjinkkjbljkaa
