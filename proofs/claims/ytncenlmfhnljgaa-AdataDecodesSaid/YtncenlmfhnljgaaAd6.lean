/- Walks of adata: Name; of the reference: SameShort, Same. No condition. -/
import Derived.Test.YtncenlmfhnljgaaAd5
import Derived.BigQuiet
namespace Go.Proofs.Ytncenlmfhnljgaa
open Go.RowKit

/-- The name in bytes. -/
def nameA (l : List UInt8) : List UInt8 := (findA (adL l) 9).getD []
def NamePost (w : World) (l : List UInt8) (e : Ending) (w' : World) : Prop := Below w.heap.size w w' ∧ e = .returned (.string ⟨(nameA l).toArray⟩)
theorem aname_any (v : Value) (l : List UInt8) (w : World) (hb : BS w w.heap.size v l) : Calls Try.prog 20 #[v] w (NamePost w l) := by
  have C := Lib.hid (afind_any v l 9 w hb)
  obtain ⟨A, c, rfl, _⟩ := id hb
  have HQ := Lib.hid (show ∀ (e : Ending) (w' : World), (Below w.heap.size w w' ∧ e = .returned (.string ⟨((findA (adL l) 9).getD []).toArray⟩)) → NamePost w l e w' from fun _ _ h => h)
  generalize NamePost w l = Q at *
  unfold FindPost at C
  generalize findA (adL l) 9 = r at *
  clear hb
  go_enter Try.func20, Try.ntmps20
  go_wp2_with fail
  refine C.out.mono ?_
  rintro e w1 ⟨hb1, u, rfl, hu⟩
  have hcv := hu.conv (P := Try.prog) (ts := 9) Try.underlying24 Try.underlying5 Try.underlying9
  have HB1 := Lib.hid hb1
  clear hb1 hu C
  go_wp2
  exact HQ.out _ _ ⟨HB1.out, rfl⟩

/-! ### Numbers of 16 bits -/
def shs (l : List Nat) : List Value := l.map fun (x : Nat) => .int .u16 (x : Int)
theorem shs_length (l : List Nat) : (shs l).length = l.length := by simp [shs]
theorem shs_append (l k : List Nat) : shs (l ++ k) = shs l ++ shs k := by simp [shs]
theorem shs_at {l : List Nat} {k : Nat} (h : k < l.length) : (shs l)[k]? = some (.int .u16 (l[k] : Int)) := by simp [shs, h]
theorem shs_one (l : List Nat) : ∀ u ∈ shs l, u.oneCell' = true := by
  intro u hu
  simp only [shs, List.mem_map] at hu
  obtain ⟨b, _, rfl⟩ := hu
  rfl
/-- A slice of such numbers. -/
abbrev WS (w : World) (B : Nat) (v : Value) (l : List Nat) : Prop := Sl w B 1 v l.length (shs l)

theorem take_eq_of {α : Type} {l k : List α} {j : Nat} (h : l.take j = k.take j) (hl : j < l.length) (hk : j < k.length) (he : l[j] = k[j]) : l.take (j + 1) = k.take (j + 1) := by
  rw [List.take_succ_eq_append_getElem hl, List.take_succ_eq_append_getElem hk, h, he]
theorem eq_of_take {α : Type} {l k : List α} {j : Nat} (h : l.take j = k.take j) (hl : l.length ≤ j) (hk : k.length ≤ j) : l = k := by
  rwa [List.take_of_length_le hl, List.take_of_length_le hk] at h
set_option maxRecDepth 100000 in
theorem sameshort_any (a b : Value) (l k : List Nat) (w : World) (ha : WS w w.heap.size a l) (hb : WS w w.heap.size b k) (hle : l.length ≤ 1099511627776) :
    Calls Try.prog 22 #[a, b] w fun e w' => e = .returned (.bool (decide (l = k))) ∧ Below w.heap.size w w' := by
  obtain ⟨A, c, rfl, _⟩ := id ha
  obtain ⟨A', c', rfl, _⟩ := id hb
  have HA := Lib.hid ha
  have HB := Lib.hid hb
  have HLE := Lib.hid hle
  clear ha hb hle
  by_cases hl : k.length = l.length
  · have HL := Lib.hid hl
    rw [hl]
    clear hl
    go_enter Try.func22, Try.ntmps22
    go_wp2_with fail
    go_loopw [5] (fun i wr => ∃ j : Nat, j ≤ l.length ∧ i = .int .i64 j ∧ l.take j = k.take j ∧ Below w.heap.size w wr) (fun i _ => l.length - (intOf i).toNat)
    case atStart => exact ⟨0, Nat.zero_le _, rfl, rfl, Below.refl _ _⟩
    case round =>
      obtain ⟨j, hj, rfl, htk, hbel⟩ := hrel
      have HT := Lib.hid htk
      have HBE := Lib.hid hbel
      clear htk hbel
      by_cases hlt : j < l.length
      · have hkt : j < k.length := by have := HL.out; omega
        obtain ⟨b1, o1, rfl, hB1, e1⟩ := (HA.out.below HBE.out).cells (shs_at hlt)
        obtain ⟨b2, o2, h2, hB2, e2⟩ := (HB.out.below HBE.out).cells (shs_at hkt)
        subst h2
        have d1 := e1 _ _ (shs_at hlt)
        have d2 := e2 _ _ (shs_at hkt)
        have HT2 := Lib.hid (show l[j] = k[j] → l.take (j + 1) = k.take (j + 1) from take_eq_of HT.out hlt hkt)
        have HN := Lib.hid (show l[j] ≠ k[j] → l ≠ k from fun h h2 => h (by simp [h2]))
        generalize l[j] = x at *
        generalize k[j] = y at *
        clear e1 e2
        by_cases hxy : x = y
        · subst hxy
          clear HN
          go_wp2_with fail
          go_quiet (fail)
          go_wp2_with fail
          go_roundw
          case rel => exact ⟨j + 1, by omega, by rw [IntWalk.wrap64_in ((j : Int) + 1) (by have := HLE.out; omega)]; go_num, HT2.out trivial, (below_drewN HBE.out _)⟩
          case measure => rw [IntWalk.wrap64_in ((j : Int) + 1) (by have := HLE.out; omega)]; simp [intOf]; omega
        · have hne : ((x : Int) == (y : Int)) = false := by simp; omega
          have HNE := Lib.hid (HN.out hxy)
          clear hxy HN HT2
          go_wp2_with fail
          go_quiet (fail)
          go_wp2_with fail
          go_ret
          exact ⟨ret_bool (by rw [decide_eq_false HNE.out]), (below_drewN HBE.out _)⟩
      · have hfull := eq_of_take HT.out (by omega) (by have := HL.out; omega)
        have HF := Lib.hid hfull
        clear hfull
        go_wp2_with fail
        go_ret
        exact ⟨ret_bool (by rw [decide_eq_true HF.out]), HBE.out⟩
  · have hne : ((l.length : Int) == (k.length : Int)) = false := by simp; omega
    have HNE := Lib.hid (show l ≠ k from fun h => hl (by rw [h]))
    clear hl
    go_enter Try.func22, Try.ntmps22
    go_wp2_with fail
    go_ret
    exact ⟨ret_bool (by rw [decide_eq_false HNE.out]), Below.refl _ _⟩
end Go.Proofs.Ytncenlmfhnljgaa
