/- Walks of the reference of adata: Find, Name. No condition. -/
import Derived.Test.YtncenlmfhnljgaaAd8
namespace Go.Proofs.Ytncenlmfhnljgaa
open Go.RowKit

set_option maxRecDepth 100000 in
set_option maxHeartbeats 4000000 in
theorem rafind_any (v : Value) (l : List UInt8) (k : Int) (w : World) (hb : BS w w.heap.size v l) : Calls Try.prog 19 #[v, .int .i64 k] w (FindPost w l k) := by
  have C := Lib.hid (radecode_any v l w hb)
  obtain ⟨A, c, rfl, _⟩ := id hb
  have hle := adL_le l
  unfold ADecPost at C
  have HQ := Lib.hid (show ∀ (e : Ending) (w' : World), (Below w.heap.size w w' ∧ ∃ v, e = .returned (.tuple #[v, .bool (findA (adL l) k).isSome]) ∧ BS w' w'.heap.size v ((findA (adL l) k).getD [])) → FindPost w l k e w' from fun _ _ h => h)
  generalize FindPost w l k = Q at *
  generalize adL l = es at *
  generalize adE l = er at *
  have HLE := Lib.hid hle
  clear hb hle
  go_enter Try.func19, Try.ntmps19
  go_wp2_with fail
  refine C.out.mono ?_
  rintro e w1 ⟨hb1, u, rfl, hu⟩
  obtain ⟨A1, c1, rfl⟩ := hu.form
  have HB1 := Lib.hid hb1
  have HU := Lib.hid hu
  clear hb1 hu C
  go_wp2_with fail
  go_loopw [8] (fun i wr => ∃ j : Nat, j ≤ es.length ∧ i = .int .i64 j ∧ findA (es.take j) k = none ∧ Below w1.heap.size w1 wr) (fun i _ => es.length - (intOf i).toNat)
  case atStart => exact ⟨0, Nat.zero_le _, rfl, rfl, Below.refl _ _⟩
  case round =>
    obtain ⟨j, hj, rfl, hno, hbel⟩ := hrel
    have HNO := Lib.hid hno
    have HBE := Lib.hid hbel
    by_cases hlt : j < es.length
    · have hej := List.getElem?_eq_getElem hlt
      obtain ⟨b, o, c2, A', c', hform, hB, d0, d1, hbs⟩ := els_cells (HU.out.below hbel) hej
      injection hform with hf1 _ hf3
      subst hf1 hf3
      have HEJ := Lib.hid hej
      have HBS := Lib.hid hbs
      have hbz : b < wr.heap.size := Nat.lt_of_lt_of_le hB hbel.size
      generalize es[j] = ej at *
      obtain ⟨kj, lj⟩ := ej
      dsimp only at d0 d1
      clear hno hbel hej hbs
      by_cases hk : kj = k
      · subst hk
        go_wp2_with fail
        refine HQ.out _ _ ⟨(bthen HB1.out HBE.out), _, by rw [findA_hit HNO.out HEJ.out (by simp)]; rfl, ?_⟩
        rw [findA_hit HNO.out HEJ.out (by simp)]
        exact (HBS.out.more HBE.out.size)
      · have hk' : (kj == k) = false := by simpa using hk
        have HK := Lib.hid hk'
        clear hk
        go_wp2_with fail
        go_roundw
        case rel => exact ⟨j + 1, by omega, by rw [IntWalk.wrap64_in ((j : Int) + 1) (by have := HLE.out; omega)]; go_num, findA_miss HNO.out HEJ.out HK.out, HBE.out⟩
        case measure => rw [IntWalk.wrap64_in ((j : Int) + 1) (by have := HLE.out; omega)]; simp [intOf]; omega
    · have hje : j = es.length := by omega
      subst hje
      go_wp2_with fail
      rw [List.take_length] at hno
      exact HQ.out _ _ ⟨bthen HB1.out hbel, _, by rw [hno]; rfl, by rw [hno]; exact .nil _ _⟩
theorem raname_any (v : Value) (l : List UInt8) (w : World) (hb : BS w w.heap.size v l) : Calls Try.prog 21 #[v] w (NamePost w l) := by
  have C := Lib.hid (rafind_any v l 9 w hb)
  obtain ⟨A, c, rfl, _⟩ := id hb
  have HQ := Lib.hid (show ∀ (e : Ending) (w' : World), (Below w.heap.size w w' ∧ e = .returned (.string ⟨((findA (adL l) 9).getD []).toArray⟩)) → NamePost w l e w' from fun _ _ h => h)
  generalize NamePost w l = Q at *
  unfold FindPost at C
  generalize findA (adL l) 9 = r at *
  clear hb
  go_enter Try.func21, Try.ntmps21
  go_wp2_with fail
  refine C.out.mono ?_
  rintro e w1 ⟨hb1, u, rfl, hu⟩
  have hcv := hu.conv (P := Try.prog) (ts := 9) Try.underlying24 Try.underlying5 Try.underlying9
  have HB1 := Lib.hid hb1
  clear hb1 hu C
  go_wp2
  exact HQ.out _ _ ⟨HB1.out, rfl⟩
end Go.Proofs.Ytncenlmfhnljgaa
