/- Walks of adata: Encode. No condition. -/
import Derived.Test.YtncenlmfhnljgaaAd9
namespace Go.Proofs.Ytncenlmfhnljgaa
open Go.RowKit

/-- The bytes of one element; of elements. -/
def enc1 (e : Int × List UInt8) : List UInt8 := UInt8.ofNat (1 + e.2.length) :: UInt8.ofNat e.1.toNat :: e.2
def encA (es : List (Int × List UInt8)) : List UInt8 := es.flatMap enc1
def badA (e : Int × List UInt8) : Bool := decide (e.1 < 0) || decide (255 < e.1)
/-- The error; the bytes where there is none. -/
def encE (es : List (Int × List UInt8)) : Int := if es.any badA then 5 else if 31 < (encA es).length then 4 else 0
def encR (es : List (Int × List UInt8)) : List UInt8 := if encE es = 0 then encA es else []
def AEncPost (w : World) (es : List (Int × List UInt8)) (e : Ending) (w' : World) : Prop :=
  Below w.heap.size w w' ∧ ∃ v, e = .returned (.tuple #[v, .int .i64 (encE es)]) ∧ BS w' w'.heap.size v (encR es)
theorem encA_take {es : List (Int × List UInt8)} {j : Nat} {e : Int × List UInt8} (h : es[j]? = some e) : encA (es.take (j + 1)) = encA (es.take j) ++ enc1 e := by
  obtain ⟨hi, rfl⟩ := List.getElem?_eq_some_iff.1 h
  unfold encA
  rw [List.take_succ_eq_append_getElem hi, List.flatMap_append]
  simp
theorem encA_le (es : List (Int × List UInt8)) (j : Nat) : (encA (es.take j)).length ≤ (encA es).length := by
  have h : encA es = encA (es.take j) ++ encA (es.drop j) := by unfold encA; rw [← List.flatMap_append, List.take_append_drop]
  rw [h, List.length_append]
  omega
theorem any_miss {es : List (Int × List UInt8)} {j : Nat} {e : Int × List UInt8} (hp : (es.take j).any badA = false) (h : es[j]? = some e) (hb : badA e = false) : (es.take (j + 1)).any badA = false := by
  obtain ⟨hi, rfl⟩ := List.getElem?_eq_some_iff.1 h
  rw [List.take_succ_eq_append_getElem hi, List.any_append, hp]
  simp [hb]
theorem any_hit {es : List (Int × List UInt8)} {j : Nat} {e : Int × List UInt8} (h : es[j]? = some e) (hb : badA e = true) : es.any badA = true :=
  List.any_eq_true.2 ⟨e, List.mem_of_getElem? h, hb⟩
theorem encE_bad {es : List (Int × List UInt8)} (h : es.any badA = true) : encE es = 5 ∧ encR es = [] := by
  have h1 : encE es = 5 := by unfold encE; rw [if_pos h]
  exact ⟨h1, by unfold encR; rw [if_neg (by rw [h1]; decide)]⟩
theorem encE_long {es : List (Int × List UInt8)} (h : es.any badA = false) (h2 : 31 < (encA es).length) : encE es = 4 ∧ encR es = [] := by
  have h1 : encE es = 4 := by unfold encE; rw [if_neg (by rw [h]; simp), if_pos h2]
  exact ⟨h1, by unfold encR; rw [if_neg (by rw [h1]; decide)]⟩
theorem encE_ok {es : List (Int × List UInt8)} (h : es.any badA = false) (h2 : ¬ 31 < (encA es).length) : encE es = 0 ∧ encR es = encA es := by
  have h1 : encE es = 0 := by unfold encE; rw [if_neg (by rw [h]; simp), if_neg h2]
  exact ⟨h1, by unfold encR; rw [if_pos h1]⟩
theorem bs2 (w : World) (x y : UInt8) : BS (w.alloc (.cells #[.int .u8 (x.toNat : Int), .int .u8 (y.toNat : Int)] 5)) (w.heap.size + 1) (.slice (some ⟨w.heap.size, 0, none⟩) 2 2) [x, y] :=
  Sl.lit w #[.int .u8 (x.toNat : Int), .int .u8 (y.toNat : Int)] _ 2 rfl (by simp [maxLen])

set_option maxRecDepth 100000 in
set_option maxHeartbeats 4000000 in
theorem aencode_any (v : Value) (es : List (Int × List UInt8)) (w : World) (hv : ElsV w w.heap.size v es) (hle : es.length ≤ 1099511627776) : Calls Try.prog 10 #[v] w (AEncPost w es) := by
  obtain ⟨A, c, rfl⟩ := hv.form
  have HQ := Lib.hid (show ∀ (e : Ending) (w' : World), (Below w.heap.size w w' ∧ ∃ v, e = .returned (.tuple #[v, .int .i64 (encE es)]) ∧ BS w' w'.heap.size v (encR es)) → AEncPost w es e w' from fun _ _ h => h)
  generalize AEncPost w es = Q at *
  have HV := Lib.hid hv
  have HLE := Lib.hid hle
  clear hv hle
  go_enter Try.func10, Try.ntmps10
  go_wp2_with fail
  go_loopw [4, 12] (fun t i wr => ∃ j : Nat, j ≤ es.length ∧ i = .int .i64 j ∧ t = .int .i64 ((min (encA (es.take j)).length 32 : Nat) : Int) ∧ (es.take j).any badA = false ∧ Below w.heap.size w wr) (fun _ i _ => es.length - (intOf i).toNat)
  case atStart => exact ⟨0, Nat.zero_le _, rfl, rfl, rfl, Below.refl _ _⟩
  case round =>
    obtain ⟨j, hj, rfl, rfl, hno, hbel⟩ := hrel
    have HNO := Lib.hid hno
    have HBE := Lib.hid hbel
    by_cases hlt : j < es.length
    · have hej := List.getElem?_eq_getElem hlt
      obtain ⟨b, o, c2, A', c', hform, hB, d0, d1, hbs⟩ := els_cells (HV.out.below hbel) hej
      injection hform with hf1 _ hf3
      subst hf1 hf3
      have HEJ := Lib.hid hej
      have hbz : b < wr.heap.size := Nat.lt_of_lt_of_le hB hbel.size
      generalize es[j] = ej at *
      obtain ⟨kj, lj⟩ := ej
      dsimp only at d0 d1
      clear hno hbel hej hbs
      by_cases hk0 : kj < 0
      · have hd0 : decide (kj < 0) = true := decide_eq_true hk0
        have HBAD := Lib.hid (encE_bad (any_hit HEJ.out (show badA (kj, lj) = true by unfold badA; rw [hd0]; rfl)))
        go_wp2_with fail
        exact HQ.out _ _ ⟨HBE.out.alloc HBE.out.size _, _, by rw [HBAD.out.1], by rw [HBAD.out.2]; exact .nil _ _⟩
      · have hd0 : decide (kj < 0) = false := decide_eq_false hk0
        by_cases hk1 : 255 < kj
        · have hd1 : decide (255 < kj) = true := decide_eq_true hk1
          have HBAD := Lib.hid (encE_bad (any_hit HEJ.out (show badA (kj, lj) = true by unfold badA; rw [hd0, hd1]; rfl)))
          go_wp2_with fail
          exact HQ.out _ _ ⟨HBE.out.alloc HBE.out.size _, _, by rw [HBAD.out.1], by rw [HBAD.out.2]; exact .nil _ _⟩
        · have hd1 : decide (255 < kj) = false := decide_eq_false hk1
          have HGOOD := Lib.hid (any_miss HNO.out HEJ.out (show badA (kj, lj) = false by unfold badA; rw [hd0, hd1]; rfl))
          have HT := Lib.hid (show (encA (es.take (j + 1))).length = (encA (es.take j)).length + 2 + lj.length by rw [encA_take HEJ.out, List.length_append]; simp [enc1]; omega)
          generalize hT : min (encA (es.take j)).length 32 = T at *
          have HTT := Lib.hid hT
          have hT32 : T ≤ 32 := by omega
          clear hT
          go_wp2_with fail
          go_roundw
          case rel =>
            refine ⟨j + 1, by omega, by rw [IntWalk.wrap64_in ((j : Int) + 1) (by have := HLE.out; omega)]; go_num, ?_, HGOOD.out, HBE.out.alloc HBE.out.size _⟩
            have h1 := HT.out
            have h2 := HTT.out
            refine congrArg _ ?_
            rw [h1]
            (split <;> split) <;> omega
          case measure => rw [IntWalk.wrap64_in ((j : Int) + 1) (by have := HLE.out; omega)]; simp [intOf]; omega
    · have hje : j = es.length := by omega
      subst hje
      rw [List.take_length] at *
      have HNO2 := Lib.hid (show es.any badA = false from hno)
      clear HNO hno
      by_cases hlen : 31 < (encA es).length
      · rw [show min (encA es).length 32 = 32 by omega]
        have HL := Lib.hid (encE_long HNO2.out hlen)
        go_wp2_with fail
        exact HQ.out _ _ ⟨HBE.out, _, by rw [HL.out.1]; rfl, by rw [HL.out.2]; exact .nil _ _⟩
      · rw [show min (encA es).length 32 = (encA es).length by omega]
        have hd : decide ((31 : Int) < ((encA es).length : Int)) = false := decide_eq_false (by omega)
        have HL := Lib.hid (encE_ok HNO2.out hlen)
        have HS := Lib.hid (show (encA es).length ≤ 31 by omega)
        clear hlen
        go_wp2_with fail
        go_loopw [7, 37] (fun x i wx => ∃ j : Nat, j ≤ es.length ∧ i = .int .i64 j ∧ OB wx w.heap.size x (encA (es.take j)) ∧ Below w.heap.size w wx) (fun _ i _ => es.length - (intOf i).toNat)
        case atStart => exact ⟨0, Nat.zero_le _, rfl, World.ownsRow_nil _ _ _ _, HBE.out⟩
        case round =>
          obtain ⟨j, hj, rfl, hob, hbel⟩ := hrel
          obtain ⟨A1, c1, rfl⟩ := own_form hob
          have HOB := Lib.hid hob
          have HBX := Lib.hid hbel
          by_cases hlt : j < es.length
          · have hej := List.getElem?_eq_getElem hlt
            obtain ⟨b, o, c2, A', c', hform, hB, d0, d1, hbs⟩ := els_cells (HV.out.below hbel) hej
            injection hform with hf1 _ hf3
            subst hf1 hf3
            have HEJ := Lib.hid hej
            have HBS := Lib.hid hbs
            have hbz : b < wr.heap.size := Nat.lt_of_lt_of_le hB hbel.size
            generalize es[j] = ej at *
            have HT := Lib.hid (encA_take HEJ.out)
            have HP := Lib.hid (show (encA (es.take j)).length + 2 + ej.2.length ≤ 31 by
              have h1 := encA_le es (j + 1)
              rw [HT.out, List.length_append] at h1
              simp only [enc1, List.length_cons] at h1
              have := HS.out
              omega)
            obtain ⟨kj, lj⟩ := ej
            have HKB := Lib.hid (show 0 ≤ kj ∧ kj ≤ 255 by
              have h1 : badA (kj, lj) = false := by
                by_cases h : badA (kj, lj) = true
                · rw [any_hit HEJ.out h] at *; have := HNO2.out; simp at this
                · simpa using h
              unfold badA at h1
              simp at h1
              omega)
            have hp := HP.out
            dsimp only at d0 d1 hp
            have hw1 : IntKind.u8.wrap (1 + (lj.length : Int)) = ((UInt8.ofNat (1 + lj.length)).toNat : Int) := by rw [IntKind.wrap_u8]; simp
            have hw2 : IntKind.u8.wrap kj = ((UInt8.ofNat kj.toNat).toNat : Int) := by have := HKB.out; rw [IntKind.wrap_u8]; simp; omega
            have HT2 := Lib.hid (show encA (es.take (j + 1)) = encA (es.take j) ++ [UInt8.ofNat (1 + lj.length), UInt8.ofNat kj.toNat] ++ lj by rw [HT.out]; simp [enc1])
            generalize UInt8.ofNat (1 + lj.length) = x at *
            generalize UInt8.ofNat kj.toNat = y at *
            clear hob hbel hej hbs
            have hnb : (Value.slice A1 (encA (es.take j)).length c1).ownBlock ≠ some wr.heap.size := fun h => by have := (HOB.out.lt _ h).2; omega
            have HNB := Lib.hid hnb
            have zw := HBX.out.size
            have B2 := Lib.hid (show BS ((wr.alloc (.cells #[.int .i64 kj, .slice A' lj.length c'] 49)).alloc (.cells #[.int .u8 (x.toNat : Int), .int .u8 (y.toNat : Int)] 5)) (wr.heap.size + 1 + 1) (.slice (some ⟨wr.heap.size + 1, 0, none⟩) 2 2) [x, y] by
              have h := bs2 (wr.alloc (.cells #[.int .i64 kj, .slice A' lj.length c'] 49)) x y
              rwa [World.size_alloc] at h)
            clear hnb
            go_wp2_with (first
              | (at_builtin
                 refine app_sl _ elB rfl (.tmp 41) (.tmp 50) rfl rfl ((HOB.out.alloc _).alloc _) rfl (show Sl _ _ 1 (.slice (some ⟨wr.heap.size + 1, 0, none⟩) 2 2) 2 (bys [x, y]) from B2.out) (bys_one _) ?_ ?_ ?_
                 (case refine_1 => simp; omega)
                 (case refine_2 => exact Nat.le_trans zw (by simp <;> omega))
                 intro v1 w1 hown1 hg1 _ _
                 have q1 : w1.cell? ⟨wr.heap.size, 1, none⟩ = some (.slice A' lj.length c') := (World.cell?_of_block (a := ⟨wr.heap.size, 1, none⟩) (hg1.block wr.heap.size (by simp <;> omega) (fun h => HNB.out h.symm))).trans (by simp [go_sem])
                 have HB1 := Lib.hid (show Below w.heap.size w w1 from below_app ((HBX.out.alloc zw _).alloc (Nat.le_trans zw (by simp <;> omega)) _) ((HOB.out.alloc _).alloc _) hg1 (Nat.le_refl _) (Nat.le_trans zw (by simp <;> omega)))
                 have HBX1 := Lib.hid (show Below w.heap.size wr w1 from below_app (((Below.refl _ _).alloc zw _).alloc (Nat.le_trans zw (by simp <;> omega)) _) ((HOB.out.alloc _).alloc _) hg1 (Nat.le_refl _) (Nat.le_trans zw (by simp <;> omega)))
                 have HO1 := Lib.hid (show OB w1 w.heap.size v1 (encA (es.take j) ++ [x, y]) by unfold OB; rw [List.length_append, bys_append]; exact hown1)
                 obtain ⟨A2, c2, rfl⟩ := own_form hown1)
              | (at_builtin
                 refine app_by _ elB rfl (.tmp 52) (.tmp 54) rfl rfl HO1.out rfl (HBS.out.below HBX1.out) ?_ ?_ ?_
                 (case refine_1 => simp; omega)
                 (case refine_2 => exact HB1.out.size)
                 intro v2 w2 hown2 hb2))
            go_roundw
            case rel =>
              refine ⟨j + 1, by omega, by rw [IntWalk.wrap64_in ((j : Int) + 1) (by have := HLE.out; omega)]; go_num, ?_, HB1.out.trans hb2⟩
              rw [HT2.out]
              exact hown2
            case measure => rw [IntWalk.wrap64_in ((j : Int) + 1) (by have := HLE.out; omega)]; simp [intOf]; omega
          · have hje : j = es.length := by omega
            subst hje
            rw [List.take_length] at *
            clear hob hbel
            go_wp2_with fail
            refine HQ.out _ _ ⟨HBX.out, _, by rw [HL.out.1]; rfl, by rw [HL.out.2]; exact BS.of_own rfl HOB.out⟩
end Go.Proofs.Ytncenlmfhnljgaa
