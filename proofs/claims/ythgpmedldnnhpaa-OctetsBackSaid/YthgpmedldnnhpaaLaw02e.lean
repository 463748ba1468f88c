/- The walk of the law OctetsBack: it returns true. -/
import Derived.Test.YthgpmedldnnhpaaLaw02c
import Derived.Test.YthgpmedldnnhpaaOctPlain3
namespace Go.Proofs.Ythgpmedldnnhpaa
open Go.RowKit

/-- A row of another block stays through an append. -/
theorem own_grown {w w' : World} {row : Option Nat} {base : Nat} {e : TypeId} {size n : Nat} {v : Value} {xs : List Value} (h : w.ownsRow base e size v n xs) (hg : w.grownBy w' row) (hne : ∀ g, v.ownBlock = some g → some g ≠ row) : w'.ownsRow base e size v n xs := by
  obtain ⟨h1, h2⟩ := h
  refine ⟨h1, ?_⟩
  rcases h2 with h2 | ⟨g, cap, cur, hv, hgb, hh, r⟩
  · exact .inl h2
  · refine .inr ⟨g, cap, cur, hv, hgb, ?_, r⟩
    have hlt : g < w.heap.size := by
      rcases Nat.lt_or_ge g w.heap.size with h | h
      · exact h
      · rw [Array.getElem?_eq_none h] at hh; cases hh
    rw [hg.block g hlt (hne g (by rw [hv]; rfl))]; exact hh
/-- Two rows lie in blocks of their own. -/
def Apart2 (v u : Value) : Prop := ∀ g, v.ownBlock = some g → u.ownBlock ≠ some g
theorem Apart2.left {w : World} {v v' u : Value} {base : Nat} {e : TypeId} {size n : Nat} {xs : List Value} (h : Apart2 v u) (hu : w.ownsRow base e size u n xs) (hat : v'.ownBlock = v.ownBlock ∨ v'.ownBlock = some w.heap.size) : Apart2 v' u := by
  intro g hg hug
  rcases hat with hat | hat
  · rw [hat] at hg; exact h g hg hug
  · rw [hat] at hg
    have h1 := (hu.lt g hug).2
    have h2 := Option.some.inj hg
    omega
theorem Apart2.symm {v u : Value} (h : Apart2 v u) : Apart2 u v := fun g hg hu => h g hu hg

set_option maxRecDepth 100000 in
set_option maxHeartbeats 1000000 in
theorem octetsBack_walk (l : List (Int × Nat)) (k : List UInt8) (hv : ∀ f ∈ l, f.2 < 2 ^ 64) (hlen : l.length ≤ 8796093022208) (hkl : k.length ≤ 140737488355328) (v u : Value) (w : World) (hs : Sl w w.heap.size 2 v l.length (flds l)) (hu : BS w w.heap.size u k) :
    Calls Try.prog 7 #[v, u] w fun e w' => e = .returned (.bool true) ∧ Below w.heap.size w w' := by
  have HV := Lib.hid hv
  have HS := Lib.hid hs
  have HU := Lib.hid hu
  clear hs hv hu
  go_enter Try.func7, Try.ntmps7
  go_wp2_with fail
  refine (lives02 _).mono ?_
  rintro e w0 ⟨rfl, hb0⟩
  have HB0 := Lib.hid hb0
  have HL := Lib.hid (World.ownsRow_lit (base := w0.heap.size) (e := 47) (size := 2) w0 #[] 0 (Nat.le_refl _) (by simp [maxLen]) rfl)
  have HB := Lib.hid (flds_copy w0 v l (HS.out.on hb0))
  clear hb0
  go_wp2_with (first
    | (at_builtin
       refine app_sl _ elF rfl (.tmp 18) (.tmp 19) rfl rfl HL.out rfl HB.out ?_ ?_ ?_ ?_
       (case refine_1 => exact flds_one _)
       (case refine_2 => omega)
       (case refine_3 => simp)
       intro v1 w1 hown1 hg1 hnil1 hat1)
    | fail)
  have hb1 : Below w0.heap.size w0 w1 := below_app (al1 _ _) HL.out hg1 (Nat.le_refl _) (by simp)
  have S1 := Lib.hid (Sl.of_own hown1)
  have HB1 := Lib.hid (bthen HB0.out hb1)
  clear hown1 hg1 hnil1 hat1 hb1 HL HB HB0
  refine (put_v _ _ l HV.out (by omega) (by simpa using S1.out)).mono ?_
  rintro e w2 hp
  cases hres : putS l with
  | none =>
    obtain ⟨hb2, rfl⟩ := hp.bad hres
    have HB2 := Lib.hid (bthen HB1.out hb2)
    clear hp hres hb2 S1
    go_wp2_with fail
    go_ret
    exact ⟨rfl, HB2.out⟩
  | some ys =>
    have HR := Lib.hid hres
    obtain ⟨hb2, v2, rfl, hv2⟩ := hp.ok hres
    have HB2 := Lib.hid (bthen HB1.out hb2)
    have V2 := Lib.hid (BS.of_own rfl hv2)
    have hy := putS_len l.length ys (Nat.le_refl _) (by rw [List.take_length]; exact hres)
    clear hp hres hb2 S1 hv2
    obtain ⟨A, c, e0, _⟩ := id HS.out
    obtain ⟨A2, c2, e2, _⟩ := id V2.out
    obtain ⟨A3, c3, e3, _⟩ := id HU.out
    subst e0 e2 e3
    go_wp2_with fail
    go_loopw [7, 8, 9] (fun x y i wr => ∃ (j : Nat), j ≤ l.length ∧ i = .int .i64 j ∧ wr.ownsRow w2.heap.size 3 1 x j (ints ((l.take j).map (·.1))) ∧ wr.ownsRow w2.heap.size 45 1 y j (nums ((l.take j).map (·.2))) ∧ Apart2 x y ∧ Below w2.heap.size w2 wr) (fun _ _ i _ => l.length - (intOf i).toNat)
    case atStart =>
      have hA : ((w2.alloc (.cells #[] 3)).alloc (.cells #[] 45)).ownsRow w2.heap.size 3 1 (.slice (some ⟨w2.heap.size, 0, none⟩) 0 0) 0 [] := World.ownsRow.alloc (World.ownsRow_lit (base := w2.heap.size) w2 #[] 0 (Nat.le_refl _) (by simp [maxLen]) rfl) _
      have hB : ((w2.alloc (.cells #[] 3)).alloc (.cells #[] 45)).ownsRow w2.heap.size 45 1 (.slice (some ⟨w2.heap.size + 1, 0, none⟩) 0 0) 0 [] := by
        have h := World.ownsRow_lit (base := w2.heap.size) (e := 45) (size := 1) (w2.alloc (.cells #[] 3)) #[] 0 (by simp) (by simp [maxLen]) rfl
        simpa using h
      exact ⟨0, Nat.zero_le _, rfl, hA, hB, (by intro g h1 h2; have h1' : w2.heap.size = g := Option.some.inj h1; have h2' : w2.heap.size + 1 = g := Option.some.inj h2; omega), (al1 _ _).alloc (by simp) _⟩
    case round =>
      obtain ⟨j, hj, rfl, hx, hy, hap, hbel⟩ := hrel
      obtain ⟨wo, rfl⟩ : ∃ wo : World, wo = wr := ⟨_, rfl⟩
      have HX := Lib.hid hx
      have HY := Lib.hid hy
      have HP := Lib.hid hap
      have HW := Lib.hid hbel
      clear hx hy hap hbel
      by_cases hlt : j < l.length
      · obtain ⟨b, off, rfl, hbB, hcell⟩ := (HS.out.below (bthen HB2.out HW.out)).cells (flds_at hlt).1
        have hc0 := hcell _ _ (flds_at hlt).1
        have hc1 := hcell _ _ (flds_at hlt).2
        rw [← Nat.add_assoc] at hc1
        clear hcell
        generalize hsx : (l[j]).1 = s at *
        generalize hsy : (l[j]).2 = y0 at *
        have HSX := Lib.hid hsx
        have HSY := Lib.hid hsy
        clear hsx hsy
        go_wp2_with (first
          | (at_builtin
             refine app_sl _ elI rfl (.tmp 37) (.tmp 43) rfl rfl (HX.out.alloc _) rfl (Sl.lit _ _ _ 1 rfl (by simp [maxLen])) ?_ ?_ ?_ ?_
             (case refine_1 => intro u hu; simp at hu; subst hu; rfl)
             (case refine_2 => omega)
             (case refine_3 => exact Nat.le_trans HW.out.size (by simp))
             intro v3 w3 hown3 hg3 hnil3 hat3
             have hb3 : Below w2.heap.size w2 w3 := below_app (HW.out.alloc HW.out.size _) (HX.out.alloc _) hg3 (Nat.le_refl _) (Nat.le_trans HW.out.size (by simp))
             have HYA := Lib.hid (HY.out.alloc (.cells #[.int .i64 s] 3))
             have X3 := Lib.hid hown3
             have HAP := Lib.hid (HP.out.left HYA.out hat3)
             have Y3 := Lib.hid (own_grown HYA.out hg3 (fun g h1 h2 => HP.out g h2.symm h1))
             have HB3 := Lib.hid hb3
             obtain ⟨b', off', e', _, hcell'⟩ := (HS.out.below (bthen HB2.out HB3.out)).cells (flds_at hlt).1
             obtain ⟨rfl, rfl⟩ : b = b' ∧ off = off' := by simpa using e'
             have hc1' := hcell' _ _ (flds_at hlt).2
             rw [← Nat.add_assoc, HSY.out] at hc1'
             clear hown3 hg3 hnil3 hat3 hb3 HX HY HP HW HYA e' hcell' hc0 hc1)
          | (at_builtin
             refine app_sl _ elN rfl (.tmp 45) (.tmp 51) rfl rfl (Y3.out.alloc _) rfl (Sl.lit _ _ _ 1 rfl (by simp [maxLen])) ?_ ?_ ?_ ?_
             (case refine_1 => intro u hu; simp at hu; subst hu; rfl)
             (case refine_2 => omega)
             (case refine_3 => exact Nat.le_trans HB3.out.size (by simp))
             intro v4 w4 hown4 hg4 hnil4 hat4
             have hb4 : Below w2.heap.size w2 w4 := below_app (HB3.out.alloc HB3.out.size _) (Y3.out.alloc _) hg4 (Nat.le_refl _) (Nat.le_trans HB3.out.size (by simp))
             have HXA := Lib.hid (X3.out.alloc (.cells #[.int .u64 (y0 : Int)] 45))
             have Y4 := Lib.hid hown4
             have HAP4 := Lib.hid (HAP.out.symm.left HXA.out hat4).symm
             have X4 := Lib.hid (own_grown HXA.out hg4 (fun g h1 h2 => HAP.out g h1 h2.symm))
             have HB4 := Lib.hid hb4
             clear hown4 hg4 hnil4 hat4 hb4 HXA HAP HB3 X3 Y3 hc1')
          | fail)
        go_roundw
        case rel =>
          refine ⟨j + 1, by omega, by go_num, ?_, ?_, HAP4.out, HB4.out⟩
          · rw [List.take_succ_eq_append_getElem hlt, List.map_append, ints_append]
            simp only [List.map_cons, List.map_nil, HSX.out]
            exact X4.out
          · rw [List.take_succ_eq_append_getElem hlt, List.map_append, nums_append]
            simp only [List.map_cons, List.map_nil, HSY.out]
            exact Y4.out
        case measure => simp [intOf]; omega
      · obtain rfl : j = l.length := by omega
        have HW2 := Lib.hid (bthen HB2.out HW.out)
        have Y' := Lib.hid (V2.out.on HW.out)
        have hX := HX.out
        have hY := HY.out
        rw [List.take_length] at hX hY
        have SZ := Lib.hid (Sl.of_own hX)
        have WN := Lib.hid (Sl.of_own hY)
        clear hX hY HX HY HP HW hj hlt HB2 V2
        go_wp2_with fail
        have HA := al1 wo (.cells #[.slice A2 ys.length c2, .slice A3 k.length c3] 23)
        refine (join_v _ _ [.slice A2 ys.length c2, .slice A3 k.length c3] [ys, k] (sl_lit _ _ _ _ _ _ _ rfl rfl (by simp) (by simp [maxLen])) (parts_cons (Y'.out.on HA) (parts_cons ((HU.out.on HW2.out).on HA) (parts_nil _ _))) (by simp; omega) (by simp)).mono ?_
        rintro e w5 ⟨hb5, v5, rfl, hv5⟩
        have hA5 := bthen HA hb5
        have HB5 := Lib.hid (bthen HW2.out hA5)
        have Y5 := Lib.hid (Y'.out.on hA5)
        have SZ5 := Lib.hid (SZ.out.on hA5)
        have WN5 := Lib.hid (WN.out.on hA5)
        have hv5' := BS.of_own (l := [ys, k].flatten) rfl hv5
        rw [show [ys, k].flatten = ys ++ k by simp] at hv5'
        have V5 := Lib.hid hv5'
        clear hb5 hv5 hv5' hA5 HA SZ WN Y' HW2
        go_wp2_with fail
        obtain ⟨p1, p2, p3⟩ := put_take HR.out k
        refine (take_v _ _ _ (ys ++ k) (l.map (·.1)) V5.out (by rw [List.length_map]; exact SZ5.out) (by simp; omega) (by simp; omega)).mono ?_
        rintro e w6 ⟨hb6, hok, _⟩
        obtain ⟨v6, u6, rfl, hv6, hu6, _⟩ := hok p1
        rw [p2] at hv6
        rw [p3] at hu6
        have HB6 := Lib.hid (bthen HB5.out hb6)
        have Y6 := Lib.hid (Y5.out.on hb6)
        have WN6 := Lib.hid (WN5.out.on hb6)
        have V6 := Lib.hid (Sl.of_own hv6)
        have U6 := Lib.hid (BS.of_own rfl hu6)
        clear hok hb6 hv6 hu6 p1 p2 p3 V5 SZ5 WN5 Y5 HB5
        go_wp2_with fail
        refine (hex_v _ _ ys Y6.out (by omega)).mono ?_
        rintro e w7 ⟨hb7, rfl⟩
        have HB7 := Lib.hid (bthen HB6.out hb7)
        have Y7 := Lib.hid (Y6.out.on hb7)
        have WN7 := Lib.hid (WN6.out.on hb7)
        have V7 := Lib.hid (V6.out.on hb7)
        have U7 := Lib.hid (U6.out.on hb7)
        clear hb7 HB6 Y6 WN6 V6 U6
        go_wp2_with fail
        refine (unhex_any _ _ (by simp [ByteArray.size, hexS_length]; omega)).mono ?_
        rintro e w8 hp
        obtain ⟨hb8, v8, rfl, hv8⟩ := hp.ok (ys := ys) (by simpa using unhex_hex ys)
        have HB8 := Lib.hid (bthen HB7.out hb8)
        have Y8 := Lib.hid (Y7.out.on hb8)
        have WN8 := Lib.hid (WN7.out.on hb8)
        have V8 := Lib.hid (V7.out.on hb8)
        have U8 := Lib.hid (U7.out.on hb8)
        have C8 := Lib.hid (BS.of_own rfl hv8)
        clear hp hb8 hv8 HB7 Y7 WN7 V7 U7
        go_wp2_with fail
        refine (samenum_b _ _ _ (l.map (·.2)) (l.map (·.2)) (by simpa using V8.out) (by simpa using WN8.out)).mono ?_
        rintro e w9 ⟨rfl, hb9⟩
        rw [decide_eq_true (rfl : l.map (·.2) = l.map (·.2))]
        have HB9 := Lib.hid (bthen HB8.out hb9)
        have Y9 := Lib.hid (Y8.out.on hb9)
        have U9 := Lib.hid (U8.out.on hb9)
        have C9 := Lib.hid (C8.out.on hb9)
        clear hb9 HB8 Y8 WN8 V8 U8 C8
        go_wp2_with fail
        refine (same_b _ _ _ k k U9.out (HU.out.on HB9.out)).mono ?_
        rintro e w10 ⟨rfl, hb10⟩
        rw [decide_eq_true (rfl : k = k)]
        have HB10 := Lib.hid (bthen HB9.out hb10)
        have Y10 := Lib.hid (Y9.out.on hb10)
        have C10 := Lib.hid (C9.out.on hb10)
        clear hb10 HB9 Y9 U9 C9
        go_wp2_with fail
        refine (same_b _ _ _ ys ys C10.out Y10.out).mono ?_
        rintro e w11 ⟨rfl, hb11⟩
        rw [decide_eq_true (rfl : ys = ys)]
        have HB11 := Lib.hid (bthen HB10.out hb11)
        have Y11 := Lib.hid (Y10.out.on hb11)
        have C11 := Lib.hid (C10.out.on hb11)
        clear hb11 HB10 Y10 C10
        go_wp2_with fail
        refine (xor_v _ _ _ ys ys Y11.out C11.out (by omega) (by omega)).mono ?_
        rintro e w12 ⟨hb12, v12, rfl, hv12⟩
        have HB12 := Lib.hid (bthen HB11.out hb12)
        have Y12 := Lib.hid (Y11.out.on hb12)
        have C12 := Lib.hid (C11.out.on hb12)
        have X12 := Lib.hid (BS.of_own rfl hv12)
        clear hb12 hv12 HB11 Y11 C11
        go_wp2_with fail
        refine (xor_v _ _ _ (xorS ys ys) ys X12.out C12.out (by rw [xorS_length]; omega) (by omega)).mono ?_
        rintro e w13 ⟨hb13, v13, rfl, hv13⟩
        have HB13 := Lib.hid (bthen HB12.out hb13)
        have Y13 := Lib.hid (Y12.out.on hb13)
        have X13 := Lib.hid (BS.of_own rfl hv13)
        clear hb13 hv13 HB12 Y12 C12 X12
        go_wp2_with fail
        refine (same_b _ _ _ _ ys X13.out Y13.out).mono ?_
        rintro e w14 ⟨rfl, hb14⟩
        rw [decide_eq_true (xorS_back ys)]
        have HB14 := Lib.hid (bthen HB13.out hb14)
        clear hb14 HB13 Y13 X13
        go_wp2_with fail
        go_ret
        exact ⟨rfl, HB14.out⟩
end Go.Proofs.Ythgpmedldnnhpaa
