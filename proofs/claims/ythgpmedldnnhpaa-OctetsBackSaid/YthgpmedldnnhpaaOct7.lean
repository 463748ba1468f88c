/- Walks of package octets: Unhex. -/
import Derived.Test.YthgpmedldnnhpaaOct6
namespace Go.Proofs.Ythgpmedldnnhpaa
open Go.RowKit

theorem nibble_yes (c : UInt8) (h : Nat) (hn : nib c = h) (hh : h < 16) (w : World) : Calls Try.prog 28 #[.int .u8 (c.toNat : Int)] w fun e w' => e = .returned (.tuple #[.int .u8 h, .bool true]) ∧ w = w' :=
  (nibble_any c w).mono fun _ _ ⟨he, hw⟩ => ⟨by rw [he]; unfold nibE; rw [hn, if_pos hh], hw⟩
theorem nibble_no (c : UInt8) (hn : ¬ nib c < 16) (w : World) : Calls Try.prog 28 #[.int .u8 (c.toNat : Int)] w fun e w' => e = .returned (.tuple #[.int .u8 0, .bool false]) ∧ w = w' :=
  (nibble_any c w).mono fun _ _ ⟨he, hw⟩ => ⟨by rw [he]; unfold nibE; rw [if_neg hn], hw⟩

/-- The bytes of the first k pairs of digits. -/
def unhexP (l : List UInt8) : Nat → Option (List UInt8)
  | 0 => some []
  | k + 1 => match unhexP l k with
    | none => none
    | some ys => if nib (l.getD (2 * k) 0) < 16 ∧ nib (l.getD (2 * k + 1) 0) < 16 then some (ys ++ [UInt8.ofNat (16 * nib (l.getD (2 * k) 0) + nib (l.getD (2 * k + 1) 0))]) else none
/-- The bytes whose digits these are. -/
def unhexS (l : List UInt8) : Option (List UInt8) := if l.length % 2 = 0 then unhexP l (l.length / 2) else none
theorem unhexP_none {l : List UInt8} {k : Nat} (h : unhexP l k = none) (d : Nat) : unhexP l (k + d) = none := by
  induction d with
  | zero => exact h
  | succ d ih => rw [Nat.add_succ, unhexP, ih]
theorem unhexP_len {l : List UInt8} : ∀ (k : Nat) (ys : List UInt8), unhexP l k = some ys → ys.length = k := by
  intro k
  induction k with
  | zero => intro ys h; simp [unhexP] at h; subst h; rfl
  | succ k ih =>
    intro ys h
    rw [unhexP] at h
    split at h
    · cases h
    · rename_i zs hz
      split at h
      · simp only [Option.some.injEq] at h
        subst h
        simp [ih zs hz]
      · cases h

theorem or_u8 (a b : Nat) (ha : a < 16) (hb : b < 16) : bits BinOp.or IntKind.u8 ((a : Int) * 16) (b : Int) = ((UInt8.ofNat (16 * a + b)).toNat : Int) := by
  have e : (a : Int) * 16 = ((a * 16 : Nat) : Int) := by omega
  show IntKind.u8.wrap ((BitVec.ofInt 8 ((a : Int) * 16) ||| BitVec.ofInt 8 (b : Int)).toNat : Int) = _
  rw [e, BitVec.toNat_or, BitVec.ofInt_natCast, BitVec.ofInt_natCast, BitVec.toNat_ofNat, BitVec.toNat_ofNat, Nat.mod_eq_of_lt (by omega), Nat.mod_eq_of_lt (by omega), IntKind.wrap_u8, UInt8.toNat_ofNat']
  have h2 : a * 16 ||| b = 16 * a + b := by
    have h := Nat.shiftLeft_add_eq_or_of_lt (b := b) (i := 4) hb a
    rw [Nat.shiftLeft_eq] at h
    rw [show a * 16 = a * 2 ^ 4 by rfl, ← h]
    omega
  rw [h2]
  omega

/-- What a call leaves that returns bytes in a row of its own, or the error of syntax. -/
def OptPost (w : World) (r : Option (List UInt8)) (er : Int) (e : Ending) (w' : World) : Prop :=
  Below w.heap.size w w' ∧ match r with
    | some ys => ∃ v, e = .returned (.tuple #[v, .int .i64 0]) ∧ w'.ownsRow w.heap.size 5 1 v ys.length (bys ys)
    | none => e = .returned (.tuple #[.slice none 0 0, .int .i64 er])

theorem str_at (s : ByteArray) (i : Nat) (h : i < s.size) : s[i] = s.data.toList.getD i 0 := by
  have h' : i < s.data.toList.length := by simpa using h
  rw [List.getD_eq_getElem?_getD, List.getElem?_eq_getElem h']
  rfl

set_option maxRecDepth 100000 in
set_option maxHeartbeats 1000000 in
theorem unhex_any (s : ByteArray) (w : World) (hs : s.size ≤ 140737488355328) : Calls Try.prog 20 #[.string s] w (OptPost w (unhexS s.data.toList) 2) := by
  have hsl : s.data.toList.length = s.size := by simp
  by_cases hodd : s.size % 2 = 0
  · obtain ⟨n, hn⟩ : ∃ n, s.size = 2 * n := ⟨s.size / 2, by omega⟩
    have hres : unhexS s.data.toList = unhexP s.data.toList n := by unfold unhexS; rw [hsl, if_pos hodd, hn]; congr 1; omega
    have HR := Lib.hid hres
    have HN := Lib.hid hn
    have ho : ((s.size : Int) % 2 != 0) = false := by simp; omega
    clear hres hn hsl hodd
    go_enter Try.func20, Try.ntmps20
    go_wp2_with fail
    go_loopw [4, 5] (fun v i wr => ∃ (k i0 : Nat) (ys : List UInt8), i0 ≤ s.size ∧ i0 = 2 * k ∧ i = .int .i64 i0 ∧ unhexP s.data.toList k = some ys ∧ wr.ownsRow w.heap.size 5 1 v ys.length (bys ys) ∧ Below w.heap.size w wr) (fun _ i _ => s.size - (intOf i).toNat)
    case atStart => exact ⟨0, 0, [], Nat.zero_le _, rfl, rfl, rfl, World.ownsRow_nil _ _ _ _, Below.refl _ _⟩
    case round =>
      obtain ⟨k, i0, ys, hi, hik, rfl, hp, hown, hbel⟩ := hrel
      obtain ⟨wo, rfl⟩ : ∃ wo : World, wo = wr := ⟨_, rfl⟩
      have HIK := Lib.hid hik
      have HP := Lib.hid hp
      have HO := Lib.hid hown
      have HW := Lib.hid hbel
      clear hik hp hown hbel
      by_cases hlt : i0 < s.size
      · have hlt' : i0 + 1 < s.size := by have := HN.out; have := HIK.out; omega
        have hkn : k + 1 ≤ n := by have := HN.out; have := HIK.out; omega
        have g1 : s.data.toList.getD (2 * k) 0 = s[i0] := by rw [str_at s i0 hlt, HIK.out]
        have g2 : s.data.toList.getD (2 * k + 1) 0 = s[i0 + 1] := by rw [str_at s (i0 + 1) hlt', HIK.out]
        have hstep : unhexP s.data.toList (k + 1) = if nib s[i0] < 16 ∧ nib s[i0 + 1] < 16 then some (ys ++ [UInt8.ofNat (16 * nib s[i0] + nib s[i0 + 1])]) else none := by
          rw [unhexP, HP.out, g1, g2]
        have hyl := unhexP_len k ys HP.out
        generalize hn1 : nib s[i0] = n1 at *
        generalize hn2 : nib s[i0 + 1] = n2 at *
        have HN1 := Lib.hid hn1
        have HN2 := Lib.hid hn2
        have HST := Lib.hid hstep
        have HYL := Lib.hid hyl
        clear hn1 hn2 g1 g2 hstep hyl
        have hfin : ¬ (n1 < 16 ∧ n2 < 16) → unhexS s.data.toList = none := fun h => by
          have := HST.out
          rw [if_neg h] at this
          rw [HR.out]
          have h2 := unhexP_none this (n - (k + 1))
          rwa [show k + 1 + (n - (k + 1)) = n by omega] at h2
        have HF := Lib.hid hfin
        clear hfin
        by_cases h1 : n1 < 16
        · by_cases h2 : n2 < 16
          · have hor : bits BinOp.or IntKind.u8 ((n1 : Int) * 16) (n2 : Int) = ((UInt8.ofNat (16 * n1 + n2)).toNat : Int) := or_u8 n1 n2 h1 h2
            have hys := HYL.out
            have hkb : ys.length ≤ 70368744177664 := by have := HN.out; omega
            clear hys
            go_wp2_with fail
            refine (nibble_yes _ n1 HN1.out h1 _).mono ?_
            rintro e w1 ⟨rfl, rfl⟩
            go_wp2_with fail
            refine (nibble_yes _ n2 HN2.out h2 _).mono ?_
            rintro e w1 ⟨rfl, rfl⟩
            go_wp2_with (first
              | (at_builtin
                 refine app_sl _ elB rfl (.tmp 41) (.tmp 46) rfl rfl (HO.out.alloc _) rfl (Sl.lit _ _ _ 1 rfl (by simp [maxLen])) ?_ ?_ ?_ ?_
                 (case refine_1 => intro u hu; simp at hu; subst hu; rfl)
                 (case refine_2 => omega)
                 (case refine_3 => exact Nat.le_trans HW.out.size (by simp))
                 intro v1 w1 hown1 hg1 hnil1 hat1))
            have hb1 : Below w.heap.size w w1 := below_app (HW.out.alloc HW.out.size _) (HO.out.alloc _) hg1 (Nat.le_refl _) (Nat.le_trans HW.out.size (by simp))
            have hst : unhexP s.data.toList (k + 1) = some (ys ++ [UInt8.ofNat (16 * n1 + n2)]) := by rw [HST.out, if_pos ⟨h1, h2⟩]
            have e : bys (ys ++ [UInt8.ofNat (16 * n1 + n2)]) = bys ys ++ #[Value.int IntKind.u8 ((16 * (n1 : Int) + (n2 : Int)) % 256)].toList := by
              rw [bys_append]
              have e2 : (((UInt8.ofNat (16 * n1 + n2)).toNat : Nat) : Int) = (16 * (n1 : Int) + (n2 : Int)) % 256 := by rw [UInt8.toNat_ofNat']; omega
              simp only [bys, List.map_cons, List.map_nil, e2]
            rw [← e] at hown1
            have K1 := Lib.hid hown1
            have K2 := Lib.hid hb1
            have K3 := Lib.hid hst
            clear hown1 hg1 hnil1 hat1 hb1 hst e
            go_roundw
            case rel => exact ⟨k + 1, i0 + 2, _, by omega, by have := HIK.out; omega, by go_num, K3.out, by simpa using K1.out, K2.out⟩
            case measure => simp [intOf]; omega
          · go_wp2_with fail
            refine (nibble_yes _ n1 HN1.out h1 _).mono ?_
            rintro e w1 ⟨rfl, rfl⟩
            go_wp2_with fail
            refine (nibble_no _ (by rw [HN2.out]; exact h2) _).mono ?_
            rintro e w1 ⟨rfl, rfl⟩
            go_wp2_with fail
            go_ret2
            refine ⟨HW.out, ?_⟩
            rw [HF.out (fun h => h2 h.2)]
            rfl
        · go_wp2_with fail
          refine (nibble_no _ (by rw [HN1.out]; exact h1) _).mono ?_
          rintro e w1 ⟨rfl, rfl⟩
          by_cases h2 : n2 < 16
          · go_wp2_with fail
            refine (nibble_yes _ n2 HN2.out h2 _).mono ?_
            rintro e w1 ⟨rfl, rfl⟩
            go_wp2_with fail
            go_ret2
            refine ⟨HW.out, ?_⟩
            rw [HF.out (fun h => h1 h.1)]
            rfl
          · go_wp2_with fail
            refine (nibble_no _ (by rw [HN2.out]; exact h2) _).mono ?_
            rintro e w1 ⟨rfl, rfl⟩
            go_wp2_with fail
            go_ret2
            refine ⟨HW.out, ?_⟩
            rw [HF.out (fun h => h1 h.1)]
            rfl
      · go_wp2_with fail
        go_ret2
        have hkn : k = n := by have := HN.out; have := HIK.out; omega
        subst hkn
        refine ⟨HW.out, ?_⟩
        rw [HR.out, HP.out]
        exact ⟨_, rfl, HO.out⟩
  · have hres : unhexS s.data.toList = none := by unfold unhexS; rw [hsl, if_neg hodd]
    have HR := Lib.hid hres
    have ho : ((s.size : Int) % 2 != 0) = true := by rw [bne_iff_ne]; omega
    clear hres hsl hodd
    go_enter Try.func20, Try.ntmps20
    go_wp2_with fail
    go_ret2
    refine ⟨Below.refl _ _, ?_⟩
    rw [HR.out]
    rfl
end Go.Proofs.Ythgpmedldnnhpaa
