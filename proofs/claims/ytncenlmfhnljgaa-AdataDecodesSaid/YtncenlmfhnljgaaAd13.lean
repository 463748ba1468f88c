/- Walks of adata: Services. No condition. -/
import Derived.Test.YtncenlmfhnljgaaAd12
namespace Go.Proofs.Ytncenlmfhnljgaa
open Go.RowKit

theorem elW : El Try.prog 40 47 1 2 := el_mk Try.underlying40 (z := .int .u16 0) (by kernel_rfl) rfl (by omega) (by omega)
/-- The numbers in a value; the services in elements. -/
def sh2 : List UInt8 → List Nat
  | a :: b :: r => (a.toNat + 256 * b.toNat) :: sh2 r
  | _ => []
def serv1 (e : Int × List UInt8) : List Nat := if e.1 = 3 then sh2 e.2 else []
def servA (es : List (Int × List UInt8)) : List Nat := es.flatMap serv1
theorem sh2_len : ∀ (n : Nat) (l : List UInt8), l.length ≤ n → (sh2 l).length ≤ l.length := by
  intro n
  induction n with
  | zero => intro l h; have : l = [] := List.length_eq_zero_iff.1 (by omega); subst this; simp [sh2]
  | succ n ih =>
    intro l h
    rcases l with _ | ⟨a, _ | ⟨b, r⟩⟩
    · simp [sh2]
    · simp [sh2]
    · have := ih r (by simp at h; omega)
      simp [sh2]
      omega
theorem sh2_short {l : List UInt8} (h : l.length < 2) : sh2 l = [] := by
  rcases l with _ | ⟨a, _ | ⟨b, r⟩⟩
  · rfl
  · rfl
  · simp only [List.length_cons] at h; omega
theorem servA_take {es : List (Int × List UInt8)} {j : Nat} {e : Int × List UInt8} (h : es[j]? = some e) : servA (es.take (j + 1)) = servA (es.take j) ++ serv1 e := by
  obtain ⟨hi, rfl⟩ := List.getElem?_eq_some_iff.1 h
  unfold servA
  rw [List.take_succ_eq_append_getElem hi, List.flatMap_append]
  simp
/-- The values of the elements of few bytes are short. -/
theorem elA_val : ∀ (n : Nat) (l : List UInt8), l.length ≤ n → ∀ e ∈ (elA l).1, e.2.length ≤ 255 := by
  intro n
  induction n with
  | zero => intro l h; have : l = [] := List.length_eq_zero_iff.1 (by omega); subst this; rw [elA_nil]; simp
  | succ n ih =>
    intro l h
    cases l with
    | nil => rw [elA_nil]; simp
    | cons x r =>
      by_cases h1 : x.toNat = 0
      · rw [elA_zero h1]; simp
      · by_cases h2 : r.length < x.toNat
        · rw [elA_short h1 h2]; simp
        · rw [elA_one h1 h2]
          have := ih (r.drop x.toNat) (by simp at h ⊢; omega)
          have hx := x.toNat_lt
          intro e he
          rcases List.mem_cons.1 he with rfl | he
          · simp only [List.length_drop, List.length_take]; omega
          · exact this e he
theorem adL_val (l : List UInt8) : ∀ e ∈ adL l, e.2.length ≤ 255 := by
  unfold adL
  split
  · exact elA_val _ l (Nat.le_refl _)
  · simp
theorem takeE2 (l : List UInt8) : takeE l [2] = if l.length < 2 then 3 else 0 := by
  unfold takeE
  rw [if_pos (by decide), show offs [2] [(2 : Int)].length = 2 by decide]
theorem takeV2 (a b : UInt8) (r : List UInt8) : takeV (a :: b :: r) [2] 1 = [a.toNat + 256 * b.toNat] := by
  simp [takeV, offs, leVal, List.range_succ]
abbrev OW (w : World) (base : Nat) (v : Value) (l : List Nat) : Prop := w.ownsRow base 47 1 v l.length (shs l)
def ServPost (w : World) (l : List UInt8) (e : Ending) (w' : World) : Prop :=
  Below w.heap.size w w' ∧ ∃ v, e = .returned v ∧ WS w' w'.heap.size v (servA (adL l))
theorem ints2 (w : World) : Sl (w.alloc (.cells #[.int .i64 2] 3)) (w.heap.size + 1) 1 (.slice (some ⟨w.heap.size, 0, none⟩) 1 1) [(2 : Int)].length (ints [2]) := Sl.lit w #[.int .i64 2] _ 1 rfl (by simp [maxLen])

theorem take2_short (l : List UInt8) (A : Option Addr) (c : Nat) (w : World) (hb : BS w w.heap.size (.slice A l.length c) l) (hl : l.length < 2) :
    Calls Try.prog 28 #[.slice A l.length c, .slice (some ⟨w.heap.size, 0, none⟩) 1 1] (w.alloc (.cells #[.int .i64 2] 3)) fun e w' => Below w.heap.size w w' ∧ e = .returned (.tuple #[.slice none 0 0, .slice none 0 0, .int .i64 3]) := by
  refine (take_any l [2] A c (some ⟨w.heap.size, 0, none⟩) 1 _ (hb.on (al1 _ _)) (by have h := ints2 w; simpa using h) (by omega) (by simp)).mono ?_
  rintro e w2 ⟨hb2, _, hv⟩
  have he : takeE l [2] = 3 := by rw [takeE2, if_pos hl]
  refine ⟨bthen (al1 _ _) hb2, ?_⟩
  rw [hv (by rw [he]; decide), he]
theorem take2_long (a b : UInt8) (r : List UInt8) (A : Option Addr) (c : Nat) (w : World) (hb : BS w w.heap.size (.slice A (a :: b :: r).length c) (a :: b :: r)) (hl : r.length ≤ 255) :
    Calls Try.prog 28 #[.slice A (a :: b :: r).length c, .slice (some ⟨w.heap.size, 0, none⟩) 1 1] (w.alloc (.cells #[.int .i64 2] 3)) fun e w' => Below w.heap.size w w' ∧ ∃ g o k A' c', e = .returned (.tuple #[.slice (some ⟨g, o, none⟩) 1 k, .slice A' r.length c', .int .i64 0]) ∧
      g < w'.heap.size ∧ w'.cell? ⟨g, o, none⟩ = some (.int .u64 ((a.toNat + 256 * b.toNat : Nat) : Int)) ∧ OB w' w.heap.size (.slice A' r.length c') r := by
  refine (take_any (a :: b :: r) [2] A c (some ⟨w.heap.size, 0, none⟩) 1 _ (hb.on (al1 _ _)) (by have h := ints2 w; simpa using h) (by simp; omega) (by simp)).mono ?_
  rintro e w2 ⟨hb2, hv, _⟩
  have he : takeE (a :: b :: r) [2] = 0 := by rw [takeE2, if_neg (by simp)]
  obtain ⟨v, u, rfl, h1, h2, _⟩ := hv he
  rw [show [(2 : Int)].length = 1 by rfl, takeV2] at h1
  rw [show (a :: b :: r).drop (offs [2] [(2 : Int)].length) = r by simp [offs]] at h2
  obtain ⟨A', c', rfl⟩ := own_form h2
  obtain ⟨g, o, k, rfl, hg, _, _, hc⟩ := (Sl.of_own h1).at_ (k := 0) rfl
  exact ⟨bthen (al1 _ _) hb2, g, o, k, A', c', rfl, hg, hc, own_base h2 (by simp)⟩

set_option maxRecDepth 100000 in
set_option maxHeartbeats 4000000 in
theorem aserv_any (v : Value) (l : List UInt8) (w : World) (hb : BS w w.heap.size v l) : Calls Try.prog 23 #[v] w (ServPost w l) := by
  have C := Lib.hid (adecode_any v l w hb)
  obtain ⟨A, c, rfl, _⟩ := id hb
  have hle := adL_le l
  have hvl := adL_val l
  unfold ADecPost at C
  have HQ := Lib.hid (show ∀ (e : Ending) (w' : World), (Below w.heap.size w w' ∧ ∃ v, e = .returned v ∧ WS w' w'.heap.size v (servA (adL l))) → ServPost w l e w' from fun _ _ h => h)
  generalize ServPost w l = Q at *
  generalize adL l = es at *
  generalize adE l = er at *
  have HLE := Lib.hid hle
  have HVL := Lib.hid hvl
  clear hb hle hvl
  go_enter Try.func23, Try.ntmps23
  go_wp2_with fail
  refine C.out.mono ?_
  rintro e w1 ⟨hb1, u, rfl, hu⟩
  obtain ⟨A1, c1, rfl⟩ := hu.form
  have HB1 := Lib.hid hb1
  have HU := Lib.hid hu
  have z1 := hb1.size
  clear hb1 hu C
  go_wp2_with fail
  go_loopw [5, 19] (fun x i wr => ∃ j : Nat, j ≤ es.length ∧ i = .int .i64 j ∧ OW wr w1.heap.size x (servA (es.take j)) ∧ (servA (es.take j)).length ≤ 255 * j ∧ Below w1.heap.size w1 wr) (fun _ i _ => es.length - (intOf i).toNat)
  case atStart => exact ⟨0, Nat.zero_le _, rfl, World.ownsRow_nil _ _ _ _, by simp [servA], Below.refl _ _⟩
  case round =>
    obtain ⟨j, hj, rfl, how, h255, hbel⟩ := hrel
    obtain ⟨A5, c5, rfl⟩ := own_form how
    have HOW := Lib.hid how
    have H255 := Lib.hid h255
    have HBE := Lib.hid hbel
    by_cases hlt : j < es.length
    · have hej := List.getElem?_eq_getElem hlt
      obtain ⟨b, o, c2, A', c', hform, hB, d0, d1, hbs⟩ := els_cells (HU.out.below hbel) hej
      injection hform with hf1 _ hf3
      subst hf1 hf3
      have HEJ := Lib.hid hej
      have HBS := Lib.hid hbs
      have HLJ := Lib.hid (HVL.out _ (List.getElem_mem hlt))
      have HT := Lib.hid (servA_take hej)
      have hbz : b < wr.heap.size := Nat.lt_of_lt_of_le hB hbel.size
      have zr := hbel.size
      generalize es[j] = ej at *
      obtain ⟨kj, lj⟩ := ej
      dsimp only at d0 d1
      clear how h255 hbel hej hbs
      by_cases hk : kj = 3
      · subst hk
        have HTT := Lib.hid (show servA (es.take (j + 1)) = servA (es.take j) ++ sh2 lj by rw [HT.out]; simp [serv1])
        go_wp2_with fail
        have HA0 := Lib.hid (HBE.out.alloc zr (.cells #[.int .i64 3, .slice A' lj.length c'] 49))
        go_loopw [5, 8] (fun x u wx => ∃ (pre : List Nat) (rest : List UInt8), sh2 lj = pre ++ sh2 rest ∧ pre.length + rest.length ≤ 255 ∧ OW wx w1.heap.size x (servA (es.take j) ++ pre) ∧ BS wx wx.heap.size u rest ∧ Below w1.heap.size w1 wx) (fun _ u _ => lenV u)
        case atStart => exact ⟨[], lj, by simp, by have := HLJ.out; simpa using this, by rw [List.append_nil]; exact HOW.out.alloc _, (HBS.out.more zr).on (al1 _ _), HA0.out⟩
        case round =>
          obtain ⟨pre, rest, hsp, hpl, how, hr, hbel⟩ := hrel
          have hol : (servA (es.take j) ++ pre).length = (servA (es.take j)).length + pre.length := List.length_append
          have how' : wr.ownsRow w1.heap.size 47 1 u5 ((servA (es.take j)).length + pre.length) (shs (servA (es.take j) ++ pre)) := by rw [← hol]; exact how
          obtain ⟨A6, c6, rfl⟩ := own_form how'
          obtain ⟨A8, c8, rfl, _⟩ := id hr
          have HOX := Lib.hid how'
          have HR := Lib.hid hr
          have HBX := Lib.hid hbel
          have HSP := Lib.hid hsp
          have HPL := Lib.hid hpl
          have zx := hbel.size
          by_cases hl2 : rest.length < 2
          · have HTK := Lib.hid (take2_short rest A8 c8 wr hr hl2)
            have HTT2 := Lib.hid (show servA (es.take (j + 1)) = servA (es.take j) ++ pre by
              rw [HTT.out, hsp, sh2_short hl2, List.append_nil])
            clear how how' hr hbel hsp hpl hol hl2
            go_wp2_with fail
            refine HTK.out.mono ?_
            rintro e w2 ⟨hb2, rfl⟩
            have HB2 := Lib.hid hb2
            clear hb2 HTK
            go_wp2_with fail
            go_roundw
            case rel => exact ⟨j + 1, by omega, by rw [IntWalk.wrap64_in ((j : Int) + 1) (by have := HLE.out; omega)]; go_num, by rw [HTT2.out]; unfold OW; rw [List.length_append]; exact own_on HOX.out HB2.out, by rw [HTT2.out]; have := H255.out; have := HPL.out; simp; omega, HBX.out.trans (HB2.out.mono zx)⟩
            case measure => rw [IntWalk.wrap64_in ((j : Int) + 1) (by have := HLE.out; omega)]; simp [intOf]; omega
          · rcases rest with _ | ⟨a, _ | ⟨b', r⟩⟩
            · simp at hl2
            · simp at hl2
            · have hN16 : a.toNat + 256 * b'.toNat < 65536 := by have := a.toNat_lt; have := b'.toNat_lt; omega
              have hsp2 : sh2 lj = pre ++ ((a.toNat + 256 * b'.toNat) :: sh2 r) := hsp
              have HTK := take2_long a b' r A8 c8 wr hr (by simp at hpl; omega)
              generalize a.toNat + 256 * b'.toNat = N at *
              have HSP2 := Lib.hid hsp2
              have HTK := Lib.hid HTK
              have hw16 : IntKind.u16.wrap (N : Int) = (N : Int) := by rw [IntKind.wrap_u16]; omega
              clear how how' hr hbel hsp hpl hol hl2 hsp2
              go_wp2_with fail
              refine HTK.out.mono ?_
              rintro e w2 ⟨hb2, g, og, kg, A', cr, rfl, hg, hcell, hr2⟩
              have HB2 := Lib.hid hb2
              have HR2 := Lib.hid hr2
              have hqx : Below w1.heap.size w1 w2 := HBX.out.trans (hb2.mono zx)
              have HQX := Lib.hid hqx
              have HOX2 := Lib.hid (own_on HOX.out hb2)
              have zq := hqx.size
              clear hb2 HTK hr2 hqx
              go_wp2_with (first
                | (at_builtin
                   refine app_sl _ elW rfl (.tmp 37) (.tmp 42) rfl rfl (HOX2.out.alloc _) rfl (Sl.lit _ _ _ 1 rfl (by simp [maxLen])) ?_ ?_ ?_ ?_
                   (case refine_1 => intro u hu; simp at hu; rcases hu with rfl; rfl)
                   (case refine_2 => have := H255.out; have := HPL.out; have := HLE.out; simp at *; omega)
                   (case refine_3 => exact Nat.le_trans zq (by simp))
                   intro v3 w3 hown3 hg3 _ _
                   have HB3 := Lib.hid (show Below w1.heap.size w1 w3 from below_app (HQX.out.alloc zq _) (HOX2.out.alloc _) hg3 (Nat.le_refl _) (Nat.le_trans zq (by simp)))
                   have HR3 := Lib.hid (own_grown_ty (HR2.out.alloc _) (HOX2.out.alloc _) (by decide) hg3)
                   obtain ⟨A9, c9, rfl⟩ := own_form hown3
                   have HO3 := Lib.hid (show OW w3 w1.heap.size (.slice A9 ((servA (es.take j)).length + pre.length + 1) c9) (servA (es.take j) ++ (pre ++ [N])) by
                     unfold OW
                     rw [← List.append_assoc, shs_append, show (servA (es.take j) ++ pre ++ [N]).length = (servA (es.take j)).length + pre.length + 1 by simp; omega]
                     exact hown3)
                   clear hown3 hg3))
              go_roundw
              case rel => exact ⟨pre ++ [N], r, by rw [HSP2.out]; simp, by have := HPL.out; simp at *; omega, HO3.out, BS.of_own rfl HR3.out, HB3.out⟩
              case measure => simp [lenV]; omega
      · have hk' : (kj == 3) = false := by simpa using hk
        have HTT := Lib.hid (show servA (es.take (j + 1)) = servA (es.take j) by rw [HT.out]; simp [serv1, hk])
        clear hk
        go_wp2_with fail
        go_roundw
        case rel => exact ⟨j + 1, by omega, by rw [IntWalk.wrap64_in ((j : Int) + 1) (by have := HLE.out; omega)]; go_num, by rw [HTT.out]; exact HOW.out.alloc _, by rw [HTT.out]; have := H255.out; omega, HBE.out.alloc zr _⟩
        case measure => rw [IntWalk.wrap64_in ((j : Int) + 1) (by have := HLE.out; omega)]; simp [intOf]; omega
    · have hje : j = es.length := by omega
      subst hje
      rw [List.take_length] at *
      clear how hbel h255
      go_wp2_with fail
      exact HQ.out _ _ ⟨bthen HB1.out HBE.out, _, rfl, Sl.of_own HOW.out⟩
end Go.Proofs.Ytncenlmfhnljgaa
