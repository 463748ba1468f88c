/- Walks of the reference of adata: Services. No condition. -/
import Derived.Test.YtncenlmfhnljgaaAd13
import Derived.Test.YtncenlmfhnljgaaNum
namespace Go.Proofs.Ytncenlmfhnljgaa
open Go.RowKit

theorem drop2 {l : List UInt8} {k : Nat} (h : k + 1 < l.length) : l.drop k = l[k] :: l[k + 1] :: l.drop (k + 2) := by
  rw [List.drop_eq_getElem_cons (by omega), List.drop_eq_getElem_cons h]
theorem bs_mid {w : World} {B g og c : Nat} {l : List UInt8} {k : Nat} (h : BS w B (.slice (some ⟨g, og, none⟩) l.length c) l) (hk : k + 1 < l.length) :
    BS w B (.slice (if c = k then some ⟨g, og, none⟩ else some ⟨g, og + k, none⟩) 2 (c - k)) [l[k], l[k + 1]] := by
  have hfr := BS.front h (k := k + 2) (by omega)
  have hl1 : (l.take (k + 2)).length = k + 2 := by rw [List.length_take]; omega
  have hdq : (l.take (k + 2)).drop k = [l[k], l[k + 1]] := by rw [List.drop_take, drop2 hk, show k + 2 - k = 2 by omega]; rfl
  obtain ⟨q, hq⟩ : ∃ q, q = l.take (k + 2) := ⟨_, rfl⟩
  rw [← hq] at hfr hl1 hdq
  rw [← hl1] at hfr
  have hct := hfr.cut (k := k) (by omega)
  rw [hl1, hdq, show k + 2 - k = 2 by omega] at hct
  exact hct
set_option maxRecDepth 100000 in
set_option maxHeartbeats 4000000 in
theorem raserv_any (v : Value) (l : List UInt8) (w : World) (hb : BS w w.heap.size v l) : Calls Try.prog 24 #[v] w (ServPost w l) := by
  have C := Lib.hid (fun w' h => radecode_own v l w' h)
  obtain ⟨A, c, rfl, _⟩ := id hb
  have hle := adL_le l
  have hvl := adL_val l
  unfold RADecPost at C
  have HQ := Lib.hid (show ∀ (e : Ending) (w' : World), (Below w.heap.size w w' ∧ ∃ v, e = .returned v ∧ WS w' w'.heap.size v (servA (adL l))) → ServPost w l e w' from fun _ _ h => h)
  generalize ServPost w l = Q at *
  generalize adL l = es at *
  generalize adE l = er at *
  have HLE := Lib.hid hle
  have HVL := Lib.hid hvl
  have HBB := Lib.hid hb
  clear hb hle hvl
  go_enter Try.func24, Try.ntmps24
  go_wp2_with fail
  refine (C.out _ (HBB.out.on (al1 _ _))).mono ?_
  rintro e w1 ⟨hb1, u, rfl, hu⟩
  obtain ⟨A1, c1, rfl⟩ := hu.form
  have HB1 := Lib.hid (bthen (al1 _ _) hb1)
  have HU := Lib.hid (OwnM.low hu (show w.heap.size ≤ _ by simp))
  have z1 := HB1.out.size
  have HO0 := Lib.hid (own_on (World.ownsRow_lit (base := w.heap.size) (e := 47) (size := 1) w #[] 0 (Nat.le_refl _) (by simp [maxLen]) rfl) hb1)
  clear hb1 hu C
  go_wp2_with fail
  go_loopw [3, 6] (fun x i wr => ∃ j : Nat, j ≤ es.length ∧ i = .int .i64 j ∧ OW wr w.heap.size x (servA (es.take j)) ∧ (servA (es.take j)).length ≤ 255 * j ∧ Below w.heap.size w wr ∧ OwnEls wr w.heap.size (.slice A1 es.length c1) es) (fun _ i _ => es.length - (intOf i).toNat)
  case atStart => exact ⟨0, Nat.zero_le _, rfl, HO0.out, by simp [servA], HB1.out, HU.out⟩
  case round =>
    obtain ⟨j, hj, rfl, how, h255, hbel, hel⟩ := hrel
    obtain ⟨A5, c5, rfl⟩ := own_form how
    have HOW := Lib.hid how
    have H255 := Lib.hid h255
    have HBE := Lib.hid hbel
    have HEL := Lib.hid hel
    by_cases hlt : j < es.length
    · have hej := List.getElem?_eq_getElem hlt
      obtain ⟨b, o, c2, A', c', hform, hB, d0, d1, hbs⟩ := els_cells hel.reads hej
      injection hform with hf1 _ hf3
      subst hf1 hf3
      have HEJ := Lib.hid hej
      have HBS := Lib.hid hbs
      have HLJ := Lib.hid (HVL.out _ (List.getElem_mem hlt))
      have HT := Lib.hid (servA_take hej)
      have zr := hbel.size
      generalize es[j] = ej at *
      obtain ⟨kj, lj⟩ := ej
      dsimp only at d0 d1
      clear how h255 hbel hej hbs hel
      by_cases hk : kj = 3
      · subst hk
        have HTT := Lib.hid (show servA (es.take (j + 1)) = servA (es.take j) ++ sh2 lj by rw [HT.out]; simp [serv1])
        go_wp2_with fail
        go_loopw [3, 7] (fun x k wx => ∃ (pre : List Nat) (kk : Nat), k = .int .i64 kk ∧ kk ≤ lj.length ∧ sh2 lj = pre ++ sh2 (lj.drop kk) ∧ pre.length ≤ kk ∧ OW wx w.heap.size x (servA (es.take j) ++ pre) ∧ Below w.heap.size w wx ∧ OwnEls wx w.heap.size (.slice (some ⟨b, o, none⟩) es.length c1) es) (fun _ k _ => lj.length - (intOf k).toNat)
        case atStart => exact ⟨[], 0, rfl, Nat.zero_le _, by simp, Nat.le_refl _, by rw [List.append_nil]; exact HOW.out, HBE.out, HEL.out⟩
        case round =>
          obtain ⟨pre, kk, rfl, hkl, hsp, hpl, how, hbel, hel⟩ := hrel
          have hol : (servA (es.take j) ++ pre).length = (servA (es.take j)).length + pre.length := List.length_append
          have how' : wr.ownsRow w.heap.size 47 1 u3 ((servA (es.take j)).length + pre.length) (shs (servA (es.take j) ++ pre)) := by rw [← hol]; exact how
          obtain ⟨A6, c6, rfl⟩ := own_form how'
          obtain ⟨b', o', c2, A', c', hform, hB, d0, d1, hbs⟩ := els_cells hel.reads HEJ.out
          injection hform with hf1 _ hf3
          injection hf1 with hf1
          injection hf1 with hf1 hf2 _
          subst hf1 hf2 hf3
          dsimp only at d0 d1
          have HBS := Lib.hid hbs
          have HOX := Lib.hid how'
          have HBX := Lib.hid hbel
          have HEX := Lib.hid hel
          have HSP := Lib.hid hsp
          have HPL := Lib.hid hpl
          have zx := hbel.size
          have hlj := HLJ.out
          clear how how' hbel hel hsp hpl hol hbs
          by_cases hlt2 : kk + 1 < lj.length
          · have hdd := decide_eq_true (show (kk : Int) + 1 < (lj.length : Int) by omega)
            obtain ⟨g, og, rfl, hgB, hgc⟩ := HBS.out.cells (bys_at (l := lj) (k := kk) (by omega))
            have hcap := HBS.out.cap
            dsimp only at hcap
            have HMID := Lib.hid (bs_mid HBS.out hlt2)
            have HDR := Lib.hid (drop2 hlt2)
            generalize lj[kk] = a at *
            generalize lj[kk + 1] = b' at *
            clear hgc
            have i2 : (kk : Int) + 2 ≤ (c' : Int) := by omega
            have i1 : (kk : Int) ≤ (kk : Int) + 2 := by omega
            have i3 : ((kk : Int) + 2).toNat = kk + 2 := by omega
            have i4 : (0 : Int) ≤ (kk : Int) := by omega
            have i5 : kk + 2 - kk = 2 := by omega
            have hN16 : a.toNat + 256 * b'.toNat < 65536 := by have := a.toNat_lt; have := b'.toNat_lt; omega
            have hlv : leVal [a, b'] = a.toNat + 256 * b'.toNat := by simp [leVal]
            have hlen2 : lj.length ≤ 255 := hlj
            have hw0 : IntKind.i64.wrap ((kk : Int) + 2) = (kk : Int) + 2 := IntWalk.i64_in _ (by omega)
            rw [if_neg (show ¬ c' = kk by omega)] at HMID
            have hsp2 := HSP.out
            rw [HDR.out] at hsp2
            have hsp3 : sh2 lj = pre ++ ((a.toNat + 256 * b'.toNat) :: sh2 (lj.drop (kk + 2))) := hsp2
            have CV := value_any [a, b'] (some ⟨g, og + kk, none⟩) (c' - kk) wr wr.heap.size HMID.out (by simp)
            rw [hlv] at CV
            generalize a.toNat + 256 * b'.toNat = N at *
            have HSP3 := Lib.hid hsp3
            have CV := Lib.hid CV
            have hw16 : IntKind.u16.wrap (N : Int) = (N : Int) := by rw [IntKind.wrap_u16]; omega
            clear hsp2 hsp3 hlv
            go_wp2_with fail
            refine CV.out.mono ?_
            rintro e w5 ⟨rfl, rfl⟩
            go_wp2_with (first
              | (at_builtin
                 refine app_sl _ elW rfl (.tmp 37) (.tmp 49) rfl rfl (HOX.out.alloc _) rfl (Sl.lit _ _ _ 1 rfl (by simp [maxLen])) ?_ ?_ ?_ ?_
                 (case refine_1 => intro u hu; simp at hu; rcases hu with rfl; rfl)
                 (case refine_2 => have := H255.out; have := HPL.out; have := HLE.out; omega)
                 (case refine_3 => exact Nat.le_trans zx (by simp))
                 intro v3 w3 hown3 hg3 _ _
                 have HB3 := Lib.hid (show Below w.heap.size w w3 from below_app (HBX.out.alloc zx _) (HOX.out.alloc _) hg3 (Nat.le_refl _) (Nat.le_trans zx (by simp)))
                 have HE3 := Lib.hid (OwnM.grown (OwnM.on HEX.out (al1 _ _)) (HOX.out.alloc _) (by decide) (by decide) hg3)
                 obtain ⟨A9, c9, rfl⟩ := own_form hown3
                 have HO3 := Lib.hid (show OW w3 w.heap.size (.slice A9 ((servA (es.take j)).length + pre.length + 1) c9) (servA (es.take j) ++ (pre ++ [N])) by
                   unfold OW
                   rw [← List.append_assoc, shs_append, show (servA (es.take j) ++ pre ++ [N]).length = (servA (es.take j)).length + pre.length + 1 by simp; omega]
                   exact hown3)
                 clear hown3 hg3))
            go_roundw
            case rel => exact ⟨pre ++ [N], kk + 2, by go_num, by omega, by rw [HSP3.out]; simp, by have := HPL.out; simp; omega, HO3.out, HB3.out, HE3.out⟩
            case measure => simp [intOf]; omega
          · have hdd := decide_eq_false (show ¬ (kk : Int) + 1 < (lj.length : Int) by omega)
            have HTT2 := Lib.hid (show servA (es.take (j + 1)) = servA (es.take j) ++ pre by
              rw [HTT.out, HSP.out, sh2_short (by simp; omega), List.append_nil])
            go_wp2_with fail
            go_roundw
            case rel => exact ⟨j + 1, by omega, by rw [IntWalk.wrap64_in ((j : Int) + 1) (by have := HLE.out; omega)]; go_num, by rw [HTT2.out]; unfold OW; rw [List.length_append]; exact HOX.out, by rw [HTT2.out]; have := H255.out; have := HPL.out; simp; omega, HBX.out, HEX.out⟩
            case measure => rw [IntWalk.wrap64_in ((j : Int) + 1) (by have := HLE.out; omega)]; simp [intOf]; omega
      · have hk' : (kj == 3) = false := by simpa using hk
        have HTT := Lib.hid (show servA (es.take (j + 1)) = servA (es.take j) by rw [HT.out]; simp [serv1, hk])
        clear hk
        go_wp2_with fail
        go_roundw
        case rel => exact ⟨j + 1, by omega, by rw [IntWalk.wrap64_in ((j : Int) + 1) (by have := HLE.out; omega)]; go_num, by rw [HTT.out]; exact HOW.out, by rw [HTT.out]; have := H255.out; omega, HBE.out, HEL.out⟩
        case measure => rw [IntWalk.wrap64_in ((j : Int) + 1) (by have := HLE.out; omega)]; simp [intOf]; omega
    · have hje : j = es.length := by omega
      subst hje
      rw [List.take_length] at *
      clear how hbel h255 hel
      go_wp2_with fail
      exact HQ.out _ _ ⟨HBE.out, _, rfl, Sl.of_own HOW.out⟩
end Go.Proofs.Ytncenlmfhnljgaa
