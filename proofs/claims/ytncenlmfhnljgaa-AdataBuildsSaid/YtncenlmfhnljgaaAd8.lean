/- Walks of the reference of adata: Decode. No condition. -/
import Derived.Test.YtncenlmfhnljgaaAd7
import Derived.Deep.RegionHeld3
namespace Go.Proofs.Ytncenlmfhnljgaa
open Go.RowKit

def lenV : Value → Nat
  | .slice _ n _ => n
  | _ => 0
/-- What the reference's Decode leaves: elements of its own. -/
def RADecPost (w : World) (l : List UInt8) (e : Ending) (w' : World) : Prop :=
  Below w.heap.size w w' ∧ ∃ v, e = .returned (.tuple #[v, .int .i64 (adE l)]) ∧ OwnEls w' w.heap.size v (adL l)
set_option maxRecDepth 100000 in
set_option maxHeartbeats 4000000 in
theorem radecode_own (v : Value) (l : List UInt8) (w : World) (hb : BS w w.heap.size v l) : Calls Try.prog 16 #[v] w (RADecPost w l) := by
  have HQ := Lib.hid (show ∀ (e : Ending) (w' : World), (Below w.heap.size w w' ∧ ∃ v, e = .returned (.tuple #[v, .int .i64 (adE l)]) ∧ OwnEls w' w.heap.size v (adL l)) → RADecPost w l e w' from fun _ _ h => h)
  generalize RADecPost w l = Q at *
  obtain ⟨A, c, rfl, _⟩ := id hb
  have HB := Lib.hid hb
  clear hb
  by_cases hlen : 31 < l.length
  · have h1 : decide ((31 : Int) < (l.length : Int)) = true := decide_eq_true (by omega)
    have HE := Lib.hid (show adE l = 4 by unfold adE; rw [if_pos hlen])
    have HL := Lib.hid (show adL l = [] by unfold adL; rw [HE.out]; rfl)
    go_enter Try.func16, Try.ntmps16
    go_wp2_with fail
    exact HQ.out _ _ ⟨Below.refl _ _, _, by rw [HE.out]; rfl, by rw [HL.out]; exact OwnM.nil _ _⟩
  · have h1 : decide ((31 : Int) < (l.length : Int)) = false := decide_eq_false (by omega)
    have HE := Lib.hid (show adE l = (elA l).2 by unfold adE; rw [if_neg hlen])
    have HL1 := Lib.hid (show (elA l).2 ≠ 0 → adL l = [] from fun h => by unfold adL; rw [HE.out, if_neg h])
    have HL0 := Lib.hid (show (elA l).2 = 0 → adL l = (elA l).1 from fun h => by unfold adL; rw [HE.out, if_pos h])
    generalize adE l = er at *
    generalize adL l = es at *
    have HLEN := Lib.hid (show l.length ≤ 31 by omega)
    have hwrap : ∀ x : UInt8, IntKind.i64.wrap (x.toNat : Int) = (x.toNat : Int) := fun x => wri64 (by have := x.toNat_lt; omega)
    have HW := Lib.hid hwrap
    clear hwrap hlen
    go_enter Try.func16, Try.ntmps16
    go_wp2_with fail
    go_loopw [0, 4] (fun u x wr => ∃ (pre : List (Int × List UInt8)) (rest : List UInt8), BS wr w.heap.size u rest ∧ OwnEls wr w.heap.size x pre ∧ Upto l pre rest ∧ Below w.heap.size w wr) (fun u _ _ => lenV u)
    case atStart => exact ⟨[], l, HB.out.below (al1 _ _), ⟨[], rfl, World.ownsRow_lit (base := w.heap.size) (e := 49) (size := 2) w #[] 0 (Nat.le_refl _) (by simp [maxLen]) rfl, fun _ _ _ h => by simp at h⟩, Upto.start l, al1 _ _⟩
    case round =>
      obtain ⟨pre, rest, hr, ho, hu, hbel⟩ := hrel
      obtain ⟨A0, c0, rfl, hnc, hcm, hcl, hcc⟩ := id hr
      obtain ⟨A4, c4, rfl⟩ := ho.form
      have HO := Lib.hid ho
      have HR := Lib.hid hr
      have HU := Lib.hid hu
      have HBE := Lib.hid hbel
      rcases rest with _ | ⟨n, r⟩
      · clear hr ho hu hbel hcc hcl hnc hcm
        go_wp2_with fail
        obtain ⟨u1, _⟩ := HU.out
        rw [elA_nil, List.append_nil] at u1
        refine HQ.out _ _ ⟨HBE.out, _, by rw [HE.out, u1]; rfl, ?_⟩
        rw [HL0.out (by rw [u1]), u1]
        exact HO.out
      · have hcc' : ∃ b off, A0 = some ⟨b, off, none⟩ ∧ b < w.heap.size ∧ ∀ (k : Nat) (u : Value), (bys (n :: r))[k]? = some u → wr.cell? ⟨b, off + k, none⟩ = some u := by
          rcases hcc with h | h
          · simp [bys] at h
          · exact h
        obtain ⟨b, off, rfl, hbB, hcell⟩ := hcc'
        have x0 : wr.cell? ⟨b, off, none⟩ = some (.int .u8 (n.toNat : Int)) := hcell 0 _ rfl
        have w0 := HW.out n
        have hbz : b < wr.heap.size := Nat.lt_of_lt_of_le hbB hbel.size
        simp only [List.length_cons] at hnc
        by_cases hn : n.toNat = 0
        · rw [hn] at x0 w0
          clear hr ho hu hbel hcc hcl hcell
          go_wp2_with fail
          obtain ⟨u1, _⟩ := HU.out
          rw [elA_zero hn] at u1
          have nz : (2 : Int) ≠ 0 := by decide
          exact HQ.out _ _ ⟨HBE.out, _, by rw [HE.out, u1]; rfl, by rw [HL1.out (by rw [u1]; exact nz)]; exact OwnM.nil _ _⟩
        · have hn1 : ((n.toNat : Int) == 0) = false := by simp; omega
          have n255 := n.toNat_lt
          have w2 : IntKind.i64.wrap (1 + (n.toNat : Int)) = 1 + (n.toNat : Int) := IntWalk.i64_in _ (by omega)
          by_cases hsh : r.length < n.toNat
          · have hsh' : decide ((r.length : Int) + 1 < 1 + (n.toNat : Int)) = true := decide_eq_true (by omega)
            clear hr ho hu hbel hcc hcl hcell
            go_wp2_with fail
            obtain ⟨u1, _⟩ := HU.out
            rw [elA_short hn hsh] at u1
            have nz : (3 : Int) ≠ 0 := by decide
            exact HQ.out _ _ ⟨HBE.out, _, by rw [HE.out, u1]; rfl, by rw [HL1.out (by rw [u1]; exact nz)]; exact OwnM.nil _ _⟩
          · have hr1 : 0 < r.length := by omega
            have x1 : wr.cell? ⟨b, off + 1, none⟩ = some (.int .u8 (r[0].toNat : Int)) := hcell 1 _ (bys_at (l := n :: r) (k := 1) (by simp; omega))
            have hsh' : decide ((r.length : Int) + 1 < 1 + (n.toNat : Int)) = false := decide_eq_false (by omega)
            have w1 := HW.out r[0]
            have hrd : r.getD 0 0 = r[0] := by rw [List.getD_eq_getElem?_getD, List.getElem?_eq_getElem hr1]; rfl
            have hmid : BS wr w.heap.size (.slice (if c0 = 2 then some ⟨b, off, none⟩ else some ⟨b, off + 2, none⟩) (n.toNat - 1) (c0 - 2)) ((r.take n.toNat).drop 1) := by
              have hfr := BS.front hr (k := 1 + n.toNat) (by simp; omega)
              have hl1 : ((n :: r).take (1 + n.toNat)).length = 1 + n.toNat := by rw [List.length_take]; simp; omega
              have hdq : ((n :: r).take (1 + n.toNat)).drop 2 = (r.take n.toNat).drop 1 := by rw [Nat.add_comm]; rfl
              generalize (n :: r).take (1 + n.toNat) = q at *
              rw [← hl1] at hfr
              have hct := hfr.cut (k := 2) (by rw [hl1]; omega)
              rw [hl1, hdq, show 1 + n.toNat - 2 = n.toNat - 1 by omega] at hct
              exact hct
            have HMID := Lib.hid hmid
            have HRD := Lib.hid hrd
            generalize r[0] = r0 at *
            clear hcc hcl hcell hr ho hu hbel hrd hmid
            have hvl : ((r.take n.toNat).drop 1).length = n.toNat - 1 := by rw [List.length_drop, List.length_take]; omega
            have hpl : pre.length < 32 := by have h1 := HU.out.2; have := HLEN.out; simp only [List.length_cons] at h1; omega
            generalize hvv : (r.take n.toNat).drop 1 = val at *
            generalize hmm : n.toNat = m at *
            have HVV := Lib.hid hvv
            have HMM := Lib.hid hmm
            have HVL := Lib.hid hvl
            clear hvv hmm hvl
            go_upto_region 10 with fail
            have i1 : (2 : Int) ≤ 1 + (m : Int) := by omega
            have i2 : 1 + (m : Int) ≤ (c0 : Int) := by omega
            have i3 : (1 + (m : Int)).toNat = 1 + m := by omega
            have i4 : (1 : Int) < (r.length : Int) + 1 := by omega
            have i5 : 1 + m - 2 = m - 1 := by omega
            obtain ⟨AA, hAA⟩ : ∃ AA, (if c0 = 2 then (some ⟨b, off, none⟩ : Option Addr) else some ⟨b, off + 2, none⟩) = AA := ⟨_, rfl⟩
            rw [hAA] at HMID
            have i6 : b < wr.heap.size := hbz
            refine wp_region_noPanic ?_
            refine wp_region_held_drew (S := fun w' => w'.cell? ⟨b, off + 1, none⟩ = some (.int .u8 (r0.toNat : Int)) ∧ b < w'.heap.size) (by kernel_rfl) (by go_keep) (fun hHeld => ?_)
            refine wpAnyH_take (i := 0) (v := ?_) rfl (by kernel_rfl) (by kernel_rfl) (by kernel_rfl) (fun _ _ _ h => h) (Or.inl ⟨by rfl, ?_⟩) (by assumption) ?_
            rotate_left
            · intro w hSw
              (try dsimp only at hSw)
              go_simp
              first | done | with_reducible rfl
            simp only [Act.put, List.getElem_toArray, List.getElem_cons_zero, List.setIfInBounds_toArray, List.set_cons_zero, List.set_cons_succ]
            refine wpAnyH_take (i := 1) (v := ?_) rfl (by kernel_rfl) (by kernel_rfl) (by kernel_rfl) (fun _ _ _ h => h) (Or.inl ⟨by rfl, ?_⟩) (by assumption) ?_
            rotate_left
            · intro w hSw
              (try dsimp only at hSw)
              go_simp
              first | done | with_reducible rfl
            simp only [Act.put, List.getElem_toArray, List.getElem_cons_succ, List.getElem_cons_zero, List.setIfInBounds_toArray, List.set_cons_zero, List.set_cons_succ]
            refine wpAnyH_take (i := 2) (v := ?_) rfl (by kernel_rfl) (by kernel_rfl) (by kernel_rfl) (fun _ _ _ h => h) (Or.inl ⟨by rfl, ?_⟩) (by assumption) ?_
            rotate_left
            · intro w hSw
              (try dsimp only at hSw)
              go_simp
              first | done | with_reducible rfl
            simp only [Act.put, List.getElem_toArray, List.getElem_cons_succ, List.getElem_cons_zero, List.setIfInBounds_toArray, List.set_cons_zero, List.set_cons_succ]
            refine wpAnyH_take (i := 3) (v := ?_) rfl (by kernel_rfl) (by kernel_rfl) (by kernel_rfl) (fun _ _ _ h => h) (Or.inl ⟨by rfl, ?_⟩) (by assumption) ?_
            rotate_left
            · intro w hSw
              (try dsimp only at hSw)
              go_simp
              first | done | with_reducible rfl
            simp only [Act.put, List.getElem_toArray, List.getElem_cons_succ, List.getElem_cons_zero, List.setIfInBounds_toArray, List.set_cons_zero, List.set_cons_succ]
            refine wpAnyH_take (i := 4) (v := ?_) rfl (by kernel_rfl) (by kernel_rfl) (by kernel_rfl) (fun _ _ _ h => h) (Or.inl ⟨by rfl, ?_⟩) (by assumption) ?_
            rotate_left
            · intro w hSw
              (try dsimp only at hSw)
              go_simp
              first | done | with_reducible rfl
            simp only [Act.put, List.getElem_toArray, List.getElem_cons_succ, List.getElem_cons_zero, List.setIfInBounds_toArray, List.set_cons_zero, List.set_cons_succ]
            refine wpAnyH_take (i := 6) (v := ?_) rfl (by kernel_rfl) (by kernel_rfl) (by kernel_rfl) (fun _ _ _ h => h) (Or.inl ⟨by rfl, ?_⟩) (by assumption) ?_
            rotate_left
            · intro w hSw
              (try dsimp only at hSw)
              go_simp
              first | done | with_reducible rfl
            simp only [Act.put, List.getElem_toArray, List.getElem_cons_succ, List.getElem_cons_zero, List.setIfInBounds_toArray, List.set_cons_zero, List.set_cons_succ]
            refine wpAnyH_take (i := 7) (v := ?_) rfl (by kernel_rfl) (by kernel_rfl) (by kernel_rfl) (fun _ _ _ h => h) (Or.inl ⟨by rfl, ?_⟩) (by assumption) ?_
            rotate_left
            · intro w hSw
              (try dsimp only at hSw)
              go_simp
              first | done | with_reducible rfl
            simp only [Act.put, List.getElem_toArray, List.getElem_cons_succ, List.getElem_cons_zero, List.setIfInBounds_toArray, List.set_cons_zero, List.set_cons_succ]
            refine wpAnyH_take (i := 8) (v := ?_) rfl (by kernel_rfl) (by kernel_rfl) (by kernel_rfl) (fun _ _ _ h => h) (Or.inl ⟨by rfl, ?_⟩) (by assumption) ?_
            rotate_left
            · intro w hSw
              (try dsimp only at hSw)
              go_simp
              first | done | with_reducible rfl
            simp only [Act.put, List.getElem_toArray, List.getElem_cons_succ, List.getElem_cons_zero, List.setIfInBounds_toArray, List.set_cons_zero, List.set_cons_succ]
            refine wpAnyH_take (i := 9) (v := ?_) rfl (by kernel_rfl) (by kernel_rfl) (by kernel_rfl) (fun _ _ _ h => h) (Or.inl ⟨by rfl, ?_⟩) (by assumption) ?_
            rotate_left
            · intro w hSw
              (try dsimp only at hSw)
              go_simp
              first | done | with_reducible rfl
            simp only [Act.put, List.getElem_toArray, List.getElem_cons_succ, List.getElem_cons_zero, List.setIfInBounds_toArray, List.set_cons_zero, List.set_cons_succ]
            refine wpAnyH_ready (rs := [5]) (by kernel_rfl) (by simp) ?_
            refine AllReadyH.cons rfl (fun K hK => ?_) AllReadyH.nil
            go_simp
            first | (refine hK.out _ _ ?_ (fun hHeld => ?_)) | (go_wp2_with fail; refine hK.out _ _ ?_ (fun hHeld => ?_))
            · (go_keep; try omega)
            clear hK K
            try simp only [Act.put, List.getElem_toArray, List.getElem_cons_succ, List.getElem_cons_zero, List.setIfInBounds_toArray, List.set_cons_zero, List.set_cons_succ]
            refine wpAnyH_ready (rs := [10]) (by kernel_rfl) (by simp) ?_
            refine AllReadyH.cons rfl (fun K hK => ?_) AllReadyH.nil
            refine step_by _ elB rfl (.tmp 29) (.tmp 33) rfl rfl (OB.nil _) rfl (HMID.out.below (((Below.refl _ _).drew).alloc HBE.out.size _)) (by have := HVL.out; simp; omega) (by simp) ?_
            intro v5 w5 hown5 hb5
            rw [List.nil_append] at hown5
            have hq5 : Below wr.heap.size wr w5 := (((Below.refl _ _).drew).alloc (Nat.le_refl _) _).trans hb5
            obtain ⟨A5, c5, rfl⟩ := own_form hown5
            have x5 : w5.cell? ⟨b, off + 1, none⟩ = some (.int .u8 (r0.toNat : Int)) := (hq5.cell (p := ⟨b, off + 1, none⟩) hbz).trans x1
            have z5 : b < w5.heap.size := Nat.lt_of_lt_of_le hbz hq5.size
            have y5 : wr.heap.size ≤ w5.heap.size := hq5.size
            refine hK.out _ _ ⟨x5, z5⟩ (fun hHeld => ?_)
            clear hK K
            simp only [Act.put, List.getElem_toArray, List.getElem_cons_succ, List.getElem_cons_zero, List.setIfInBounds_toArray, List.set_cons_zero, List.set_cons_succ]
            obtain ⟨vs, k1, k2, k3⟩ := HO.out.on hq5
            have HK1 := Lib.hid k1
            have HK2 := Lib.hid k2
            have HK3 := Lib.hid k3
            have HOB5 := Lib.hid (own_base hown5 HBE.out.size)
            have HQ5 := Lib.hid hq5
            clear k1 k2 k3 hown5 hb5 hq5
            refine wpAnyH_take (i := 11) (v := ?_) rfl (by kernel_rfl) (by kernel_rfl) (by kernel_rfl) (fun _ _ _ h => h) (Or.inl ⟨by rfl, ?_⟩) (by assumption) ?_
            rotate_left
            · intro w hSw
              (try dsimp only at hSw)
              go_simp
              first | done | with_reducible rfl
            simp only [Act.put, List.getElem_toArray, List.getElem_cons_succ, List.getElem_cons_zero, List.setIfInBounds_toArray, List.set_cons_zero, List.set_cons_succ]
            refine wpAnyH_ready (rs := [12]) (by kernel_rfl) (by simp) ?_
            refine AllReadyH.cons rfl (fun K hK => ?_) AllReadyH.nil
            go_simp
            first | (refine hK.out _ _ ?_ (fun hHeld => ?_)) | (go_wp2_with fail; refine hK.out _ _ ?_ (fun hHeld => ?_))
            · (go_keep; try omega)
            clear hK K
            try simp only [Act.put, List.getElem_toArray, List.getElem_cons_succ, List.getElem_cons_zero, List.setIfInBounds_toArray, List.set_cons_zero, List.set_cons_succ]
            refine wpAnyH_ready (rs := [13]) (by kernel_rfl) (by simp) ?_
            refine AllReadyH.cons rfl (fun K hK => ?_) AllReadyH.nil
            refine step_sl _ elE rfl (.tmp 24) (.tmp 36) rfl rfl (HK2.out.alloc _) rfl (Sl.lit _ _ _ 1 rfl (by simp [maxLen])) ?_ ?_ ?_ ?_
            · intro u hu; simp at hu; rcases hu with rfl | rfl <;> rfl
            · have := hpl; omega
            · exact Nat.le_trans (Nat.le_trans HBE.out.size y5) (by simp)
            intro v9 w9 hown9 hg9 _ _
            have hb9 : Below w.heap.size w5 w9 := below_app ((Below.refl _ _).alloc (Nat.le_trans HBE.out.size y5) _) (HK2.out.alloc _) hg9 (Nat.le_refl _) (Nat.le_trans (Nat.le_trans HBE.out.size y5) (by simp))
            have x9 : w9.cell? ⟨b, off + 1, none⟩ = some (.int .u8 (r0.toNat : Int)) := (hb9.cell (p := ⟨b, off + 1, none⟩) hbB).trans x5
            have z9 : b < w9.heap.size := Nat.lt_of_lt_of_le z5 hb9.size
            obtain ⟨A6, c6, rfl⟩ := own_form hown9
            refine hK.out _ _ ⟨x9, z9⟩ (fun hHeld => ?_)
            clear hK K
            simp only [Act.put, List.getElem_toArray, List.getElem_cons_succ, List.getElem_cons_zero, List.setIfInBounds_toArray, List.set_cons_zero, List.set_cons_succ]
            have hO : OwnEls w9 w.heap.size (.slice A6 (pre.length + 1) c6) (pre ++ [((r0.toNat : Int), val)]) :=
              ownM_snoc (w := w5.alloc (.cells #[.int .i64 (r0.toNat : Int), .slice A5 val.length c5] 49)) (vs := vs) (u := .slice A5 val.length c5) HK1.out rfl (by decide) (HK2.out.alloc _) (fun i p u hp hu => (HK3.out i p u hp hu).alloc _) (HOB5.out.alloc _) hown9 hg9
            have HO9 := Lib.hid hO
            have HB9 := Lib.hid ((HBE.out.trans (HQ5.out.mono HBE.out.size)).trans hb9)
            have HB59 := Lib.hid hb9
            clear hO hb9 hown9 hg9
            refine wpAnyH_take (i := 14) (v := ?_) rfl (by kernel_rfl) (by kernel_rfl) (by kernel_rfl) (fun _ _ _ h => h) (Or.inl ⟨by rfl, ?_⟩) (by assumption) ?_
            rotate_left
            · intro w hSw
              (try dsimp only at hSw)
              go_simp
              first | done | with_reducible rfl
            simp only [Act.put, List.getElem_toArray, List.getElem_cons_succ, List.getElem_cons_zero, List.setIfInBounds_toArray, List.set_cons_zero, List.set_cons_succ]
            refine wpAnyH_done (by kernel_rfl) ?_ _
            refine NoPanic.normal ?_
            have j1 : 0 ≤ 1 + (m : Int) := by omega
            have j2 : 1 + (m : Int) ≤ (r.length : Int) + 1 := by omega
            clear x0 x1 x5 x9 z5 z9 y5 i1 i5
            go_wp2_with fail
            go_roundw
            case rel =>
              have hbs := (HR.out.below (((HQ5.out.mono HBE.out.size).trans (show Below w.heap.size w5 w9 from HB59.out)))).cut (k := 1 + m) (by simp; omega)
              rw [show (n :: r).drop (1 + m) = r.drop m by rw [Nat.add_comm]; rfl] at hbs
              have hup := HU.out.one (by rw [HMM.out]; exact hn) (by rw [HMM.out]; exact hsh)
              rw [HRD.out, HMM.out, HVV.out] at hup
              exact ⟨_, r.drop m, hbs, HO9.out, hup, HB9.out⟩
            case measure => simp [lenV]; omega
theorem radecode_any (v : Value) (l : List UInt8) (w : World) (hb : BS w w.heap.size v l) : Calls Try.prog 16 #[v] w (ADecPost w l) :=
  (radecode_own v l w hb).mono fun _ _ ⟨h1, u, h2, h3⟩ => ⟨h1, u, h2, h3.reads⟩
end Go.Proofs.Ytncenlmfhnljgaa
