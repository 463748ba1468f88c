/- Walks of package smpdu: Decode, a kind that there is. -/
import Derived.Test.YtpomobeogkfmfaaDoorSec10b
namespace Go.Proofs.YtpomobeogkfmfaaDoor
open Go.RowKit

set_option maxRecDepth 100000 in
set_option maxHeartbeats 40000000 in
theorem sdecode_yes (a : UInt8) (r : List UInt8) (v : Value) (hl : (a :: r).length ≤ 140737488355328) (h : hasK (a.toNat : Int) = true) (w : World) (hb : BS w w.heap.size v (a :: r)) (hT : PTab w) : Calls Tryd.prog 37 #[v] w (SDecPost w (a :: r)) := by
  obtain ⟨b, o, c, rfl, hB, hn, hcm, d0⟩ := hb.at_ (bys_at (k := 0) (by simp))
  have hB' : b < w.heap.size + 1 := by omega
  have hlt := a.toNat_lt
  have d0' : w.cell? ⟨b, o, none⟩ = some (.int .u8 (a.toNat : Int)) := d0
  have hwr := wri64 (show a.toNat ≤ 9223372036854775807 by omega)
  have C := Lib.hid (used_yes (kindP (a.toNat : Int)) h)
  obtain ⟨so1, so2, so3, so4⟩ := siz_ok h
  have CS := Lib.hid (sizes_any (a.toNat : Int) h)
  have HCUT := Lib.hid (show BS w w.heap.size (.slice (if c = 1 then some ⟨b, o, none⟩ else some ⟨b, o + 1, none⟩) r.length (c - 1)) r from hb.cut (k := 1) (by simp))
  have hrl : (a :: r).length = r.length + 1 := rfl
  have CT := Lib.hid (show ∀ (W : World) (u : Value), Below w.heap.size w W → Sl W W.heap.size 1 u (sizK (a.toNat : Int)).length (ints (sizK (a.toNat : Int))) → Calls Tryd.prog 50 #[.slice (if c = 1 then some ⟨b, o, none⟩ else some ⟨b, o + 1, none⟩) r.length (c - 1), u] W (TakePost W r (sizK (a.toNat : Int))) from
    fun W u hW hu => take_v _ u r _ (HCUT.out.on hW) hu (by omega) (by omega))
  have HL := Lib.hid (show decSE (a :: r) = if (r.length : Int) < lenK (a.toNat : Int) - 1 then 3 else if lenK (a.toNat : Int) - 1 < (r.length : Int) then 2 else if badF (a.toNat : Int) r = true then 2 else chkS (decP (a.toNat : Int) r) by
    unfold decSE
    rw [if_neg (by simp), if_neg (by simpa [nB] using h)]
    show (if ((r.length + 1 : Nat) : Int) < lenK (a.toNat : Int) then 3 else if lenK (a.toNat : Int) < ((r.length + 1 : Nat) : Int) then 2 else if badF (a.toNat : Int) r = true then 2 else chkS (decP (a.toNat : Int) r)) = _
    by_cases h1 : ((r.length + 1 : Nat) : Int) < lenK (a.toNat : Int)
    · rw [if_pos h1, if_pos (show (r.length : Int) < lenK (a.toNat : Int) - 1 by omega)]
    · rw [if_neg h1, if_neg (show ¬ (r.length : Int) < lenK (a.toNat : Int) - 1 by omega)]
      by_cases h2 : lenK (a.toNat : Int) < ((r.length + 1 : Nat) : Int)
      · rw [if_pos h2, if_pos (show lenK (a.toNat : Int) - 1 < (r.length : Int) by omega)]
      · rw [if_neg h2, if_neg (show ¬ lenK (a.toNat : Int) - 1 < (r.length : Int) by omega)])
  have HD := Lib.hid (show decS (a :: r) = if decSE (a :: r) = 0 then decP (a.toNat : Int) r else sec0 from rfl)
  have HTK := Lib.hid (show takeE r (sizK (a.toNat : Int)) = if (r.length : Int) < lenK (a.toNat : Int) - 1 then 3 else 0 by
    unfold takeE
    rw [if_pos so1]
    by_cases h1 : (r.length : Int) < lenK (a.toNat : Int) - 1
    · rw [if_pos h1, if_pos (by omega)]
    · rw [if_neg h1, if_neg (by omega)])
  have HH := Lib.hid h
  have HT := Lib.hid hT
  generalize a.toNat = k at *
  generalize hss : sizK (k : Int) = ss at *
  have HSS := Lib.hid hss
  clear h hb d0 hT hss so1
  generalize hN : (a :: r).length = N at *
  have hN0 : 0 < N := by rw [← hN]; simp
  unfold maxLen at hcm
  clear hN
  go_enter Tryd.func37, Tryd.ntmps37
  go_wp2_with fail
  refine (C.out _).mono ?_
  rintro e w1 ⟨rfl, hb1⟩
  have hs := ((SecAt.new w sec0 53).keep (al1 _ (.cells (secV (kindP k)).cells 53)) (by simp)).keep hb1 (by simp; omega)
  have hf := ((Froz.new w (secV sec0).cells 53).keep (al1 _ (.cells (secV (kindP k)).cells 53)) (by simp)).keep hb1 (by simp; omega)
  have hs' : SecAt w1 (w.heap.size + 1) (kindP k) := by
    have h1 := (SecAt.new (w.alloc (.cells (secV sec0).cells 53)) (kindP k) 53)
    rw [show (w.alloc (.cells (secV sec0).cells 53)).heap.size = w.heap.size + 1 by simp] at h1
    exact h1.keep hb1 (by simp)
  have hf' : Froz w1 (w.heap.size + 1) := by
    have h1 := Froz.new (w.alloc (.cells (secV sec0).cells 53)) (secV (kindP k)).cells 53
    rw [show (w.alloc (.cells (secV sec0).cells 53)).heap.size = w.heap.size + 1 by simp] at h1
    exact h1.keep hb1 (by simp)
  have hz := sec_lt hs'
  have c0 : w1.cell? ⟨w.heap.size + 1, 0, none⟩ = some (.int .i64 (k : Int)) := hs'.cells.1
  have HB1 := Lib.hid (two hb1)
  generalize usedS (kindP k) = u at *
  go_upto_region 7 with fail
  have hW : ∃ W : World, W = w1.alloc (.cells #[.int .i64 u.kind, .int .i64 u.io, .bool u.oob, .bool u.bond, .bool u.mitm, .bool u.send, .bool u.take, .int .u32 (u.pub : Int), .int .u64 (u.val : Int), .int .i64 u.ak, .int .u64 (u.ax : Int), .int .u64 (u.irk : Int), .int .i64 u.rsn] 53) := ⟨_, rfl⟩
  obtain ⟨W, hW⟩ := hW
  rw [← hW]
  have BW0 : Below w1.heap.size w1 W := by rw [hW]; exact al1 _ _
  have HS0 := Lib.hid (hs.keep BW0 (by omega))
  have HF0 := Lib.hid (hf.keep BW0 (by omega))
  have HS1 := Lib.hid (hs'.keep BW0 hz)
  have HF1 := Lib.hid (hf'.keep BW0 hz)
  have c0W : W.cell? ⟨w.heap.size + 1, 0, none⟩ = some (.int .i64 (k : Int)) := HS1.out.cells.1
  have hzW : w.heap.size + 1 < W.heap.size := by have := BW0.size; omega
  have BW := Lib.hid (bthen HB1.out BW0)
  clear BW0 hs hf hs' hf' hb1 c0 hz hW HB1
  go_cut [7, 8, 9] (fun t7 t8 t9 wx => ∃ (bx : Nat) (A : Option Addr) (n c' : Nat), t7 = .pointer (some ⟨bx, 0, none⟩) ∧ t8 = .slice A n c' ∧ t9 = .int .i64 (takeE r ss) ∧ Below W.heap.size W wx ∧ (takeE r ss = 0 → n = (r.drop (offs ss ss.length)).length ∧ NBox W.heap.size wx bx (takeV r ss ss.length)))
  case first =>
    have hN1 : (1 : Int) ≤ (N : Int) := by omega
    have hNc : (N : Int) ≤ (c : Int) := by omega
    have hN2 : (1 : Int) ≤ (r.length : Int) + 1 := by omega
    have hN3 : (r.length : Int) + 1 ≤ (c : Int) := by omega
    have h1c : (1 : Int) ≤ (c : Int) := by omega
    have CX : ∃ AA, (if c = 1 then some (⟨b, o, none⟩ : Addr) else some ⟨b, o + 1, none⟩) = AA := ⟨_, rfl⟩
    obtain ⟨AA, hAA⟩ := CX
    have CT1 := CT.out
    rw [hAA] at CT1
    clear CT HCUT
    rcases Nat.decEq c 1 with hc1 | hc1
    rw [if_neg hc1] at hAA
    have CTA := Lib.hid CT1
    rotate_left
    rw [if_pos hc1] at hAA
    subst hc1
    obtain rfl : r = [] := List.eq_nil_of_length_eq_zero (by omega)
    have CTA := Lib.hid (show ∀ (W : World) (u : Value), Below w.heap.size w W → Sl W W.heap.size 1 u ss.length (ints ss) → Calls Tryd.prog 50 #[.slice AA 0 0, u] W (TakePost W [] ss) from CT1)
    rotate_left
    all_goals
     clear CT1
     subst hAA
     go_region_held3 (fun w' => w'.cell? ⟨w.heap.size + 1, 0, none⟩ = some (.int .i64 (k : Int))) (go_keep)
      (first
        | (go_at_call 59; refine (CS.out _).mono ?_; rintro e w2 ⟨hb2, vs, rfl, hown2⟩
           have hc2 := bfar W.heap.size hb2 (by simp)
           have hz2 : W.heap.size ≤ w2.heap.size := (by have := hb2.size; simp at this; omega)
           have hB2 : Below W.heap.size W w2 := (by first | exact ((Below.refl _ _).drew).trans (hb2.mono (by simp)) | exact (((Below.refl _ _).drew).alloc (Nat.le_refl _) _).trans (hb2.mono (by simp)) | exact ((al1 _ _).drew).trans (hb2.mono (by simp))))
        | (go_at_call 50; have q2 := blow hb2 W.heap.size 0 (by simp); have qf := blowf hb2 W.heap.size 0 (by simp); have qz : W.heap.size < w2.heap.size := (by have := hb2.size; simp at this; omega)
           refine (CTA.out _ _ ?_ ?_).mono ?_
           exact bthen BW.out hB2
           exact Sl.of_own hown2
           intro e w3 hh
           obtain ⟨hb3, X3, m3, x3, A3, n3, c3, rfl, h3⟩ := take_form hh
           have q3 : w3.cell? ⟨W.heap.size, 0, none⟩ = some (.slice none 0 0) := ((blow hb3 W.heap.size 0 qz).trans q2).trans (by simp [go_sem]); have qf3 : w3.frozen? ⟨W.heap.size, 0, none⟩ = false := ((blowf hb3 W.heap.size 0 qz).trans qf).trans (by simp [go_sem]); have qz3 : W.heap.size < w3.heap.size := (Nat.lt_of_lt_of_le qz hb3.size); have hne : ¬ W.heap.size = w.heap.size + 1 := (by omega)
           have hB3 : Below W.heap.size W w3 := hB2.trans (hb3.mono hz2)
           have hc3 := bfar W.heap.size hb3 (by exact hz2))
        | (go_at_call 50; have q2 : True := trivial
           refine (CTA.out _ _ ?_ ?_).mono ?_
           exact (bthen BW.out hB2).alloc (bthen BW.out hB2).size _
           exact (Sl.of_own hown2).on (al1 _ _)
           intro e w3 hh
           obtain ⟨hb3, X3, m3, x3, A3, n3, c3, rfl, h3⟩ := take_form hh
           have q3 : w3.cell? ⟨w2.heap.size, 0, none⟩ = some (.slice none 0 0) := (blow hb3 w2.heap.size 0 (by simp)).trans (by simp [go_sem]); have qf3 : w3.frozen? ⟨w2.heap.size, 0, none⟩ = false := (blowf hb3 w2.heap.size 0 (by simp)).trans (by simp [go_sem]); have qz3 : w2.heap.size < w3.heap.size := sz1 hb3; have hne : ¬ w2.heap.size = w.heap.size + 1 := (by omega)
           have hB3 : Below W.heap.size W w3 := (hB2.alloc hz2 _).trans (hb3.mono (by simp; omega))
           have hc3 := bfar W.heap.size hb3 (by simp; omega))
        | (go_at_call 50; have q2 : True := trivial
           refine (CTA.out _ _ ?_ ?_).mono ?_
           exact bthen BW.out hB2
           exact Sl.of_own hown2
           intro e w3 hh
           obtain ⟨hb3, X3, m3, x3, A3, n3, c3, rfl, h3⟩ := take_form hh
           have q3 : True := trivial
           have hB3 : Below W.heap.size W w3 := hB2.trans (hb3.mono hz2)
           have hc3 := bfar W.heap.size hb3 (by exact hz2)))
    all_goals
      have HB3 := Lib.hid hB3
      have HH3 := Lib.hid h3
      clear hb2 hown2 hc2 hB2 hc3
      clear hb3 hB3 h3
      go_wp2
      go_meet
    all_goals
      refine ⟨_, A3, n3, c3, rfl, rfl, rfl, ?_, fun h0 => ⟨(HH3.out h0).1, ?_⟩⟩
      · first | exact HB3.out.alloc HB3.out.size _ | exact HB3.out.setCell (Nat.le_refl _) _ | exact HB3.out.setCell hz2 _
      · have h4 := (HH3.out h0).2
        first
          | exact nbox_new (takeV_length _ _ _) h4 (by rw [takeV_length]; exact so3) hz2
          | exact nbox_own (takeV_length _ _ _) h4 (by rw [takeV_length]; exact so3) (Nat.le_refl _) qz q3 qf3
          | exact nbox_own (takeV_length _ _ _) h4 (by rw [takeV_length]; exact so3) hz2 (by simp) q3 qf3
  case rest =>
    obtain ⟨bx, A, n, c', rfl, rfl, rfl, hbx, hok⟩ := hcut
    have HSC0 := Lib.hid (HS0.out.keep hbx (by omega))
    have HFC0 := Lib.hid (HF0.out.keep hbx (by omega))
    have HSC1 := Lib.hid (HS1.out.keep hbx hzW)
    have HFC1 := Lib.hid (HF1.out.keep hbx hzW)
    have HBC := Lib.hid (bthen BW.out hbx)
    have hzc : w.heap.size + 1 < wc.heap.size := by have := hbx.size; omega
    clear hbx c0W HS0 HF0 HS1 HF1 CT HCUT d0' hN0 hn
    by_cases hsh : (r.length : Int) < lenK (k : Int) - 1
    · have ht : takeE r ss = 3 := by rw [HTK.out, if_pos hsh]
      have hE := HL.out
      rw [if_pos hsh] at hE
      have HE := Lib.hid hE
      rw [ht]
      clear hok ht hE hsh
      obtain ⟨c0, c1, c2, c3, c4, c5, c6, c7, c8, c9, c10, c11, c12⟩ := HSC0.out.cells
      obtain ⟨f0, f1, f2, f3, f4, f5, f6, f7, f8, f9, f10, f11, f12⟩ := HFC0.out.all
      go_wp2_with fail
      refine bodyPost_ret (res_sec rfl _ _ w.heap.size sec0 rfl ?_) rfl ⟨?_, ?_⟩
      · exact sec_put sec0 HSC0.out
      · rw [HD.out, HE.out]; rfl
      · exact below_put sec0 HBC.out (Nat.le_refl _)
    have ht : takeE r ss = 0 := by rw [HTK.out, if_neg hsh]
    obtain ⟨hn0, hnb⟩ := hok ht
    rw [ht]
    rw [List.length_drop] at hn0
    by_cases hlg : lenK (k : Int) - 1 < (r.length : Int)
    · have hE := HL.out
      rw [if_neg hsh, if_pos hlg] at hE
      have HE := Lib.hid hE
      have hn1 : 0 < n := by omega
      clear hok ht hE hsh hlg hnb hn0
      obtain ⟨c0, c1, c2, c3, c4, c5, c6, c7, c8, c9, c10, c11, c12⟩ := HSC0.out.cells
      obtain ⟨f0, f1, f2, f3, f4, f5, f6, f7, f8, f9, f10, f11, f12⟩ := HFC0.out.all
      go_wp2_with fail
      refine bodyPost_ret (res_sec rfl _ _ w.heap.size sec0 rfl ?_) rfl ⟨?_, ?_⟩
      · exact sec_put sec0 HSC0.out
      · rw [HD.out, HE.out]; rfl
      · exact below_put sec0 HBC.out (Nat.le_refl _)
    obtain rfl : n = 0 := by omega
    have hrl : (r.length : Int) = lenK (k : Int) - 1 := by omega
    have hE := HL.out
    rw [if_neg hsh, if_neg hlg] at hE
    have HE := Lib.hid hE
    have HNB := Lib.hid hnb
    have HRL := Lib.hid hrl
    have c0 := HSC1.out.cells.1
    have hbw : W.heap.size ≤ bx := HNB.out.2.1
    clear hok ht hE hsh hlg hnb hn0 hrl so2 so3 so4 HTK HL CS
    have hmf : ∀ (fn : Fn) (first cap : Array Value) (w : World), (Instr.makeFunc fn first cap).run Tryd.prog w = .ok (.func fn first cap) w := fun _ _ _ _ => rfl
    obtain ⟨W2, rfl⟩ : ∃ W2 : World, W2 = wc := ⟨_, rfl⟩
    go_upto_block 1 with fail
    go_cut [] (fun wx => Below (w.heap.size + 1) W2 wx ∧ badF (k : Int) r = false ∧ SecAt wx (w.heap.size + 1) (decP (k : Int) r))
    case first =>
      have hk := hasK_yes HH.out
      rcases hk with hk | hk | hk | hk | hk | hk | hk | hk | hk
      · obtain rfl : k = 1 := by omega
        clear hk
        obtain rfl := HSS.out
        have hr : r.length = 2 := by have := HRL.out; have e : lenK ((1 : Nat) : Int) = 3 := rfl; omega
        have hx0 := nB_lt r 0
        have hx1 := nB_lt r 1
        have NB0 := Lib.hid (show NBox W.heap.size W2 bx [nB r 0, nB r 1] by
          have h := HNB.out
          match r, hr with
          | [y, z], _ =>
            have e : takeV [y, z] (sizK ((1 : Nat) : Int)) (sizK ((1 : Nat) : Int)).length = [nB [y, z] 0, nB [y, z] 1] := by
              show [leVal [y], leVal [z]] = [y.toNat, z.toNat]
              rw [leVal_one, leVal_one]
            rwa [e] at h)
        have HBF := Lib.hid (show badF ((1 : Nat) : Int) r = decide (31 < nB r 1) from rfl)
        have HDP := Lib.hid (show decP ((1 : Nat) : Int) r = ⟨((1 : Nat) : Int), (nB r 0 : Int), bitN (nB r 1) 0, bitN (nB r 1) 1, bitN (nB r 1) 2, bitN (nB r 1) 3, bitN (nB r 1) 4, 0, 0, 0, 0, 0, 0⟩ from rfl)
        have h31 := not_31 ⟨nB r 1, hx1⟩
        simp only at h31
        generalize nB r 0 = x0 at *
        generalize nB r 1 = x1 at *
        have hw0 := wri64 (show x0 ≤ 9223372036854775807 by omega)
        have HR := Lib.hid hr
        clear HNB HRL hr
        go_wp2_with (go_at_call 61; fail)
        refine (next_any _ bx x0 [x1] _ NB0.out).mono ?_
        rintro e w4 ⟨rfl, nb4, hb4⟩
        have NB4 := Lib.hid nb4
        have HX4 := Lib.hid hb4
        clear nb4 hb4
        go_wp2_with (go_at_call 61; fail)
        refine (next_any _ bx x1 [] _ NB4.out).mono ?_
        rintro e w5 ⟨rfl, nb5, hb5⟩
        have NB5 := Lib.hid nb5
        have HX5 := Lib.hid hb5
        clear nb5 hb5
        have hlt4 := NB4.out.lt
        have hlt5 := NB5.out.lt
        by_cases hbad : 31 < x1
        · rw [decide_eq_true hbad] at h31
          have hs := ((((HSC0.out).keep HX4.out (by omega))).keep HX5.out (by omega))
          have hf := ((((HFC0.out).keep HX4.out (by omega))).keep HX5.out (by omega))
          have HSX := Lib.hid hs
          obtain ⟨c0, c1, c2, c3, c4, c5, c6, c7, c8, c9, c10, c11, c12⟩ := hs.cells
          obtain ⟨f0, f1, f2, f3, f4, f5, f6, f7, f8, f9, f10, f11, f12⟩ := hf.all
          have hz0 := sec_lt hs
          clear hs hf
          go_wp2_with fail
          refine bodyPost_ret (res_sec rfl _ _ w.heap.size sec0 rfl ?_) rfl ⟨?_, ?_⟩
          · exact sec_put sec0 HSX.out
          · rw [HD.out, HE.out, HBF.out, if_pos (decide_eq_true hbad)]; rfl
          · exact below_put sec0 ((HBC.out.trans (HX4.out.mono (by omega))).trans (HX5.out.mono (by omega))) (Nat.le_refl _)
        · rw [decide_eq_false hbad] at h31
          have hx32 : x1 < 32 := by omega
          have CF := Lib.hid (features_any x1 hx32)
          generalize bitN x1 0 = g0 at *
          generalize bitN x1 1 = g1 at *
          generalize bitN x1 2 = g2 at *
          generalize bitN x1 3 = g3 at *
          generalize bitN x1 4 = g4 at *
          go_wp2_with fail
          refine (CF.out _).mono ?_
          rintro e w6 ⟨rfl, hb6⟩
          have HX6 := Lib.hid hb6
          clear hb6
          have hs := ((((((HSC1.out).keep HX4.out (by omega))).keep HX5.out (by omega))).keep HX6.out (by omega))
          have hf := ((((((HFC1.out).keep HX4.out (by omega))).keep HX5.out (by omega))).keep HX6.out (by omega))
          have HSX := Lib.hid hs
          obtain ⟨c0, c1, c2, c3, c4, c5, c6, c7, c8, c9, c10, c11, c12⟩ := hs.cells
          obtain ⟨f0, f1, f2, f3, f4, f5, f6, f7, f8, f9, f10, f11, f12⟩ := hf.all
          have hz1 := sec_lt hs
          clear hs hf
          go_wp2
          go_meet
          refine ⟨?_, by rw [HBF.out]; exact decide_eq_false hbad, ?_⟩
          · repeat refine Below.setCell ?_ (by show _ ≤ w.heap.size + 1; omega) _
            exact ((HX4.out.mono (by omega)).trans (HX5.out.mono (by omega))).trans (HX6.out.mono (by omega))
          · rw [HDP.out]
            exact sec_io (sec_feat HSX.out 0 g0 g1 g2 g3 g4) x0
      · obtain rfl : k = 2 := by omega
        clear hk
        obtain rfl := HSS.out
        have hr : r.length = 2 := by have := HRL.out; have e : lenK ((2 : Nat) : Int) = 3 := rfl; omega
        have hx0 := nB_lt r 0
        have hx1 := nB_lt r 1
        have NB0 := Lib.hid (show NBox W.heap.size W2 bx [nB r 0, nB r 1] by
          have h := HNB.out
          match r, hr with
          | [y, z], _ =>
            have e : takeV [y, z] (sizK ((2 : Nat) : Int)) (sizK ((2 : Nat) : Int)).length = [nB [y, z] 0, nB [y, z] 1] := by
              show [leVal [y], leVal [z]] = [y.toNat, z.toNat]
              rw [leVal_one, leVal_one]
            rwa [e] at h)
        have HBF := Lib.hid (show badF ((2 : Nat) : Int) r = decide (31 < nB r 1) from rfl)
        have HDP := Lib.hid (show decP ((2 : Nat) : Int) r = ⟨((2 : Nat) : Int), (nB r 0 : Int), bitN (nB r 1) 0, bitN (nB r 1) 1, bitN (nB r 1) 2, bitN (nB r 1) 3, bitN (nB r 1) 4, 0, 0, 0, 0, 0, 0⟩ from rfl)
        have h31 := not_31 ⟨nB r 1, hx1⟩
        simp only at h31
        generalize nB r 0 = x0 at *
        generalize nB r 1 = x1 at *
        have hw0 := wri64 (show x0 ≤ 9223372036854775807 by omega)
        have HR := Lib.hid hr
        clear HNB HRL hr
        go_wp2_with (go_at_call 61; fail)
        refine (next_any _ bx x0 [x1] _ NB0.out).mono ?_
        rintro e w4 ⟨rfl, nb4, hb4⟩
        have NB4 := Lib.hid nb4
        have HX4 := Lib.hid hb4
        clear nb4 hb4
        go_wp2_with (go_at_call 61; fail)
        refine (next_any _ bx x1 [] _ NB4.out).mono ?_
        rintro e w5 ⟨rfl, nb5, hb5⟩
        have NB5 := Lib.hid nb5
        have HX5 := Lib.hid hb5
        clear nb5 hb5
        have hlt4 := NB4.out.lt
        have hlt5 := NB5.out.lt
        by_cases hbad : 31 < x1
        · rw [decide_eq_true hbad] at h31
          have hs := ((((HSC0.out).keep HX4.out (by omega))).keep HX5.out (by omega))
          have hf := ((((HFC0.out).keep HX4.out (by omega))).keep HX5.out (by omega))
          have HSX := Lib.hid hs
          obtain ⟨c0, c1, c2, c3, c4, c5, c6, c7, c8, c9, c10, c11, c12⟩ := hs.cells
          obtain ⟨f0, f1, f2, f3, f4, f5, f6, f7, f8, f9, f10, f11, f12⟩ := hf.all
          have hz0 := sec_lt hs
          clear hs hf
          go_wp2_with fail
          refine bodyPost_ret (res_sec rfl _ _ w.heap.size sec0 rfl ?_) rfl ⟨?_, ?_⟩
          · exact sec_put sec0 HSX.out
          · rw [HD.out, HE.out, HBF.out, if_pos (decide_eq_true hbad)]; rfl
          · exact below_put sec0 ((HBC.out.trans (HX4.out.mono (by omega))).trans (HX5.out.mono (by omega))) (Nat.le_refl _)
        · rw [decide_eq_false hbad] at h31
          have hx32 : x1 < 32 := by omega
          have CF := Lib.hid (features_any x1 hx32)
          generalize bitN x1 0 = g0 at *
          generalize bitN x1 1 = g1 at *
          generalize bitN x1 2 = g2 at *
          generalize bitN x1 3 = g3 at *
          generalize bitN x1 4 = g4 at *
          go_wp2_with fail
          refine (CF.out _).mono ?_
          rintro e w6 ⟨rfl, hb6⟩
          have HX6 := Lib.hid hb6
          clear hb6
          have hs := ((((((HSC1.out).keep HX4.out (by omega))).keep HX5.out (by omega))).keep HX6.out (by omega))
          have hf := ((((((HFC1.out).keep HX4.out (by omega))).keep HX5.out (by omega))).keep HX6.out (by omega))
          have HSX := Lib.hid hs
          obtain ⟨c0, c1, c2, c3, c4, c5, c6, c7, c8, c9, c10, c11, c12⟩ := hs.cells
          obtain ⟨f0, f1, f2, f3, f4, f5, f6, f7, f8, f9, f10, f11, f12⟩ := hf.all
          have hz1 := sec_lt hs
          clear hs hf
          go_wp2
          go_meet
          refine ⟨?_, by rw [HBF.out]; exact decide_eq_false hbad, ?_⟩
          · repeat refine Below.setCell ?_ (by show _ ≤ w.heap.size + 1; omega) _
            exact ((HX4.out.mono (by omega)).trans (HX5.out.mono (by omega))).trans (HX6.out.mono (by omega))
          · rw [HDP.out]
            exact sec_io (sec_feat HSX.out 0 g0 g1 g2 g3 g4) x0
      · obtain rfl : k = 3 := by omega
        clear hk
        obtain rfl := HSS.out
        have hr : r.length = 8 := by have := HRL.out; have e : lenK ((3 : Nat) : Int) = 9 := rfl; omega
        have hx0 := leVal_bound r 8 (by omega)
        have NB0 := Lib.hid (show NBox W.heap.size W2 bx [leVal r] by
          have h := HNB.out
          have e : takeV r (sizK ((3 : Nat) : Int)) (sizK ((3 : Nat) : Int)).length = [leVal r] := by
            show [leVal ((r.drop 0).take 8)] = [leVal r]
            rw [List.drop_zero, List.take_of_length_le (by omega)]
          rwa [e] at h)
        have HBF := Lib.hid (show badF ((3 : Nat) : Int) r = false from rfl)
        have HDP := Lib.hid (show decP ((3 : Nat) : Int) r = ⟨((3 : Nat) : Int), 0, false, false, false, false, false, 0, leVal r, 0, 0, 0, 0⟩ from rfl)
        generalize leVal r = x0 at *
        have HR := Lib.hid hr
        clear HNB HRL hr
        go_wp2_with (go_at_call 61; fail)
        refine (next_any _ bx x0 [] _ NB0.out).mono ?_
        rintro e w4 ⟨rfl, nb4, hb4⟩
        have NB4 := Lib.hid nb4
        have HX4 := Lib.hid hb4
        clear nb4 hb4
        have hlt4 := NB4.out.lt
        have hs := ((HSC1.out).keep HX4.out (by omega))
        have hf := ((HFC1.out).keep HX4.out (by omega))
        have HSX := Lib.hid hs
        obtain ⟨c0, c1, c2, c3, c4, c5, c6, c7, c8, c9, c10, c11, c12⟩ := hs.cells
        obtain ⟨f0, f1, f2, f3, f4, f5, f6, f7, f8, f9, f10, f11, f12⟩ := hf.all
        have hz1 := sec_lt hs
        clear hs hf
        go_wp2
        go_meet
        refine ⟨?_, HBF.out, ?_⟩
        · repeat refine Below.setCell ?_ (by show _ ≤ w.heap.size + 1; omega) _
          exact HX4.out.mono (by omega)
        · rw [HDP.out]
          exact sec_val HSX.out x0
      · obtain rfl : k = 4 := by omega
        clear hk
        obtain rfl := HSS.out
        have hr : r.length = 8 := by have := HRL.out; have e : lenK ((4 : Nat) : Int) = 9 := rfl; omega
        have hx0 := leVal_bound r 8 (by omega)
        have NB0 := Lib.hid (show NBox W.heap.size W2 bx [leVal r] by
          have h := HNB.out
          have e : takeV r (sizK ((4 : Nat) : Int)) (sizK ((4 : Nat) : Int)).length = [leVal r] := by
            show [leVal ((r.drop 0).take 8)] = [leVal r]
            rw [List.drop_zero, List.take_of_length_le (by omega)]
          rwa [e] at h)
        have HBF := Lib.hid (show badF ((4 : Nat) : Int) r = false from rfl)
        have HDP := Lib.hid (show decP ((4 : Nat) : Int) r = ⟨((4 : Nat) : Int), 0, false, false, false, false, false, 0, leVal r, 0, 0, 0, 0⟩ from rfl)
        generalize leVal r = x0 at *
        have HR := Lib.hid hr
        clear HNB HRL hr
        go_wp2_with (go_at_call 61; fail)
        refine (next_any _ bx x0 [] _ NB0.out).mono ?_
        rintro e w4 ⟨rfl, nb4, hb4⟩
        have NB4 := Lib.hid nb4
        have HX4 := Lib.hid hb4
        clear nb4 hb4
        have hlt4 := NB4.out.lt
        have hs := ((HSC1.out).keep HX4.out (by omega))
        have hf := ((HFC1.out).keep HX4.out (by omega))
        have HSX := Lib.hid hs
        obtain ⟨c0, c1, c2, c3, c4, c5, c6, c7, c8, c9, c10, c11, c12⟩ := hs.cells
        obtain ⟨f0, f1, f2, f3, f4, f5, f6, f7, f8, f9, f10, f11, f12⟩ := hf.all
        have hz1 := sec_lt hs
        clear hs hf
        go_wp2
        go_meet
        refine ⟨?_, HBF.out, ?_⟩
        · repeat refine Below.setCell ?_ (by show _ ≤ w.heap.size + 1; omega) _
          exact HX4.out.mono (by omega)
        · rw [HDP.out]
          exact sec_val HSX.out x0
      · obtain rfl : k = 5 := by omega
        clear hk
        obtain rfl := HSS.out
        have hr : r.length = 1 := by have := HRL.out; have e : lenK ((5 : Nat) : Int) = 2 := rfl; omega
        have hx0 := nB_lt r 0
        have NB0 := Lib.hid (show NBox W.heap.size W2 bx [nB r 0] by
          have h := HNB.out
          match r, hr with
          | [y], _ =>
            have e : takeV [y] (sizK ((5 : Nat) : Int)) (sizK ((5 : Nat) : Int)).length = [nB [y] 0] := by
              show [leVal [y]] = [y.toNat]
              rw [leVal_one]
            rwa [e] at h)
        have HBF := Lib.hid (show badF ((5 : Nat) : Int) r = false from rfl)
        have HDP := Lib.hid (show decP ((5 : Nat) : Int) r = ⟨((5 : Nat) : Int), 0, false, false, false, false, false, 0, 0, 0, 0, 0, (nB r 0 : Int)⟩ from rfl)
        generalize nB r 0 = x0 at *
        have hw0 := wri64 (show x0 ≤ 9223372036854775807 by omega)
        have HR := Lib.hid hr
        clear HNB HRL hr
        go_wp2_with (go_at_call 61; fail)
        refine (next_any _ bx x0 [] _ NB0.out).mono ?_
        rintro e w4 ⟨rfl, nb4, hb4⟩
        have NB4 := Lib.hid nb4
        have HX4 := Lib.hid hb4
        clear nb4 hb4
        have hlt4 := NB4.out.lt
        have hs := ((HSC1.out).keep HX4.out (by omega))
        have hf := ((HFC1.out).keep HX4.out (by omega))
        have HSX := Lib.hid hs
        obtain ⟨c0, c1, c2, c3, c4, c5, c6, c7, c8, c9, c10, c11, c12⟩ := hs.cells
        obtain ⟨f0, f1, f2, f3, f4, f5, f6, f7, f8, f9, f10, f11, f12⟩ := hf.all
        have hz1 := sec_lt hs
        clear hs hf
        go_wp2
        go_meet
        refine ⟨?_, HBF.out, ?_⟩
        · repeat refine Below.setCell ?_ (by show _ ≤ w.heap.size + 1; omega) _
          exact HX4.out.mono (by omega)
        · rw [HDP.out]
          exact sec_rsn HSX.out x0
      · obtain rfl : k = 8 := by omega
        clear hk
        obtain rfl := HSS.out
        have hr : r.length = 15 := by have := HRL.out; have e : lenK ((8 : Nat) : Int) = 16 := rfl; omega
        have hx1 := nB_lt r 8
        have NB0 := Lib.hid (show NBox W.heap.size W2 bx [leVal (r.take 8), nB r 8, leVal (r.drop 9)] by
          have h := HNB.out
          have e : takeV r (sizK ((8 : Nat) : Int)) (sizK ((8 : Nat) : Int)).length = [leVal (r.take 8), nB r 8, leVal (r.drop 9)] := by
            show [leVal ((r.drop 0).take 8), leVal ((r.drop 8).take 1), leVal ((r.drop 9).take 6)] = _
            have e8 : (r.drop 8).take 1 = [r.getD 8 0] := by
              rw [List.drop_eq_getElem_cons (by omega), List.take_succ_cons, List.take_zero, List.getD_eq_getElem?_getD, List.getElem?_eq_getElem (by omega)]
              rfl
            rw [List.drop_zero, e8, leVal_one, List.take_of_length_le (l := r.drop 9) (by rw [List.length_drop]; omega)]
            rfl
          rwa [e] at h)
        have HBF := Lib.hid (show badF ((8 : Nat) : Int) r = false from rfl)
        have HDP := Lib.hid (show decP ((8 : Nat) : Int) r = ⟨((8 : Nat) : Int), 0, false, false, false, false, false, 0, 0, (nB r 8 : Int), leVal (r.drop 9), leVal (r.take 8), 0⟩ from rfl)
        generalize leVal (r.take 8) = x0 at *
        generalize nB r 8 = x1 at *
        generalize leVal (r.drop 9) = x2 at *
        have hw1 := wri64 (show x1 ≤ 9223372036854775807 by omega)
        have HR := Lib.hid hr
        clear HNB HRL hr
        go_wp2_with (go_at_call 61; fail)
        refine (next_any _ bx x0 [x1, x2] _ NB0.out).mono ?_
        rintro e w4 ⟨rfl, nb4, hb4⟩
        have NB4 := Lib.hid nb4
        have HX4 := Lib.hid hb4
        clear nb4 hb4
        have hlt4 := NB4.out.lt
        have hs := ((HSC1.out).keep HX4.out (by omega))
        have hf := ((HFC1.out).keep HX4.out (by omega))
        have HSX := Lib.hid hs
        obtain ⟨c0, c1, c2, c3, c4, c5, c6, c7, c8, c9, c10, c11, c12⟩ := hs.cells
        obtain ⟨f0, f1, f2, f3, f4, f5, f6, f7, f8, f9, f10, f11, f12⟩ := hf.all
        have hz1 := sec_lt hs
        clear hs hf
        have HL4 := Lib.hid (sec_irk HSX.out x0)
        have HF4 := Lib.hid (((HFC1.out).keep HX4.out (by omega)).set ⟨w.heap.size + 1, 11, none⟩ (.int .u64 (x0 : Int)))
        go_wp2_with (go_at_call 61; fail)
        clear c0 c1 c2 c3 c4 c5 c6 c7 c8 c9 c10 c11 c12 f0 f1 f2 f3 f4 f5 f6 f7 f8 f9 f10 f11 f12
        refine (next_any _ bx x1 [x2] _ (NB4.out.set (by show w.heap.size + 1 < _; omega) _)).mono ?_
        rintro e w5 ⟨rfl, nb5, hb5⟩
        have NB5 := Lib.hid nb5
        have HX5 := Lib.hid hb5
        have hlt5 := nb5.lt
        have HL5 := Lib.hid (show SecAt w5 (w.heap.size + 1) ⟨8, 0, false, false, false, false, false, 0, 0, 0, 0, x0, 0⟩ from HL4.out.keep hb5 (by omega))
        have HF5 := Lib.hid (HF4.out.keep hb5 (by omega))
        clear nb5 hb5
        have hs5 : SecAt w5 (w.heap.size + 1) ⟨8, 0, false, false, false, false, false, 0, 0, 0, 0, x0, 0⟩ := HL5.out
        obtain ⟨c0, c1, c2, c3, c4, c5, c6, c7, c8, c9, c10, c11, c12⟩ := hs5.cells
        obtain ⟨f0, f1, f2, f3, f4, f5, f6, f7, f8, f9, f10, f11, f12⟩ := HF5.out.all
        have HL6 := Lib.hid (sec_ak hs5 x1)
        have HF6 := Lib.hid (HF5.out.set ⟨w.heap.size + 1, 9, none⟩ (.int .i64 (x1 : Int)))
        clear hs5
        go_wp2_with (go_at_call 61; fail)
        clear c0 c1 c2 c3 c4 c5 c6 c7 c8 c9 c10 c11 c12 f0 f1 f2 f3 f4 f5 f6 f7 f8 f9 f10 f11 f12
        refine (next_any _ bx x2 [] _ (NB5.out.set (by show w.heap.size + 1 < _; omega) _)).mono ?_
        rintro e w6 ⟨rfl, nb6, hb6⟩
        have HX6 := Lib.hid hb6
        have hlt6 := nb6.lt
        have hs6 : SecAt w6 (w.heap.size + 1) ⟨8, 0, false, false, false, false, false, 0, 0, x1, 0, x0, 0⟩ := HL6.out.keep hb6 (by omega)
        have HS6 := Lib.hid hs6
        obtain ⟨c0, c1, c2, c3, c4, c5, c6, c7, c8, c9, c10, c11, c12⟩ := hs6.cells
        obtain ⟨f0, f1, f2, f3, f4, f5, f6, f7, f8, f9, f10, f11, f12⟩ := (HF6.out.keep hb6 (by omega)).all
        clear nb6 hb6 hs6
        go_wp2
        go_meet
        refine ⟨?_, HBF.out, ?_⟩
        · have k4 : Below (w.heap.size + 1) W2 w4 := HX4.out.mono (by omega)
          have k5 : Below (w.heap.size + 1) W2 w5 := (k4.setCell (p := ⟨w.heap.size + 1, 11, none⟩) (Nat.le_refl _) _).trans (HX5.out.mono (by omega))
          have k6 : Below (w.heap.size + 1) W2 w6 := (k5.setCell (p := ⟨w.heap.size + 1, 9, none⟩) (Nat.le_refl _) _).trans (HX6.out.mono (by omega))
          exact k6.setCell (p := ⟨w.heap.size + 1, 10, none⟩) (Nat.le_refl _) _
        · rw [HDP.out]
          exact sec_ax HS6.out x2
      · obtain rfl : k = 11 := by omega
        clear hk
        obtain rfl := HSS.out
        have hr : r.length = 1 := by have := HRL.out; have e : lenK ((11 : Nat) : Int) = 2 := rfl; omega
        have hx0 := nB_lt r 0
        have NB0 := Lib.hid (show NBox W.heap.size W2 bx [nB r 0] by
          have h := HNB.out
          match r, hr with
          | [y], _ =>
            have e : takeV [y] (sizK ((11 : Nat) : Int)) (sizK ((11 : Nat) : Int)).length = [nB [y] 0] := by
              show [leVal [y]] = [y.toNat]
              rw [leVal_one]
            rwa [e] at h)
        have HBF := Lib.hid (show badF ((11 : Nat) : Int) r = decide (6 < nB r 0 ∨ nB r 0 % 2 = 1) from rfl)
        have HDP := Lib.hid (show decP ((11 : Nat) : Int) r = ⟨((11 : Nat) : Int), 0, false, bitN (nB r 0) 1, bitN (nB r 0) 2, false, false, 0, 0, 0, 0, 0, 0⟩ from rfl)
        have h6 := not_6 ⟨nB r 0, hx0⟩
        simp only at h6
        generalize nB r 0 = x0 at *
        have HR := Lib.hid hr
        clear HNB HRL hr
        go_wp2_with (go_at_call 61; fail)
        refine (next_any _ bx x0 [] _ NB0.out).mono ?_
        rintro e w4 ⟨rfl, nb4, hb4⟩
        have NB4 := Lib.hid nb4
        have HX4 := Lib.hid hb4
        clear nb4 hb4
        have hlt4 := NB4.out.lt
        by_cases hbad : 6 < x0 ∨ x0 % 2 = 1
        · rw [decide_eq_true hbad] at h6
          have hs := ((HSC0.out).keep HX4.out (by omega))
          have hf := ((HFC0.out).keep HX4.out (by omega))
          have HSX := Lib.hid hs
          obtain ⟨c0, c1, c2, c3, c4, c5, c6, c7, c8, c9, c10, c11, c12⟩ := hs.cells
          obtain ⟨f0, f1, f2, f3, f4, f5, f6, f7, f8, f9, f10, f11, f12⟩ := hf.all
          have hz0 := sec_lt hs
          clear hs hf
          go_wp2_with fail
          refine bodyPost_ret (res_sec rfl _ _ w.heap.size sec0 rfl ?_) rfl ⟨?_, ?_⟩
          · exact sec_put sec0 HSX.out
          · rw [HD.out, HE.out, HBF.out, if_pos (decide_eq_true hbad)]; rfl
          · exact below_put sec0 (HBC.out.trans (HX4.out.mono (by omega))) (Nat.le_refl _)
        · rw [decide_eq_false hbad] at h6
          obtain ⟨e0, e3, e4⟩ := bits_6 ⟨x0, by omega⟩ (by show x0 % 2 = 0; omega)
          simp only at e0 e3 e4
          have CF := Lib.hid (features_any x0 (by omega))
          rw [e0, e3, e4] at CF
          clear e0 e3 e4
          generalize bitN x0 1 = g1 at *
          generalize bitN x0 2 = g2 at *
          go_wp2_with fail
          refine (CF.out _).mono ?_
          rintro e w6 ⟨rfl, hb6⟩
          have HX6 := Lib.hid hb6
          clear hb6
          have hs := ((((HSC1.out).keep HX4.out (by omega))).keep HX6.out (by omega))
          have hf := ((((HFC1.out).keep HX4.out (by omega))).keep HX6.out (by omega))
          have HSX := Lib.hid hs
          obtain ⟨c0, c1, c2, c3, c4, c5, c6, c7, c8, c9, c10, c11, c12⟩ := hs.cells
          obtain ⟨f0, f1, f2, f3, f4, f5, f6, f7, f8, f9, f10, f11, f12⟩ := hf.all
          have hz1 := sec_lt hs
          clear hs hf
          go_wp2
          go_meet
          refine ⟨?_, by rw [HBF.out]; exact decide_eq_false hbad, ?_⟩
          · repeat refine Below.setCell ?_ (by show _ ≤ w.heap.size + 1; omega) _
            exact (HX4.out.mono (by omega)).trans (HX6.out.mono (by omega))
          · rw [HDP.out]
            exact sec_feat HSX.out 0 false g1 g2 false false
      · obtain rfl : k = 12 := by omega
        clear hk
        obtain rfl := HSS.out
        have hr : r.length = 4 := by have := HRL.out; have e : lenK ((12 : Nat) : Int) = 5 := rfl; omega
        have hx0 := leVal_bound r 4 (by omega)
        have NB0 := Lib.hid (show NBox W.heap.size W2 bx [leVal r] by
          have h := HNB.out
          have e : takeV r (sizK ((12 : Nat) : Int)) (sizK ((12 : Nat) : Int)).length = [leVal r] := by
            show [leVal ((r.drop 0).take 4)] = [leVal r]
            rw [List.drop_zero, List.take_of_length_le (by omega)]
          rwa [e] at h)
        have HBF := Lib.hid (show badF ((12 : Nat) : Int) r = false from rfl)
        have HDP := Lib.hid (show decP ((12 : Nat) : Int) r = ⟨((12 : Nat) : Int), 0, false, false, false, false, false, leVal r, 0, 0, 0, 0, 0⟩ from rfl)
        generalize leVal r = x0 at *
        have hw0 := wr32 (show x0 ≤ 4294967295 by omega)
        have HR := Lib.hid hr
        clear HNB HRL hr
        go_wp2_with (go_at_call 61; fail)
        refine (next_any _ bx x0 [] _ NB0.out).mono ?_
        rintro e w4 ⟨rfl, nb4, hb4⟩
        have NB4 := Lib.hid nb4
        have HX4 := Lib.hid hb4
        clear nb4 hb4
        have hlt4 := NB4.out.lt
        have hs := ((HSC1.out).keep HX4.out (by omega))
        have hf := ((HFC1.out).keep HX4.out (by omega))
        have HSX := Lib.hid hs
        obtain ⟨c0, c1, c2, c3, c4, c5, c6, c7, c8, c9, c10, c11, c12⟩ := hs.cells
        obtain ⟨f0, f1, f2, f3, f4, f5, f6, f7, f8, f9, f10, f11, f12⟩ := hf.all
        have hz1 := sec_lt hs
        clear hs hf
        go_wp2
        go_meet
        refine ⟨?_, HBF.out, ?_⟩
        · repeat refine Below.setCell ?_ (by show _ ≤ w.heap.size + 1; omega) _
          exact HX4.out.mono (by omega)
        · rw [HDP.out]
          exact sec_pub HSX.out x0
      · obtain rfl : k = 13 := by omega
        clear hk
        obtain rfl := HSS.out
        have hr : r.length = 8 := by have := HRL.out; have e : lenK ((13 : Nat) : Int) = 9 := rfl; omega
        have hx0 := leVal_bound r 8 (by omega)
        have NB0 := Lib.hid (show NBox W.heap.size W2 bx [leVal r] by
          have h := HNB.out
          have e : takeV r (sizK ((13 : Nat) : Int)) (sizK ((13 : Nat) : Int)).length = [leVal r] := by
            show [leVal ((r.drop 0).take 8)] = [leVal r]
            rw [List.drop_zero, List.take_of_length_le (by omega)]
          rwa [e] at h)
        have HBF := Lib.hid (show badF ((13 : Nat) : Int) r = false from rfl)
        have HDP := Lib.hid (show decP ((13 : Nat) : Int) r = ⟨((13 : Nat) : Int), 0, false, false, false, false, false, 0, leVal r, 0, 0, 0, 0⟩ from rfl)
        generalize leVal r = x0 at *
        have HR := Lib.hid hr
        clear HNB HRL hr
        go_wp2_with (go_at_call 61; fail)
        refine (next_any _ bx x0 [] _ NB0.out).mono ?_
        rintro e w4 ⟨rfl, nb4, hb4⟩
        have NB4 := Lib.hid nb4
        have HX4 := Lib.hid hb4
        clear nb4 hb4
        have hlt4 := NB4.out.lt
        have hs := ((HSC1.out).keep HX4.out (by omega))
        have hf := ((HFC1.out).keep HX4.out (by omega))
        have HSX := Lib.hid hs
        obtain ⟨c0, c1, c2, c3, c4, c5, c6, c7, c8, c9, c10, c11, c12⟩ := hs.cells
        obtain ⟨f0, f1, f2, f3, f4, f5, f6, f7, f8, f9, f10, f11, f12⟩ := hf.all
        have hz1 := sec_lt hs
        clear hs hf
        go_wp2
        go_meet
        refine ⟨?_, HBF.out, ?_⟩
        · repeat refine Below.setCell ?_ (by show _ ≤ w.heap.size + 1; omega) _
          exact HX4.out.mono (by omega)
        · rw [HDP.out]
          exact sec_val HSX.out x0
    case rest =>
      obtain ⟨hbx, hbad, hsd⟩ := hcut
      have HE1 := Lib.hid (HE.out.trans (by rw [if_neg (by simp [hbad])] : _ = chkS (decP (k : Int) r)))
      have hz0 : w.heap.size < wc.heap.size := by have := hbx.size; have := sec_lt hsd; omega
      have HSX0 := Lib.hid (HSC0.out.keep hbx (by omega))
      have HFX0 := Lib.hid (HFC0.out.keep hbx (by omega))
      have HBX := Lib.hid (HBC.out.trans (hbx.mono (by omega)))
      have HSD := Lib.hid hsd
      have hzx := sec_lt hsd
      obtain ⟨c0', c1, c2, c3, c4, c5, c6, c7, c8, c9, c10, c11, c12⟩ := hsd.cells
      clear hbx hbad hsd c0
      have CK := Lib.hid (scheck_any (decP (k : Int) r))
      generalize decP (k : Int) r = q at *
      go_wp2_with fail
      refine (CK.out _ (HT.out.keep HBX.out)).mono ?_
      rintro e w7 ⟨rfl, hb7⟩
      have HS7 := Lib.hid (HSX0.out.keep hb7 (by omega))
      have HF7 := Lib.hid (HFX0.out.keep hb7 (by omega))
      have HB7 := Lib.hid (bthen HBX.out hb7)
      have hs7 := HSD.out.keep hb7 hzx
      clear c0' c1 c2 c3 c4 c5 c6 c7 c8 c9 c10 c11 c12 hb7
      have hz7 := sec_lt hs7
      by_cases hc : chkS q = 0
      · rw [hc]
        have HC := Lib.hid hc
        clear hc
        obtain ⟨p0, p1, p2, p3, p4, p5, p6, p7, p8, p9, p10, p11, p12⟩ := hs7.cells
        obtain ⟨c0, c1, c2, c3, c4, c5, c6, c7, c8, c9, c10, c11, c12⟩ := HS7.out.cells
        obtain ⟨f0, f1, f2, f3, f4, f5, f6, f7, f8, f9, f10, f11, f12⟩ := HF7.out.all
        go_wp2_with fail
        refine bodyPost_ret (res_sec rfl _ _ w.heap.size q rfl ?_) rfl ⟨?_, ?_⟩
        · exact sec_put q HS7.out
        · rw [HD.out, HE1.out, HC.out, if_pos rfl]; rfl
        · exact below_put q HB7.out (Nat.le_refl _)
      · have hc' := ne_bool hc
        have HC := Lib.hid hc
        clear hc
        generalize hcd : chkS q = cc at *
        have HCD := Lib.hid hcd
        clear hcd hs7
        obtain ⟨c0, c1, c2, c3, c4, c5, c6, c7, c8, c9, c10, c11, c12⟩ := HS7.out.cells
        obtain ⟨f0, f1, f2, f3, f4, f5, f6, f7, f8, f9, f10, f11, f12⟩ := HF7.out.all
        go_wp2_with fail
        refine bodyPost_ret (res_sec rfl _ _ w.heap.size sec0 rfl ?_) rfl ⟨?_, ?_⟩
        · exact sec_put sec0 HS7.out
        · rw [HD.out, HE1.out, if_neg HC.out]; rfl
        · exact below_put sec0 HB7.out (Nat.le_refl _)

/-- smpdu.Decode returns the PDU of bytes, or the error. -/
theorem sdecode_any (l : List UInt8) (v : Value) (hl : l.length ≤ 140737488355328) (w : World) (hb : BS w w.heap.size v l) (hT : PTab w) : Calls Tryd.prog 37 #[v] w (SDecPost w l) := by
  match l, hl, hb with
  | [], _, hb => exact sdecode_nil v w hb
  | a :: r, hl, hb =>
    by_cases h : hasK (a.toNat : Int) = true
    · exact sdecode_yes a r v hl h w hb hT
    · exact sdecode_no a r v hl h w hb
end Go.Proofs.YtpomobeogkfmfaaDoor
