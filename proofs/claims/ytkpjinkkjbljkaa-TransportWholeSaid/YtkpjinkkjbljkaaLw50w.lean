/- The walk of the law TransportWhole: for every argument it returns true. No condition but the size. -/
import Derived.Test.YtkpjinkkjbljkaaLw50a
import Derived.Test.YtkpjinkkjbljkaaTq8
import Derived.Test.YtkpjinkkjbljkaaLwC
import Derived.Test.YtkpjinkkjbljkaaTwQ
import Derived.Test.YtkpjinkkjbljkaaTq7
import Derived.Deep.RegionHeld3
import Derived.Deep.DeepCutAuto
namespace Go.Proofs.Ytkpjinkkjbljkaa
open Go.RowKit

theorem make_bools (n : Nat) (hn : n ≤ 65536) : ∃ cur : Array Value, cur.toList = List.replicate n (.bool false) ∧ ∀ W : World, (Instr.makeSlice 51 (.int .i64 (n : Int)) (.int .i64 (n : Int))).run Try.prog W = .ok (.slice (some ⟨W.heap.size, 0, none⟩) n n) (W.alloc (.cells cur 4)) := by
  refine ⟨madeCells #[.bool false] n, toList_madeCells_one _ _, ?_⟩
  obtain ⟨i, h1, h2, h3, h4⟩ := info_parts (show (Try.prog.info? 4).map (fun i => (i.zero, i.size, i.bytes)) = some (some (.bool false), 1, 1) by kernel_rfl)
  have h := make_full (P := Try.prog) (t := 51) (e := 4) Try.underlying51 h1 h2 n (by rw [h4]; omega) (by simp only [maxLen]; omega)
  rw [h3, Nat.mul_one] at h
  exact h
theorem lows_weak2 {w : World} {B : Nat} {v : Value} {ps : List (Low × List UInt8)} (h : ManyV lowF 10 (fun p => p.2) w B v ps) : LowsV w B v ps := h
/-- How many are lacking. -/
def lack (s : List Bool) : Nat := s.count false
theorem lack_zero (s : List Bool) : lack s = 0 ↔ s.all id = true := by
  unfold lack
  rw [List.count_eq_zero, List.all_eq_true]
  constructor
  · intro h x hx
    cases x with
    | true => rfl
    | false => exact absurd hx h
  · intro h hx
    have := h false hx
    simp at this
theorem lack_set {s : List Bool} {k : Nat} (hk : k < s.length) (h : s.getD k false = false) : lack (s.set k true) + 1 = lack s := by
  unfold lack
  rw [List.count_set hk]
  rw [List.getD_eq_getElem?_getD, List.getElem?_eq_getElem hk, Option.getD_some] at h
  have h1 : 0 < s.count false := List.count_pos_iff.2 (by rw [← h]; exact List.getElem_mem hk)
  simp [h]
  omega
theorem lack_same {s : List Bool} {k : Nat} (h : s.getD k false = true) : lack (s.set k true) = lack s := by rw [set_seen h]
theorem lack_none (n : Nat) : lack (List.replicate n false) = n := by simp [lack]
/-- One message in a row of its own, to be read. -/
theorem accs_lit {w : World} (a : AccS) (l : List UInt8) (A : Option Addr) (n c : Nat) (h : BS w w.heap.size (.slice A n c) l) : AccsV (w.alloc (.cells (accCs a (.slice A n c)).toArray 43)) (w.alloc (.cells (accCs a (.slice A n c)).toArray 43)).heap.size (.slice (some ⟨w.heap.size, 0, none⟩) 1 1) [(a, l)] := by
  refine ⟨[.slice A n c], rfl, ?_, fun k p u hp hu => ?_⟩
  · exact (Sl.lit w (accCs a (.slice A n c)).toArray _ 1 rfl (by simp [maxLen])).more (by simp)
  · rcases k with _ | k
    · simp only [List.getElem?_cons_zero, Option.some.injEq] at hp hu
      subst hp hu
      exact h.on (al1 _ _)
    · simp at hp

set_option maxRecDepth 100000 in
set_option maxHeartbeats 8000000 in
theorem transportWhole_walk (a : AccS) (l ol : List UInt8) (hl : l.length ≤ 9223372036854775807) (hs : a.seq < 4294967296) (bv ov : Value) (w : World) (hb : BS w w.heap.size bv l) (ho : BS w w.heap.size ov ol) : Calls Try.prog 7 #[accV a bv, ov] w fun e w' => e = .returned (.bool true) ∧ Below w.heap.size w w' := by
  obtain ⟨A, c, rfl, hnc, hcm, _⟩ := id hb
  obtain ⟨Ao, co, rfl, hnco, hcmo, _⟩ := id ho
  have HB := Lib.hid hb
  have HO := Lib.hid ho
  have HL := Lib.hid hl
  have hl63 : l.length < 9223372036854775808 := by omega
  obtain ⟨src, dst, app, ttl, ssrc, iv, seq⟩ := a
  dsimp only at hs
  clear hb ho hl
  by_cases h15 : l.length ≤ 15
  · have q1 : decide ((l.length : Int) ≤ 15) = true := decide_eq_true (by omega)
    go_enter Try.func7, Try.ntmps7
    go_wp2_with fail
    refine (lives_any _).mono ?_
    rintro e w4 ⟨rfl, hb4⟩
    have HA4 := Lib.hid (one hb4)
    clear hb4
    go_wp2
    go_ret
    exact ⟨rfl, HA4.out⟩
  · by_cases h200 : 200 < ol.length
    · have q1 : decide ((l.length : Int) ≤ 15) = false := decide_eq_false (by omega)
      have q2 : decide (200 < (ol.length : Int)) = true := decide_eq_true (by omega)
      go_enter Try.func7, Try.ntmps7
      go_wp2_with fail
      refine (lives_any _).mono ?_
      rintro e w4 ⟨rfl, hb4⟩
      have HA4 := Lib.hid (one hb4)
      clear hb4
      go_wp2
      go_ret
      exact ⟨rfl, HA4.out⟩
    · by_cases hss : ssrc = src
      · have hss' := hss.symm
        subst hss'
        clear hss
        have q1 : decide ((l.length : Int) ≤ 15) = false := decide_eq_false (by omega)
        have q2 : decide (200 < (ol.length : Int)) = false := decide_eq_false (by omega)
        have q3 : ((src : Int) != (src : Int)) = false := by simp
        have CS := Lib.hid (fun (W : World) (hW : Below w.heap.size w W) => send_all [] [] ⟨src, dst, app, ttl, src, iv, seq⟩ l 5 HL.out hs (by omega) (by omega) (.slice none 0 0) (.slice none 0 0) (.slice A l.length c) W (RowV.nil _ _) (RowV.nil _ _) (HB.out.on hW) ⟨by simp, fun _ h => by simp at h⟩ ⟨by simp, fun _ h => by simp at h⟩)
        by_cases hrf : refuseN [] ⟨src, dst, app, ttl, src, iv, seq⟩ l.length = 0
        · obtain ⟨hn384, hsq⟩ := refuse_ok hrf
          have hsl : sendL [] ⟨src, dst, app, ttl, src, iv, seq⟩ l 5 = segs ⟨src, dst, app, ttl, src, iv, seq⟩ l 5 (cntP l) := by unfold sendL; rw [if_neg (by simpa using hrf), if_neg h15]
          have HCK := Lib.hid (fun k (hk : k < cntP l) => chk_part (a := ⟨src, dst, app, ttl, src, iv, seq⟩) (l := l) (k := k) (by omega) hn384 hk)
          have hC : cntP l = (l.length + 11) / 12 := rfl
          have hcn : cntN (l.length : Int) = ((cntP l : Nat) : Int) := by unfold cntN; rw [if_neg (by omega), if_neg (by omega), hC]; omega
          have HST := Lib.hid (fun (s : List Bool) (is : List InS) (k i : Nat) (now : Int) (h : WRel ⟨src, dst, app, ttl, src, iv, seq⟩ l s is) h1 h2 h3 h4 => recv_step (a := ⟨src, dst, app, ttl, src, iv, seq⟩) (l := l) (s := s) (is := is) (k := k) (i := i) (now := now) h h1 h2 h3 h4)
          have hseq2 : seq ≤ 16777215 := by rw [hcn] at hsq; dsimp only at hsq; omega
          have hC0 : 1 ≤ cntP l := by omega
          have hC1 : cntP l ≤ 32 := by omega
          unfold SendPost at CS
          rw [hsl, hrf] at CS
          have HSEG := Lib.hid (fun k (hk : k < cntP l) => segs_at (a := ⟨src, dst, app, ttl, src, iv, seq⟩) (l := l) (now := 5) hk)
          have hsgl : (segs ⟨src, dst, app, ttl, src, iv, seq⟩ l 5 (cntP l)).length = cntP l := segs_len _ _ _ _
          generalize hCC : cntP l = C at *
          have HCC := Lib.hid hCC
          clear hCC hC hsl hrf hsq
          generalize segs ⟨src, dst, app, ttl, src, iv, seq⟩ l 5 C = sg at *
          have HSG := Lib.hid hsgl
          have q4 : (((0 : Int)) != 0) = false := by simp
          have q5 : ((C : Int) != (C : Int)) = false := by simp
          have q6 : ((C : Int) == 0) = false := by
            have : (C : Int) ≠ 0 := by omega
            simpa using this
          obtain ⟨cur, hcur, mk0⟩ := make_bools C (by omega)
          have HCUR := Lib.hid hcur
          clear hcur
          go_enter Try.func7, Try.ntmps7
          go_upto_region 3 with fail
          have hbx := Box.new w #[.int .u16 (src : Int), .int .u16 (dst : Int), .bool app, .int .i64 ttl, .int .u16 (src : Int), .int .u32 (iv : Int), .int .u32 (seq : Int), .slice A l.length c] 43
          have HA := Lib.hid (al1 w (.cells #[.int .u16 (src : Int), .int .u16 (dst : Int), .bool app, .int .i64 ttl, .int .u16 (src : Int), .int .u32 (iv : Int), .int .u32 (seq : Int), .slice A l.length c] 43))
          generalize w.alloc (.cells #[.int .u16 (src : Int), .int .u16 (dst : Int), .bool app, .int .i64 ttl, .int .u16 (src : Int), .int .u32 (iv : Int), .int .u32 (seq : Int), .slice A l.length c] 43) = W1 at *
          have a0 := hbx.cell (j := 0) rfl
          have a1 := hbx.cell (j := 1) rfl
          have a2 := hbx.cell (j := 2) rfl
          have a3 := hbx.cell (j := 3) rfl
          have a4 := hbx.cell (j := 4) rfl
          have a5 := hbx.cell (j := 5) rfl
          have a6 := hbx.cell (j := 6) rfl
          have a7 := hbx.cell (j := 7) rfl
          have HBX := Lib.hid hbx
          clear hbx
          go_wp2_with fail
          refine (CS.out _ HA.out).mono ?_
          rintro e w2 ⟨hb2, v, u, x, rfl, hO, hI, hL⟩
          obtain ⟨A2, c2, rfl⟩ := rowV_form hO.weak
          obtain ⟨A3, c3, rfl⟩ := rowV_form hI.weak
          obtain ⟨A4, c4, rfl⟩ := hL.form
          rw [HSG.out]
          rw [HSG.out] at hL
          have HA2 := Lib.hid (bthen HA.out hb2)
          have HX2 := Lib.hid (HBX.out.on hb2)
          have HL2 := Lib.hid hL.weak
          clear hb2 hO hI hL a0 a1 a2 a3 a4 a5 a6 a7 HBX CS
          have a7 := HX2.out.cell (j := 7) rfl
          have za := HX2.out.lt
          go_wp2_with fail
          refine (count_any _ _).mono ?_
          rintro e w3 ⟨rfl, rfl⟩
          rw [hcn]
          generalize (sendO [] ⟨src, dst, app, ttl, src, iv, seq⟩ l 5).length = so at *
          go_wp2_with fail
          obtain ⟨W3, hW3⟩ : ∃ W3, W3 = w2.alloc (.cells #[.slice A2 so c2, .slice A3 0 c3] 47) := ⟨_, rfl⟩
          have HA3 := Lib.hid (show Below w.heap.size w W3 by rw [hW3]; exact HA2.out.alloc HA2.out.size _)
          have HX3 := Lib.hid (show Box W3 w.heap.size (accCs ⟨src, dst, app, ttl, src, iv, seq⟩ (.slice A l.length c)) by rw [hW3]; exact HX2.out.alloc _)
          have HL3 := Lib.hid (show LowsV W3 W3.heap.size (.slice A4 C c4) sg by rw [hW3]; exact LowsV.on (lows_weak2 HL2.out) (al1 _ _))
          rw [show w2.heap.size + 1 = W3.heap.size by rw [hW3]; simp]
          rw [← hW3]
          clear hW3 HA2 HX2 HL2 a7 za
          go_loopw [11, 10] (fun i lf wr => ∃ (k : Nat) (s : List Bool) (is : List InS) (v u : Value), k ≤ ol.length ∧ i = .int .i64 k ∧ lf = .int .i64 ((lack s : Nat) : Int) ∧ s.length = C ∧ WRel ⟨src, dst, app, ttl, src, iv, seq⟩ l s is ∧ WfIs is ∧ Box wr W3.heap.size [v, u] ∧ Box wr (W3.heap.size + 1) (s.map fun b => .bool b) ∧
            RowV2 outCs 10 OutS.parts wr (W3.heap.size + 2) wr.heap.size v [] ∧ RowV2 inCs 11 InS.parts wr (W3.heap.size + 2) wr.heap.size u is ∧ Below W3.heap.size W3 wr) (fun i _ _ => ol.length - (intOf i).toNat)
          case atStart => exact ⟨0, List.replicate C false, [], .slice none 0 0, .slice none 0 0, Nat.zero_le _, rfl, by rw [lack_none], List.length_replicate .., .inl ⟨by simp, rfl⟩, ⟨by simp, fun _ h => by simp at h⟩, (Box.new W3 _ _).alloc _, by
              have h := Box.new (W3.alloc (.cells #[.slice none 0 0, .slice none 0 0] 47)) cur 4
              rw [World.size_alloc, HCUR.out] at h
              simpa using h, RowV2.nil _ _ _, RowV2.nil _ _ _, al2 _ _ _⟩
          clear HCUR mk0
          case round =>
            obtain ⟨k, s, is, v, u, hk, rfl, rfl, hsC, hrel, hwf, hb8, hbs, hvO, hvI, hbel⟩ := hrel
            have HBE := Lib.hid hbel
            by_cases hlt : k < ol.length
            · obtain ⟨bo, oo, cc, hfo, hbo, _, _, hco⟩ := Sl.at_ (HO.out.below (HA3.out.trans (hbel.mono HA3.out.size))) (bys_at hlt)
              injection hfo with hfo1 _ hfo3
              subst hfo1 hfo3
              have hxb : ol[k].toNat < 256 := ol[k].toNat_lt
              generalize ol[k].toNat = xb at *
              have ht : ((xb : Int).tmod (C : Int)) = ((xb % C : Nat) : Int) := by rw [Int.tmod_eq_emod_of_nonneg (by omega)]; push_cast; rfl
              have hkk : xb % C < C := Nat.mod_lt _ (by omega)
              have htn := ht
              generalize xb % C = kk at *
              have hC' : (C : Int) ≠ 0 := by omega
              obtain ⟨b4, o4, c4', ul, hf4, hb4, hc4, hs4⟩ := lows_at (HL3.out.on hbel) (HSEG.out kk hkk)
              rw [HSG.out] at hf4
              injection hf4 with hf41 _ hf43
              subst hf41 hf43
              obtain ⟨Al, cl, rfl, _⟩ := id hs4
              have hclen : (chunk l kk).length ≤ 12 := chunk_le l kk
              have hchk := HCK.out kk hkk
              have hrs := HST.out s is kk k (5 + (k : Int)) hrel hsC (by rw [hsC]; exact hkk) (by omega) hchk
              have hwr := wf_recv (src := src) (dst := dst) (isrc := src) (iv := iv) (seq := seq + k) (ttl := ttl) (p := segL (mOut ⟨src, dst, app, ttl, src, iv, seq⟩ l 5) kk) (now := 5 + (k : Int)) hwf (show (chunk l kk).length ≤ 65536 by omega)
              obtain ⟨Av, cv, rfl⟩ := rowV_form hvO.weak
              obtain ⟨Au, cu, rfl⟩ := rowV_form hvI.weak
              have CR := Lib.hid (fun (W : World) (hW : Below wr.heap.size wr W) => recv_any [] is src dst src iv (seq + k) ttl (segL (mOut ⟨src, dst, app, ttl, src, iv, seq⟩ l 5) kk) (chunk l kk) (5 + (k : Int)) (by omega) (by omega) (.slice Av ([] : List OutS).length cv) (.slice Au is.length cu) (.slice Al (chunk l kk).length cl) W (hvO.weak.on hW) (hvI.weak.on hW) (hs4.on hW) ⟨by simp, fun _ h => by simp at h⟩ hwf (by omega) (by omega))
              have HRS := Lib.hid hrs
              have HWR := Lib.hid hwr
              unfold RecvPost at CR
              generalize recvT is src dst src iv (seq + k) ttl (segL (mOut ⟨src, dst, app, ttl, src, iv, seq⟩ l 5) kk) (chunk l kk) (5 + (k : Int)) = rr at *
              obtain ⟨is2, got, ak⟩ := rr
              dsimp only at CR
              have d0 := hc4 0 _ rfl
              have d1 := hc4 1 _ rfl
              have d2 := hc4 2 _ rfl
              have d3 := hc4 3 _ rfl
              have d4 := hc4 4 _ rfl
              have d5 := hc4 5 _ rfl
              have d6 := hc4 6 _ rfl
              have d7 := hc4 7 _ rfl
              have d8 := hc4 8 _ rfl
              have d9 := hc4 9 _ rfl
              generalize segL (mOut ⟨src, dst, app, ttl, src, iv, seq⟩ l 5) kk = sp at *
              obtain ⟨s0, s1, s2, s3, s4, s5, s6, s7, s8⟩ := sp
              dsimp only at d0 d1 d2 d3 d4 d5 d6 d7 d8
              generalize (chunk l kk).length = cn at *
              have hxa := HX3.out.keep hbel (HX3.out.lt)
              have a0 := hxa.cell (j := 0) rfl
              have a1 := hxa.cell (j := 1) rfl
              have a3 := hxa.cell (j := 3) rfl
              have a5 := hxa.cell (j := 5) rfl
              have a6 := hxa.cell (j := 6) rfl
              have za := hxa.lt
              dsimp only at a0 a1 a3 a5 a6
              have e0 := hb8.cell (j := 0) rfl
              have e1 := hb8.cell (j := 1) rfl
              have z8 := hb8.lt
              have hwk : IntKind.u32.wrap (k : Int) = (k : Int) := IntWalk.u32_in _ (by omega)
              have hws : IntKind.u32.wrap ((seq : Int) + (k : Int)) = (seq : Int) + (k : Int) := IntWalk.u32_in _ (by omega)
              have hw5 : IntKind.i64.wrap (5 + (k : Int)) = 5 + (k : Int) := IntWalk.i64_in _ (by omega)
              have HB8 := Lib.hid hb8
              have HBS := Lib.hid hbs
              have HXA := Lib.hid hxa
              have HSC := Lib.hid hsC
              clear hc4 hs4 hchk hrs hwr hvO hvI hxa hrel hwf hb8 hbs hbel
              go_upto_region 16 with fail
              obtain ⟨Wq, hWq⟩ : ∃ Wq, Wq = wr.alloc (.cells #[.int .u16 (src : Int), .int .u32 (iv : Int), .int .u32 ((seq : Int) + (k : Int))] 41) := ⟨_, rfl⟩
              have hQB : Below wr.heap.size wr Wq := by rw [hWq]; exact al1 _ _
              have hbr : Box Wq wr.heap.size [.int .u16 (src : Int), .int .u32 (iv : Int), .int .u32 ((seq : Int) + (k : Int))] := by rw [hWq]; exact Box.new _ _ _
              have hzq : wr.heap.size < Wq.heap.size := hbr.lt
              rw [← hWq]
              clear hWq
              replace e0 : Wq.cell? ⟨W3.heap.size, 0, none⟩ = some (.slice Av ([] : List OutS).length cv) := (hQB.cell (p := ⟨W3.heap.size, 0, none⟩) z8).trans e0
              replace e1 : Wq.cell? ⟨W3.heap.size, 1, none⟩ = some (.slice Au is.length cu) := (hQB.cell (p := ⟨W3.heap.size, 1, none⟩) z8).trans e1
              replace a0 : Wq.cell? ⟨w.heap.size, 0, none⟩ = some (.int .u16 (src : Int)) := (hQB.cell (p := ⟨w.heap.size, 0, none⟩) za).trans a0
              replace a1 : Wq.cell? ⟨w.heap.size, 1, none⟩ = some (.int .u16 (dst : Int)) := (hQB.cell (p := ⟨w.heap.size, 1, none⟩) za).trans a1
              replace a3 : Wq.cell? ⟨w.heap.size, 3, none⟩ = some (.int .i64 ttl) := (hQB.cell (p := ⟨w.heap.size, 3, none⟩) za).trans a3
              replace d0 : Wq.cell? ⟨b4, o4 + kk * 10, none⟩ = some (.bool s0) := (hQB.cell (p := ⟨b4, o4 + kk * 10, none⟩) hb4).trans d0
              replace d1 : Wq.cell? ⟨b4, o4 + kk * 10 + 1, none⟩ = some (.bool s1) := (hQB.cell (p := ⟨b4, o4 + kk * 10 + 1, none⟩) hb4).trans d1
              replace d2 : Wq.cell? ⟨b4, o4 + kk * 10 + 2, none⟩ = some (.bool s2) := (hQB.cell (p := ⟨b4, o4 + kk * 10 + 2, none⟩) hb4).trans d2
              replace d3 : Wq.cell? ⟨b4, o4 + kk * 10 + 3, none⟩ = some (.int .i64 s3) := (hQB.cell (p := ⟨b4, o4 + kk * 10 + 3, none⟩) hb4).trans d3
              replace d4 : Wq.cell? ⟨b4, o4 + kk * 10 + 4, none⟩ = some (.int .i64 s4) := (hQB.cell (p := ⟨b4, o4 + kk * 10 + 4, none⟩) hb4).trans d4
              replace d5 : Wq.cell? ⟨b4, o4 + kk * 10 + 5, none⟩ = some (.int .i64 s5) := (hQB.cell (p := ⟨b4, o4 + kk * 10 + 5, none⟩) hb4).trans d5
              replace d6 : Wq.cell? ⟨b4, o4 + kk * 10 + 6, none⟩ = some (.int .i64 s6) := (hQB.cell (p := ⟨b4, o4 + kk * 10 + 6, none⟩) hb4).trans d6
              replace d7 : Wq.cell? ⟨b4, o4 + kk * 10 + 7, none⟩ = some (.int .u32 (s7 : Int)) := (hQB.cell (p := ⟨b4, o4 + kk * 10 + 7, none⟩) hb4).trans d7
              replace d8 : Wq.cell? ⟨b4, o4 + kk * 10 + 8, none⟩ = some (.bool s8) := (hQB.cell (p := ⟨b4, o4 + kk * 10 + 8, none⟩) hb4).trans d8
              replace d9 : Wq.cell? ⟨b4, o4 + kk * 10 + 9, none⟩ = some (.slice Al cn cl) := (hQB.cell (p := ⟨b4, o4 + kk * 10 + 9, none⟩) hb4).trans d9
              have r0 : Wq.cell? ⟨wr.heap.size, 0, none⟩ = some (.int .u16 (src : Int)) := hbr.cell (j := 0) rfl
              have r1 : Wq.cell? ⟨wr.heap.size, 1, none⟩ = some (.int .u32 (iv : Int)) := hbr.cell (j := 1) rfl
              have r2 : Wq.cell? ⟨wr.heap.size, 2, none⟩ = some (.int .u32 ((seq : Int) + (k : Int))) := hbr.cell (j := 2) rfl
              have z8' : W3.heap.size < Wq.heap.size := Nat.lt_trans z8 hzq
              have za' : w.heap.size < Wq.heap.size := Nat.lt_trans za hzq
              have hb4' : b4 < Wq.heap.size := Nat.lt_trans hb4 hzq
              have ik : (kk : Int) < (C : Int) := by omega
              have ik0 : (0 : Int) ≤ (kk : Int) := by omega
              have HQB := Lib.hid hQB
              have HBR := Lib.hid hbr
              have HZQ := Lib.hid hzq
              have H2W := Lib.hid (show W3.heap.size + 2 ≤ wr.heap.size from HBS.out.lt)
              clear hQB hbr
              go_cut [14, 15, 16] (fun t14 t15 t16 wx => ∃ (bt : Nat) (v u x : Value), t14 = .pointer (some ⟨bt, 0, none⟩) ∧ t15 = x ∧ t16 = .bool ak ∧ Box wx bt [v, u] ∧ RowV2 outCs 10 OutS.parts wx (W3.heap.size + 2) wx.heap.size v [] ∧ RowV2 inCs 11 InS.parts wx (W3.heap.size + 2) wx.heap.size u is2 ∧ AccsV2 wx (W3.heap.size + 2) wx.heap.size x got ∧ Below Wq.heap.size Wq wx)
              case first =>
                go_region_held3 (fun w' => w'.cell? ⟨W3.heap.size, 0, none⟩ = some (.slice Av ([] : List OutS).length cv) ∧ w'.cell? ⟨W3.heap.size, 1, none⟩ = some (.slice Au is.length cu) ∧ w'.cell? ⟨w.heap.size, 0, none⟩ = some (.int .u16 (src : Int)) ∧ w'.cell? ⟨w.heap.size, 1, none⟩ = some (.int .u16 (dst : Int)) ∧ w'.cell? ⟨w.heap.size, 3, none⟩ = some (.int .i64 ttl) ∧ w'.cell? ⟨b4, o4 + kk * 10, none⟩ = some (.bool s0) ∧ w'.cell? ⟨b4, o4 + kk * 10 + 1, none⟩ = some (.bool s1) ∧ w'.cell? ⟨b4, o4 + kk * 10 + 2, none⟩ = some (.bool s2) ∧ w'.cell? ⟨b4, o4 + kk * 10 + 3, none⟩ = some (.int .i64 s3) ∧ w'.cell? ⟨b4, o4 + kk * 10 + 4, none⟩ = some (.int .i64 s4) ∧ w'.cell? ⟨b4, o4 + kk * 10 + 5, none⟩ = some (.int .i64 s5) ∧ w'.cell? ⟨b4, o4 + kk * 10 + 6, none⟩ = some (.int .i64 s6) ∧ w'.cell? ⟨b4, o4 + kk * 10 + 7, none⟩ = some (.int .u32 (s7 : Int)) ∧ w'.cell? ⟨b4, o4 + kk * 10 + 8, none⟩ = some (.bool s8) ∧ w'.cell? ⟨b4, o4 + kk * 10 + 9, none⟩ = some (.slice Al cn cl) ∧ w'.cell? ⟨wr.heap.size, 0, none⟩ = some (.int .u16 (src : Int)) ∧ w'.cell? ⟨wr.heap.size, 1, none⟩ = some (.int .u32 (iv : Int)) ∧ w'.cell? ⟨wr.heap.size, 2, none⟩ = some (.int .u32 ((seq : Int) + (k : Int)))) (go_keep)
                  (first
                    | (go_at_call 23; refine (CR.out Wq.drew (HQB.out.drew)).mono ?_; rintro e w6 ⟨hb6', v', u', x', rfl, hO', hI', hG'⟩
                       have hb6 : Below Wq.heap.size Wq w6 := ((Below.refl _ _).drew).trans hb6'
                       have hc6 := bfar Wq.heap.size hb6 (Nat.le_refl _)
                       have hz6 : Wq.heap.size ≤ w6.heap.size := hb6.size
                       have y8 : W3.heap.size < w6.heap.size := Nat.lt_of_lt_of_le z8' hz6
                       have ya : w.heap.size < w6.heap.size := Nat.lt_of_lt_of_le za' hz6
                       have yb : b4 < w6.heap.size := Nat.lt_of_lt_of_le hb4' hz6
                       have yr : wr.heap.size < w6.heap.size := Nat.lt_of_lt_of_le hzq hz6
                       have hO6 := hO'.mono (show W3.heap.size + 2 ≤ Wq.drew.heap.size from Nat.le_trans H2W.out (Nat.le_of_lt HZQ.out)) (Nat.le_refl _)
                       have hI6 := hI'.mono (show W3.heap.size + 2 ≤ Wq.drew.heap.size from Nat.le_trans H2W.out (Nat.le_of_lt HZQ.out)) (Nat.le_refl _)
                       have hG6 := hG'.mono (show W3.heap.size + 2 ≤ Wq.drew.heap.size from Nat.le_trans H2W.out (Nat.le_of_lt HZQ.out)) (Nat.le_refl _)
                       obtain ⟨Av2, cv2, rfl⟩ := rowV_form hO'.weak
                       obtain ⟨Au2, cu2, rfl⟩ := rowV_form hI'.weak
                       obtain ⟨Ag, cg, rfl⟩ := hG'.form)
                    | (go_at_call 23; refine (CR.out (Wq.alloc (.cells #[.slice none 0 0, .slice none 0 0] 47)).drew ((HQB.out.alloc (Nat.le_of_lt HZQ.out) _).drew)).mono ?_; rintro e w6 ⟨hb6', v', u', x', rfl, hO', hI', hG'⟩
                       have hb6 : Below Wq.heap.size Wq w6 := ((al1 Wq _).drew).trans (hb6'.mono (by simp))
                       have hc6 := bfar Wq.heap.size hb6 (Nat.le_refl _)
                       have hz6 : Wq.heap.size < w6.heap.size := Nat.lt_of_lt_of_le (by simp) hb6'.size
                       have y8 : W3.heap.size < w6.heap.size := Nat.lt_trans z8' hz6
                       have ya : w.heap.size < w6.heap.size := Nat.lt_trans za' hz6
                       have yb : b4 < w6.heap.size := Nat.lt_trans hb4' hz6
                       have yr : wr.heap.size < w6.heap.size := Nat.lt_trans hzq hz6
                       have n8 : Wq.heap.size ≠ W3.heap.size := Nat.ne_of_gt z8'
                       have na : Wq.heap.size ≠ w.heap.size := Nat.ne_of_gt za'
                       have nb : Wq.heap.size ≠ b4 := Nat.ne_of_gt hb4'
                       have nr : Wq.heap.size ≠ wr.heap.size := Nat.ne_of_gt hzq
                       have hbz : Box w6 Wq.heap.size [.slice none 0 0, .slice none 0 0] := (Box.new Wq _ _).on ((Below.refl _ _).drew.trans hb6')
                       have y0 := hbz.cell (j := 0) rfl
                       have y1 := hbz.cell (j := 1) rfl
                       have yf0 := hbz.free 0
                       have yf1 := hbz.free 1
                       have hO6 := hO'.mono (show Wq.heap.size + 1 ≤ _ by simp) (Nat.le_refl _)
                       have hI6 := hI'.mono (show Wq.heap.size + 1 ≤ _ by simp) (Nat.le_refl _)
                       have hG6 := hG'.mono (show Wq.heap.size + 1 ≤ _ by simp) (Nat.le_refl _)
                       obtain ⟨Av2, cv2, rfl⟩ := rowV_form hO'.weak
                       obtain ⟨Au2, cu2, rfl⟩ := rowV_form hI'.weak
                       obtain ⟨Ag, cg, rfl⟩ := hG'.form))
                all_goals
                  clear e0 e1 a0 a1 a3 d0 d1 d2 d3 d4 d5 d6 d7 d8 d9 r0 r1 r2
                  go_wp2_with fail
                  go_meet
                all_goals
                  first
                    | (refine ⟨w6.heap.size, .slice Av2 ([] : List OutS).length cv2, .slice Au2 is2.length cu2, .slice Ag got.length cg, rfl, rfl, rfl, ?_, hO6.on (al1 _ _), hI6.on (al1 _ _), hG6.on (al1 _ _), hb6.alloc hb6.size _⟩
                       exact Box.new w6 _ _)
                    | (have hsz : W3.heap.size + 2 ≤ Wq.heap.size + 1 := by have := H2W.out; omega
                       refine ⟨Wq.heap.size, .slice Av2 ([] : List OutS).length cv2, .slice Au2 is2.length cu2, .slice Ag got.length cg, rfl, rfl, rfl, ?_, ?_, ?_, ?_, (hb6.setCell (Nat.le_refl _) _).setCell (Nat.le_refl _) _⟩
                       · exact hbz.put [.slice Av2 ([] : List OutS).length cv2, .slice Au2 is2.length cu2] rfl
                       · exact ((hO6.far (Nat.lt_succ_self _) 0 _).far (Nat.lt_succ_self _) 1 _).mono hsz (by simp)
                       · exact ((hI6.far (Nat.lt_succ_self _) 0 _).far (Nat.lt_succ_self _) 1 _).mono hsz (by simp)
                       · exact ((hG6.far (Nat.lt_succ_self _) 0 _).far (Nat.lt_succ_self _) 1 _).mono hsz (by simp))
                    | fail
              case rest =>
                obtain ⟨bt, v2, u2, x2, rfl, rfl, rfl, hbt, hO2, hI2, hG2, hbx⟩ := hcut
                obtain ⟨Av2, cv2, rfl⟩ := rowV_form hO2.weak
                obtain ⟨Au2, cu2, rfl⟩ := rowV_form hI2.weak
                obtain ⟨Ag, cg, rfl⟩ := hG2.form
                have hbel : Below wr.heap.size wr wc := HQB.out.trans (hbx.mono HQB.out.size)
                have hb8 := HB8.out.on hbel
                have hbs := HBS.out.on hbel
                have hxa := HXA.out.on hbel
                have HBC := Lib.hid (HBE.out.trans (hbel.mono HBE.out.size))
                have g0 := hbt.cell (j := 0) rfl
                have g1 := hbt.cell (j := 1) rfl
                have e0 := hb8.cell (j := 0) rfl
                have e1 := hb8.cell (j := 1) rfl
                have f0 := hb8.free 0
                have f1 := hb8.free 1
                have zz := hb8.lt
                go_upto_region 18 with fail
                obtain ⟨V, hV⟩ : ∃ V, V = wc.setCells W3.heap.size 0 [.slice Av2 0 cv2, .slice Au2 is2.length cu2] := ⟨_, rfl⟩
                have HBV := Lib.hid (show Below W3.heap.size W3 V by rw [hV]; exact below_puts (Nat.le_refl _) 0 _ HBC.out)
                have HV8 := Lib.hid (show Box V W3.heap.size [.slice Av2 0 cv2, .slice Au2 is2.length cu2] by rw [hV]; exact hb8.put _ rfl)
                have HVS := Lib.hid (show Box V (W3.heap.size + 1) (s.map fun b => .bool b) by rw [hV]; exact hbs.puts_far (by omega) 0 _)
                have HVA := Lib.hid (show Box V w.heap.size (accCs ⟨src, dst, app, ttl, src, iv, seq⟩ (.slice A l.length c)) by rw [hV]; exact hxa.puts_far (Nat.ne_of_lt HX3.out.lt) 0 _)
                have HVO := Lib.hid (show RowV2 outCs 10 OutS.parts V (W3.heap.size + 2) V.heap.size (.slice Av2 0 cv2) [] by rw [hV]; exact ((hO2.far (by omega) 0 _).far (by omega) 1 _).mono (Nat.le_refl _) (by rw [size_puts]; exact Nat.le_refl _))
                have HVI := Lib.hid (show RowV2 inCs 11 InS.parts V (W3.heap.size + 2) V.heap.size (.slice Au2 is2.length cu2) is2 by rw [hV]; exact ((hI2.far (by omega) 0 _).far (by omega) 1 _).mono (Nat.le_refl _) (by rw [size_puts]; exact Nat.le_refl _))
                have HVG := Lib.hid (show AccsV2 V (W3.heap.size + 2) V.heap.size (.slice Ag got.length cg) got by rw [hV]; exact ((hG2.far (by omega) 0 _).far (by omega) 1 _).mono (Nat.le_refl _) (by rw [size_puts]; exact Nat.le_refl _))
                rw [show (wc.setCell ⟨W3.heap.size, 0, none⟩ (.slice Av2 0 cv2)).setCell ⟨W3.heap.size, 1, none⟩ (.slice Au2 is2.length cu2) = V from hV.symm]
                clear hV hb8 hbs hxa hO2 hI2 hG2 hbx hbt hbel g0 g1 e0 e1 f0 f1 zz a0 a1 a3 d0 d1 d2 d3 d4 d5 d6 d7 d8 d9 r0 r1 r2 z8' za' hb4'
                have hsk : (s.map fun b => Value.bool b)[kk]? = some (.bool (s.getD kk false)) := by
                  rw [List.getElem?_map, List.getD_eq_getElem?_getD, List.getElem?_eq_getElem (by rw [HSC.out]; exact hkk)]
                  rfl
                have hlk : s.getD kk false = false → lack (s.set kk true) + 1 = lack s := lack_set (by rw [HSC.out]; exact hkk)
                have hls : s.getD kk false = true → lack (s.set kk true) = lack s := lack_same
                have hl1 : lack s ≤ 32 := by unfold lack; have := List.count_le_length (a := false) (l := s); rw [HSC.out] at this; omega
                have HGT := Lib.hid (show got = if s.all id = false ∧ (s.set kk true).all id = true then [whole ⟨src, dst, app, ttl, src, iv, seq⟩ l] else [] from HRS.out.2)
                have HA1 := Lib.hid (lack_zero s)
                have HA2' := Lib.hid (lack_zero (s.set kk true))
                generalize hls2 : lack (s.set kk true) = m2 at *
                generalize hls1 : lack s = m1 at *
                generalize hsv : s.getD kk false = sv at *
                have HSV := Lib.hid hsv
                have HM2 := Lib.hid hls2
                clear hls1 hls2 hsv
                have k0 := HVS.out.cell hsk
                have kf := HVS.out.free kk
                have kz := HVS.out.lt
                obtain ⟨Vo, rfl⟩ : ∃ Vo : World, Vo = V := ⟨_, rfl⟩
                go_upto_if 119 with fail
                go_cut [10] (fun t wx => t = .int .i64 (m2 : Int) ∧ wx = Vo)
                case first =>
                  rcases sv with _ | _
                  · have h1 := hlk rfl
                    have hw1 : IntKind.i64.wrap ((m1 : Int) - 1) = (m2 : Int) := by rw [IntWalk.i64_in _ (by omega)]; omega
                    go_wp2_with fail
                    go_meet
                    exact ⟨rfl, rfl⟩
                  · have h1 := hls rfl
                    go_wp2_with fail
                    go_meet
                    exact ⟨by rw [h1], rfl⟩
                case rest =>
                  obtain ⟨rfl, rfl⟩ := hcut
                  have hm : m2 ≤ m1 := by
                    rcases sv with _ | _
                    · have := hlk rfl; omega
                    · have := hls rfl; omega
                  have hgd : (m1 = 0 ∧ got = []) ∨ (m1 ≠ 0 ∧ m2 = 0 ∧ got = [whole ⟨src, dst, app, ttl, src, iv, seq⟩ l]) ∨ (m1 ≠ 0 ∧ m2 ≠ 0 ∧ got = []) := by
                    have h1 := HA1.out
                    have h2 := HA2'.out
                    have h3 := HGT.out
                    by_cases q1 : m1 = 0
                    · have : s.all id = true := h1.1 q1
                      exact .inl ⟨q1, by rw [h3, if_neg (by rw [this]; simp)]⟩
                    · have q1' : s.all id = false := by simpa using fun h => q1 (h1.2 h)
                      by_cases q2 : m2 = 0
                      · exact .inr (.inl ⟨q1, q2, by rw [h3, if_pos ⟨q1', h2.1 q2⟩]⟩)
                      · exact .inr (.inr ⟨q1, q2, by rw [h3, if_neg (fun h => q2 (h2.2 h.2))]⟩)
                  have HGD := Lib.hid hgd
                  generalize hgl : got.length = gl at *
                  have HGL := Lib.hid hgl
                  clear hgl hgd
                  clear hlk hls hsk
                  go_upto_region 22 with fail
                  obtain ⟨V2, hV2⟩ : ∃ V2, V2 = wc.setCell ⟨W3.heap.size + 1, kk, none⟩ (.bool true) := ⟨_, rfl⟩
                  have H2B := Lib.hid (show Below W3.heap.size W3 V2 by rw [hV2]; exact HBV.out.setCell (Nat.le_succ _) _)
                  have H28 := Lib.hid (show Box V2 W3.heap.size [.slice Av2 0 cv2, .slice Au2 is2.length cu2] by rw [hV2]; exact HV8.out.far (by show _ ≠ W3.heap.size + 1; omega) _)
                  have H2S := Lib.hid (show Box V2 (W3.heap.size + 1) ((s.set kk true).map fun b => .bool b) by rw [hV2, List.map_set]; exact HVS.out.set kk (.bool true))
                  have H2A := Lib.hid (show Box V2 w.heap.size (accCs ⟨src, dst, app, ttl, src, iv, seq⟩ (.slice A l.length c)) by rw [hV2]; exact HVA.out.far (by have := HX3.out.lt; show _ ≠ W3.heap.size + 1; omega) _)
                  have H2O := Lib.hid (show RowV2 outCs 10 OutS.parts V2 (W3.heap.size + 2) V2.heap.size (.slice Av2 0 cv2) [] by rw [hV2]; exact (HVO.out.far (by omega) kk _).mono (Nat.le_refl _) (by simp))
                  have H2I := Lib.hid (show RowV2 inCs 11 InS.parts V2 (W3.heap.size + 2) V2.heap.size (.slice Au2 is2.length cu2) is2 by rw [hV2]; exact (HVI.out.far (by omega) kk _).mono (Nat.le_refl _) (by simp))
                  have H2G := Lib.hid (show AccsV2 V2 (W3.heap.size + 2) V2.heap.size (.slice Ag gl cg) got by rw [hV2]; exact (HVG.out.far (by omega) kk _).mono (Nat.le_refl _) (by simp))
                  rw [← hV2]
                  clear hV2 HBV HV8 HVS HVA HVO HVI HVG k0 kf kz
                  obtain ⟨Vp, rfl⟩ : ∃ Vp : World, Vp = V2 := ⟨_, rfl⟩
                  go_cut [139] (fun t wx => t = .bool false ∧ wx = Vp)
                  case first =>
                    rcases HGD.out with ⟨h1, hg⟩ | ⟨h1, h2, hg⟩ | ⟨h1, h2, hg⟩
                    · obtain rfl : gl = 0 := by rw [← HGL.out, hg]; rfl
                      obtain rfl : m2 = 0 := by omega
                      subst h1
                      clear hg hm
                      go_wp2_with fail
                      go_meet
                      exact ⟨rfl, rfl⟩
                    · have u1 : 0 < m1 := by omega
                      obtain rfl : gl = 1 := by rw [← HGL.out, hg]; rfl
                      subst h2
                      clear hg h1 hm
                      go_wp2_with fail
                      go_meet
                      exact ⟨rfl, rfl⟩
                    · have u1 : 0 < m1 := by omega
                      have u2 : ((m2 : Int) == 0) = false := by
                        have : (m2 : Int) ≠ 0 := by omega
                        simpa using this
                      obtain rfl : gl = 0 := by rw [← HGL.out, hg]; rfl
                      clear hg h1 hm
                      go_wp2_with fail
                      go_meet
                      exact ⟨rfl, rfl⟩
                  case rest =>
                    obtain ⟨rfl, rfl⟩ := hcut
                    have hga : got = [] ∨ got = [whole ⟨src, dst, app, ttl, src, iv, seq⟩ l] := by
                      rcases HGD.out with ⟨_, hg⟩ | ⟨_, _, hg⟩ | ⟨_, _, hg⟩
                      · exact .inl hg
                      · exact .inr hg
                      · exact .inl hg
                    rcases hga with hg | hg
                    · have hg0 : gl = 0 := by rw [← HGL.out, hg]; rfl
                      have u5 : ((gl : Int) == 1) = false := by rw [hg0]; rfl
                      go_wp2_with fail
                      go_roundw
                      case rel => exact ⟨k + 1, s.set kk true, is2, _, _, by omega, by go_num, by rw [HM2.out], by rw [List.length_set]; exact HSC.out, HRS.out.1, HWR.out, H28.out, H2S.out, H2O.out, H2I.out, H2B.out⟩
                      case measure => simp [intOf]; omega
                    · obtain rfl : gl = 1 := by rw [← HGL.out, hg]; rfl
                      have H2G' := H2G.out
                      rw [hg] at H2G'
                      have a0 := H2A.out.cell (j := 0) rfl
                      have a1 := H2A.out.cell (j := 1) rfl
                      have a2 := H2A.out.cell (j := 2) rfl
                      have a3 := H2A.out.cell (j := 3) rfl
                      have a4 := H2A.out.cell (j := 4) rfl
                      have a5 := H2A.out.cell (j := 5) rfl
                      have a6 := H2A.out.cell (j := 6) rfl
                      have a7 := H2A.out.cell (j := 7) rfl
                      have HGG := Lib.hid H2G'
                      clear H2G'
                      dsimp only at a0 a1 a2 a3 a4 a5 a6
                      go_wp2_with fail
                      have hsa := sameacc_any (.slice Ag 1 cg) (.slice (some ⟨wc.heap.size, 0, none⟩) 1 1) [whole ⟨src, dst, app, ttl, src, iv, seq⟩ l] (wc.alloc (.cells #[.int .u16 (src : Int), .int .u16 (dst : Int), .bool app, .int .i64 ttl, .int .u16 (src : Int), .int .u32 (iv : Int), .int .u32 (seq : Int), .slice A l.length c] 43)) (ManyV.on HGG.out.weak (al1 _ _)) (accs_lit ⟨src, dst, app, ttl, src, iv, seq⟩ l A l.length c ((HB.out.on HA3.out).on H2B.out)) (by simp)
                      refine hsa.mono ?_
                      rintro e w7 ⟨rfl, hb7⟩
                      have hb8 : Below wc.heap.size wc w7 := one hb7
                      have H78 := Lib.hid (H28.out.on hb8)
                      have H7S := Lib.hid (H2S.out.on hb8)
                      have H7O := Lib.hid (H2O.out.on hb8)
                      have H7I := Lib.hid (H2I.out.on hb8)
                      have H7B := Lib.hid (H2B.out.trans (hb8.mono H2B.out.size))
                      clear hsa hb7 hb8 a0 a1 a2 a3 a4 a5 a6 a7
                      go_wp2_with fail
                      go_roundw
                      case rel => exact ⟨k + 1, s.set kk true, is2, _, _, by omega, by go_num, by rw [HM2.out], by rw [List.length_set]; exact HSC.out, HRS.out.1, HWR.out, H78.out, H7S.out, H7O.out, H7I.out, H7B.out⟩
                      case measure => simp [intOf]; omega
            · clear hrel hwf hb8 hbs hvO hvI hbel
              go_wp2_with fail
              refine (lives_any _).mono ?_
              rintro e w4 ⟨rfl, hb4⟩
              have HA4 := Lib.hid ((HA3.out.trans (HBE.out.mono HA3.out.size)).trans (hb4.mono (Nat.le_trans HA3.out.size HBE.out.size)))
              clear hb4
              go_wp2
              go_ret
              exact ⟨rfl, HA4.out⟩
        · have hsl : sendL [] ⟨src, dst, app, ttl, src, iv, seq⟩ l 5 = [] := if_pos hrf
          have hso : sendO [] ⟨src, dst, app, ttl, src, iv, seq⟩ l 5 = [] := if_neg fun h => hrf h.1
          unfold SendPost at CS
          rw [hsl, hso] at CS
          generalize refuseN [] ⟨src, dst, app, ttl, src, iv, seq⟩ l.length = rf at *
          have q4 : (rf != 0) = true := ne_bool hrf
          clear hsl hso
          go_enter Try.func7, Try.ntmps7
          go_upto_region 3 with fail
          have hbx := Box.new w #[.int .u16 (src : Int), .int .u16 (dst : Int), .bool app, .int .i64 ttl, .int .u16 (src : Int), .int .u32 (iv : Int), .int .u32 (seq : Int), .slice A l.length c] 43
          have HA := Lib.hid (al1 w (.cells #[.int .u16 (src : Int), .int .u16 (dst : Int), .bool app, .int .i64 ttl, .int .u16 (src : Int), .int .u32 (iv : Int), .int .u32 (seq : Int), .slice A l.length c] 43))
          generalize w.alloc (.cells #[.int .u16 (src : Int), .int .u16 (dst : Int), .bool app, .int .i64 ttl, .int .u16 (src : Int), .int .u32 (iv : Int), .int .u32 (seq : Int), .slice A l.length c] 43) = W1 at *
          have a0 := hbx.cell (j := 0) rfl
          have a1 := hbx.cell (j := 1) rfl
          have a2 := hbx.cell (j := 2) rfl
          have a3 := hbx.cell (j := 3) rfl
          have a4 := hbx.cell (j := 4) rfl
          have a5 := hbx.cell (j := 5) rfl
          have a6 := hbx.cell (j := 6) rfl
          have a7 := hbx.cell (j := 7) rfl
          clear hbx
          go_wp2_with fail
          refine (CS.out _ HA.out).mono ?_
          rintro e w2 ⟨hb2, v, u, x, rfl, hO, hI, hL⟩
          obtain ⟨A2, c2, rfl⟩ := rowV_form hO.weak
          obtain ⟨A3, c3, rfl⟩ := rowV_form hI.weak
          obtain ⟨A4, c4, rfl⟩ := hL.form
          have HA2 := Lib.hid (bthen HA.out hb2)
          clear hb2 hO hI hL a0 a1 a2 a3 a4 a5 a6 a7
          go_wp2_with fail
          refine (lives_any _).mono ?_
          rintro e w4 ⟨rfl, hb4⟩
          have HA4 := Lib.hid (bthen (HA2.out.alloc HA2.out.size _) hb4)
          clear hb4
          go_wp2
          go_ret
          exact ⟨rfl, HA4.out⟩
      · have q1 : decide ((l.length : Int) ≤ 15) = false := decide_eq_false (by omega)
        have q2 : decide (200 < (ol.length : Int)) = false := decide_eq_false (by omega)
        have q3 : ((ssrc : Int) != (src : Int)) = true := ne_bool fun h => hss (by omega)
        go_enter Try.func7, Try.ntmps7
        go_wp2_with fail
        refine (lives_any _).mono ?_
        rintro e w4 ⟨rfl, hb4⟩
        have HA4 := Lib.hid (one hb4)
        clear hb4
        go_wp2
        go_ret
        exact ⟨rfl, HA4.out⟩
end Go.Proofs.Ytkpjinkkjbljkaa
