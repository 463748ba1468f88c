/- The walk of adata.Decode. No condition. -/
import Derived.Test.YtncenlmfhnljgaaAd3
import Derived.OwnWalkIn
namespace Go.Proofs.Ytncenlmfhnljgaa
open Go.RowKit

/-- append onto a row of the call's own, inside a fence. -/
theorem appIn_sl {F : Fence} {nn : Nat} {P : Program} {w : World} {ops : Array Oper} {rest : List Oper} {o : Oper} {a : Act} {Q : Exit → Act → World → Prop} {t e : TypeId} {size bytes B : Nat} (E : El P t e size bytes) (hgd : o.guard = none) (s y : Operand)
    (ho : o.op = .call { callee := .builtin .append, args := #[s, y], argTypes := #[t, t] }) {base n m : Nat} {v x : Value} {xs news : List Value} (hs : a.eval s = v) (hown : w.ownsRow base e size v n xs) (hy : a.eval y = x) (hx : Sl w B size x m news)
    (h1 : ∀ u ∈ news, u.oneCell' = true) (hbytes : (n + m) * bytes ≤ 140737488355328) (hbase : base ≤ w.heap.size)
    (h : ∀ v' w', w'.ownsRow base e size v' (n + m) (xs ++ news) → w.grownBy w' v.ownBlock → wpListIn F nn P ops Q rest (a.put o.dst v') w') : wpListIn F nn P ops Q (o :: rest) a w := by
  obtain ⟨v', w', hr, h2, h3, h4, h5⟩ := run_append_sl (P := P) w E o.type hown hx h1 hbytes hbase
  refine wpListIn_plain hgd fun K' hK' => ?_
  unfold Oper.wpIn
  refine ⟨?_, ?_⟩
  · simp [Oper.about, ho, resolve, Target.leads, Sem.run_pure]
  · rw [Oper.semAt_plain F _ _ (by rw [ho]; intro c hc'; cases hc')]
    simp only [execOp, ho, resolve, invoke, builtin, Sem.run_bind, Sem.run_pure, Result.andThen_ok, List.map_toArray, List.map_cons, List.map_nil, hs, hy, hr]
    exact hK' _ _ (h v' w' h2 h3)
/-- One plain operation inside a fence. -/
theorem stepIn {F : Fence} {nn : Nat} {P : Program} {w w' : World} {ops : Array Oper} {rest : List Oper} {o : Oper} {a : Act} {Q : Exit → Act → World → Prop} {v : Value} (hgd : o.guard = none) (hd : ∀ c, o.op ≠ .defer c) (hF : ∀ f, F.fn f)
    (hr : (execOp a.eval o).run P w = .ok (.value v) w') (h : wpListIn F nn P ops Q rest (a.put o.dst v) w') : wpListIn F nn P ops Q (o :: rest) a w := by
  refine wpListIn_plain hgd fun K' hK' => ?_
  unfold Oper.wpIn
  refine ⟨fun f _ => hF f, ?_⟩
  rw [Oper.semAt_plain F _ _ hd, hr]
  exact hK' _ _ h
theorem stepIn_skip {F : Fence} {nn : Nat} {P : Program} {w w' : World} {ops : Array Oper} {rest : List Oper} {o : Oper} {a : Act} {Q : Exit → Act → World → Prop} (hgd : o.guard = none) (hd : ∀ c, o.op ≠ .defer c) (hF : ∀ f, F.fn f)
    (hr : (execOp a.eval o).run P w = .ok .skip w') (h : wpListIn F nn P ops Q rest (a.put o.dst undef) w') : wpListIn F nn P ops Q (o :: rest) a w := by
  refine wpListIn_plain hgd fun K' hK' => ?_
  unfold Oper.wpIn
  refine ⟨fun f _ => hF f, ?_⟩
  rw [Oper.semAt_plain F _ _ hd, hr]
  exact hK' _ _ h
theorem ne_bool' {a b : Int} (h : a ≠ b) : (a != b) = true := by simpa using h
theorem res_dec {fn : Func} {i j : Tmp} (h : fn.results = #[.cell i 22, .cell j 25]) (tmps : Array Value) (w : World) (b c : Nat) (u : Value) (er : Int) (hp : tmps.getD i undef = .pointer (some ⟨b, 0, none⟩)) (hq : tmps.getD j undef = .pointer (some ⟨c, 0, none⟩)) (hs : Box w b [u]) (ht : Box w c [.int .i64 er]) (hu : ∃ A n c, u = .slice A n c) :
    (results fn tmps).run Try.prog w = .ok (.tuple #[u, .int .i64 er]) w := by
  obtain ⟨A, n, c, rfl⟩ := hu
  have c0 := hs.cell (j := 0) rfl
  have c1 := ht.cell (j := 0) rfl
  rw [Array.getD_eq_getD_getElem?] at hp hq
  simp [results, h, hp, hq, go_sem, c0, c1]
set_option maxRecDepth 100000 in
set_option maxHeartbeats 4000000 in
theorem adecode_long (v : Value) (l : List UInt8) (w : World) (hb : BS w w.heap.size v l) (h31 : 31 < l.length) : Calls Try.prog 14 #[v] w (ADecPost w l) := by
  obtain ⟨A, c, rfl, _⟩ := id hb
  have HQ := Lib.hid (show ∀ (w' : World), Below w.heap.size w w' → ADecPost w l (.returned (.tuple #[.slice none 0 0, .int .i64 4])) w' from fun w' h => ⟨h, _, by unfold adE; rw [if_pos h31], by unfold adL adE; rw [if_pos h31, if_neg (by decide)]; exact ManyV.nil _ _⟩)
  generalize ADecPost w l = Q at *
  generalize l.length = n at *
  have g31 : decide (31 < n) = true := decide_eq_true h31
  clear hb
  go_enter Try.func14, Try.ntmps14
  go_wp2
  refine bodyPost_ret (res_dec rfl _ _ w.heap.size (w.heap.size + 1) (.slice none 0 0) 4 rfl rfl ?_ ?_ ⟨_, _, _, rfl⟩) rfl (HQ.out _ ?_)
  · exact (Box.new w _ _).alloc _
  · have h := Box.new (w.alloc (.cells #[.slice none 0 0] 22)) #[.int .i64 4] 25
    rw [World.size_alloc] at h
    exact h
  · exact al2 _ _ _

set_option maxRecDepth 100000 in
set_option maxHeartbeats 4000000 in
theorem adecode_short (v : Value) (l : List UInt8) (w : World) (hb : BS w w.heap.size v l) (h31 : ¬ 31 < l.length) : Calls Try.prog 14 #[v] w (ADecPost w l) := by
  obtain ⟨A, c, rfl, _⟩ := id hb
  have HB := Lib.hid hb
  have HQe := Lib.hid (show ∀ (w' : World), Below w.heap.size w w' → (elA l).2 ≠ 0 → ADecPost w l (.returned (.tuple #[.slice none 0 0, .int .i64 (elA l).2])) w' from fun w' h h0 => ⟨h, _, by unfold adE; rw [if_neg h31], by unfold adL adE; rw [if_neg h31, if_neg h0]; exact ManyV.nil _ _⟩)
  have HQo := Lib.hid (show ∀ (w' : World) (u : Value), Below w.heap.size w w' → (elA l).2 = 0 → ElsV w' w'.heap.size u (elA l).1 → ADecPost w l (.returned (.tuple #[u, .int .i64 0])) w' from fun w' u h h0 hu => ⟨h, u, by unfold adE; rw [if_neg h31, h0], by unfold adL adE; rw [if_neg h31, if_pos h0]; exact hu⟩)
  generalize hQ : ADecPost w l = Q at *
  generalize hn : l.length = n at *
  have HN := Lib.hid hn
  have g31 : decide (31 < n) = false := decide_eq_false h31
  clear hb hQ hn
  refine (callsIn_wide (n := 0)).1 ?_
  refine callsIn_of_wp_marks Try.func14 rfl trivial ?_
  simp only [Try.ntmps14, List.size_toArray, List.length_cons, List.length_nil, Nat.reduceAdd, Nat.reduceSub, Array.replicate_succ, Array.replicate_zero, List.push_toArray, List.append_toArray, List.nil_append, List.cons_append]
  refine wpIn_wide.2 ?_
  go_wp2_with fail
  refine (elements_any _ _ ⟨_, _, _, rfl⟩).mono ?_
  rintro e w1 ⟨rfl, rfl⟩
  go_wp2_with fail
  obtain ⟨W, hW⟩ : ∃ W, W = (((w.alloc (.cells #[.slice none 0 0] 22)).alloc (.cells #[.int .i64 0] 25)).alloc (.cells #[.slice none 0 0] 22)).alloc (.cells #[.slice A n c] 24) := ⟨_, rfl⟩
  have hA : Below w.heap.size w W := by rw [hW]; exact al4 _ _ _ _ _
  have hz : W.heap.size = w.heap.size + 4 := by rw [hW]; simp
  have b0 : Box W w.heap.size [.slice none 0 0] := by rw [hW]; exact (((Box.new _ _ _).alloc _).alloc _).alloc _
  have b1 : Box W (w.heap.size + 1) [.int .i64 0] := by
    rw [hW]
    have h := Box.new (w.alloc (.cells #[.slice none 0 0] 22)) #[.int .i64 0] 25
    rw [World.size_alloc] at h
    exact (h.alloc _).alloc _
  have b2 : Box W (w.heap.size + 2) [.slice none 0 0] := by
    rw [hW]
    have h := Box.new ((w.alloc (.cells #[.slice none 0 0] 22)).alloc (.cells #[.int .i64 0] 25)) #[.slice none 0 0] 22
    rw [World.size_alloc, World.size_alloc] at h
    exact h.alloc _
  have b3 : Box W (w.heap.size + 3) [.slice A n c] := by
    rw [hW]
    have h := Box.new (((w.alloc (.cells #[.slice none 0 0] 22)).alloc (.cells #[.int .i64 0] 25)).alloc (.cells #[.slice none 0 0] 22)) #[.slice A n c] 24
    rw [World.size_alloc, World.size_alloc, World.size_alloc] at h
    exact h
  rw [← hW]
  clear hW
  refine range_dec (l := l) (cv := .slice A n c) (by rw [HN.out]; omega) rfl b0 b1 b2 b3 hz hA HB.out ?ok ?err ?done ?stop
  case ok =>
    intro rc pre cv W1 k A' n' c' val hst hpe hd ho hp
    gi_wp2_with (rw [Oper.semAt_eq _ _ _ (fun c h => by cases h)]; go_simp; try go_bits)
    have hd1 := hd.on (al1 W1 (.cells #[.int .i64 k, .slice A' n' c'] 49))
    have hbx := Box.new W1 #[.int .i64 k, .slice A' n' c'] 49
    have hlt := heap_lt hd.lp
    refine ⟨_, run_beginRound hd1.lp hst, ?_⟩
    have hd2 := hd1.put { rc with state := .busy }
    have hbx2 := hbx.putObj (show W1.heap.size ≠ w.heap.size + 5 by omega) (.loop { rc with state := .busy })
    have hob2 : OB ((W1.alloc (.cells #[.int .i64 k, .slice A' n' c'] 49)).putObj (w.heap.size + 5) (.loop { rc with state := .busy })) (w.heap.size + 6) (.slice A' n' c') val :=
      own_apart (ho.alloc _) (grownBy_putObj' _ _ _) fun g hg he => by
        have h1 := (ho.lt g hg).1
        have h2 := Option.some.inj he
        omega
    obtain ⟨W2, hW2⟩ : ∃ W2, W2 = (W1.alloc (.cells #[.int .i64 k, .slice A' n' c'] 49)).putObj (w.heap.size + 5) (.loop { rc with state := .busy }) := ⟨_, rfl⟩
    rw [← hW2] at hd2 hbx2 hob2 ⊢
    clear hW2 hd1 hbx hd ho
    obtain ⟨pv, hpb, hpe'⟩ := hd2.ot
    obtain ⟨vs, v1, v2, v3⟩ := hpe'
    obtain ⟨A5, c5, rfl⟩ := own_form v2
    have d4 : W2.cell? ⟨w.heap.size + 1 + 1, 0, none⟩ = some (.slice A5 pre.length c5) := hpb.cell (j := 0) rfl
    have f4 : W2.frozen? ⟨w.heap.size + 1 + 1, 0, none⟩ = false := hpb.free 0
    have z4 : w.heap.size + 1 + 1 < W2.heap.size := hpb.lt
    have d50 := hbx2.cell (j := 0) rfl
    have d51 := hbx2.cell (j := 1) rfl
    have z5 := hbx2.lt
    have z6 := heap_lt hd2.lp
    have HD2 := Lib.hid hd2
    have HPB := Lib.hid hpb
    have HV := Lib.hid (And.intro v1 v2)
    have HV3 := Lib.hid v3
    have HOB := Lib.hid hob2
    have HP := Lib.hid hp
    have HPE := Lib.hid hpe
    have HST := Lib.hid hst
    clear hd2 hbx2 hob2 hpb v1 v2 v3 hp hpe hst hlt
    gi_upto_region 9 with (rw [Oper.semAt_eq _ _ _ (fun c h => by cases h)]; go_simp; try go_bits)
    refine wpIn_region_lit ?_
    refine stepIn (v := .slice A5 pre.length c5) (w' := W2) rfl (fun c h => by cases h) (fun _ => trivial) (by go_simp) ?_
    simp only [Act.put, List.setIfInBounds_toArray, List.set_cons_zero, List.set_cons_succ]
    refine stepIn (v := .agg #[.int .i64 k, .slice A' n' c']) (w' := W2) rfl (fun c h => by cases h) (fun _ => trivial) (by go_simp) ?_
    simp only [Act.put, List.setIfInBounds_toArray, List.set_cons_zero, List.set_cons_succ]
    refine stepIn (v := .slice (some ⟨W2.heap.size, 0, none⟩) 1 1) (w' := W2.alloc (.cells #[.int .i64 k, .slice A' n' c'] 49)) rfl (fun c h => by cases h) (fun _ => trivial) (by go_simp) ?_
    simp only [Act.put, List.setIfInBounds_toArray, List.set_cons_zero, List.set_cons_succ]
    refine appIn_sl elE rfl (.tmp 17) (.tmp 19) rfl rfl (HV.out.2.alloc _) rfl (Sl.lit _ _ _ 1 rfl (by simp [maxLen])) ?_ ?_ ?_ ?_
    · intro u hu; simp at hu; rcases hu with rfl | rfl <;> rfl
    · have := HP.out; omega
    · exact Nat.le_trans z6 (by simp)
    intro v9 w9 hown9 hg9
    have hb9 : Below (w.heap.size + 6) W2 w9 := below_app ((Below.refl _ _).alloc z6 _) (HV.out.2.alloc _) hg9 (Nat.le_refl _) (Nat.le_trans z6 (by simp))
    have e4 : w9.cell? ⟨w.heap.size + 1 + 1, 0, none⟩ = some (.slice A5 pre.length c5) := (HPB.out.keep hb9 (by omega)).cell (j := 0) rfl
    have g4 : w9.frozen? ⟨w.heap.size + 1 + 1, 0, none⟩ = false := (HPB.out.keep hb9 (by omega)).free 0
    have y4 : w.heap.size + 1 + 1 < w9.heap.size := (HPB.out.keep hb9 (by omega)).lt
    obtain ⟨A6, c6, rfl⟩ := own_form hown9
    simp only [Act.put, List.setIfInBounds_toArray, List.set_cons_zero, List.set_cons_succ]
    refine stepIn_skip (w' := w9.setCell ⟨w.heap.size + 1 + 1, 0, none⟩ (.slice A6 (pre.length + 1) c6)) rfl (fun c h => by cases h) (fun _ => trivial) (by go_simp) ?_
    simp only [Act.put]
    refine wpListIn_nil ?_
    have HB9 := Lib.hid hb9
    have HO9 := Lib.hid hown9
    have HG9 := Lib.hid (show (W2.alloc (.cells #[.int .i64 k, .slice A' n' c'] 49)).grownBy w9 (Value.ownBlock (.slice A5 pre.length c5)) from hg9)
    clear hown9 hg9 hb9 e4 g4 y4 d4 f4 d50 d51
    gi_wp2
    have hds : DS w { rc with state := .busy } (pre ++ [(k, val)]) cv (w9.setCell ⟨w.heap.size + 2, 0, none⟩ (.slice A6 (pre.length + 1) c6)) := by
      have hd2 := HD2.out
      have hkp : Below (w.heap.size + 6) W2 w9 := HB9.out
      have hO : OwnEls w9 (w.heap.size + 6) (.slice A6 (pre.length + 1) c6) (pre ++ [(k, val)]) :=
        ownM_snoc (w := W2.alloc (.cells #[.int .i64 k, .slice A' n' c'] 49)) (vs := vs) (u := .slice A' n' c') HV.out.1 rfl (by decide) (HV.out.2.alloc _) (fun i p u hp hu => (HV3.out i p u hp hu).alloc _) (HOB.out.alloc _) HO9.out HG9.out
      refine ⟨?_, ?_, (hd2.r0.keep hkp (by omega)).far (by simp) _, (hd2.r1.keep hkp (by omega)).far (by simp) _, ⟨_, (HPB.out.keep hkp (by omega)).set 0 _, hO.far (by omega) 0 _⟩, (hd2.cp.keep hkp (by omega)).far (by simp) _, (hd2.bl.trans (hkp.mono (by omega))).setCell (by simp) _⟩
      · rw [heap_setCell_other _ _ _ _ (by simp), hkp.block _ (by omega)]; exact hd2.lp
      · rw [heap_setCell_other _ _ _ _ (by simp), hkp.block _ (by omega)]; exact hd2.df
    refine ⟨_, _, run_endRound none hds.lp, rfl, ?_⟩
    have h := hds.put { rc with state := .ready }
    have hrc : ({ rc with state := .ready } : Loop) = rc := by
      have h1 := HST.out
      cases rc
      simp only at h1
      subst h1
      rfl
    rw [hrc] at h
    have hrc2 : ({ ({ rc with state := .busy } : Loop) with state := if (none : Option Code).isNone then LoopState.ready else LoopState.done, pending := none } : Loop) = rc := by
      have h1 := HST.out
      have h2 := HPE.out
      cases rc
      simp only at h1 h2
      subst h1 h2
      rfl
    rw [hrc2]
    exact h
  case err =>
    intro rc pre cv W1 er hst hpe hd he
    have he' := ne_bool' he
    gi_wp2_with (rw [Oper.semAt_eq _ _ _ (fun c h => by cases h)]; go_simp; try go_bits)
    have hd1 := hd.on (al1 W1 (.cells #[.int .i64 0, .slice none 0 0] 49))
    refine ⟨_, run_beginRound hd1.lp hst, ?_⟩
    have hd2 := hd1.put { rc with state := .busy }
    obtain ⟨W2, hW2⟩ : ∃ W2, W2 = (W1.alloc (.cells #[.int .i64 0, .slice none 0 0] 49)).putObj (w.heap.size + 5) (.loop { rc with state := .busy }) := ⟨_, rfl⟩
    rw [← hW2] at hd2 ⊢
    clear hW2 hd1 hd
    have c0 := hd2.r0.cell (j := 0) rfl
    have c1 := hd2.r1.cell (j := 0) rfl
    have f0 := hd2.r0.free 0
    have f1 := hd2.r1.free 0
    have z0 := hd2.r0.lt
    have z1 := hd2.r1.lt
    have HD2 := Lib.hid hd2
    clear hd2
    gi_wp2_with (rw [Oper.semAt_eq _ _ _ (fun c h => by cases h)]; go_simp; try go_bits)
    have hd2 := HD2.out
    have q5 : ((W2.setCell ⟨w.heap.size, 0, none⟩ (.slice none 0 0)).setCell ⟨w.heap.size + 1, 0, none⟩ (.int .i64 er)).heap[w.heap.size + 5]? = some (.loop { rc with state := .busy }) := by
      rw [heap_setCell_other _ _ _ _ (by simp), heap_setCell_other _ _ _ _ (by simp)]; exact hd2.lp
    refine ⟨_, _, run_endRound (some .ret) q5, rfl, ?_⟩
    refine ⟨World.putObj_heap_same (heap_lt q5), ?_, ?_, ?_, ?_⟩
    · rw [World.putObj_heap_other (by omega), heap_setCell_other _ _ _ _ (by simp), heap_setCell_other _ _ _ _ (by simp)]; exact hd2.df
    · exact ((hd2.r0.set 0 (.slice none 0 0)).far (by simp) _).putObj (by omega) _
    · exact ((hd2.r1.far (by simp) _).set 0 (.int .i64 er)).putObj (by omega) _
    · exact below_putObj ((hd2.bl.setCell (Nat.le_refl _) _).setCell (by simp) _) (by omega) _
  case done =>
    intro rc cv W1 h0 hd
    obtain ⟨pv, hpb, hpe⟩ := hd.ot
    obtain ⟨A5, c5, rfl⟩ := hpe.form
    have c4 : W1.cell? ⟨w.heap.size + 1 + 1, 0, none⟩ = some (.slice A5 (elA l).1.length c5) := hpb.cell (j := 0) rfl
    have z4 : w.heap.size + 1 + 1 < W1.heap.size := hpb.lt
    have c0 := hd.r0.cell (j := 0) rfl
    have c1 := hd.r1.cell (j := 0) rfl
    have f0 := hd.r0.free 0
    have f1 := hd.r1.free 0
    have z0 := hd.r0.lt
    have z1 := hd.r1.lt
    have HD := Lib.hid hd
    have HPE := Lib.hid hpe
    have H0 := Lib.hid h0
    clear hd hpb hpe h0
    go_wp2
    have hd := HD.out
    have q4 : ((W1.setCell ⟨w.heap.size, 0, none⟩ (.slice A5 (elA l).1.length c5)).setCell ⟨w.heap.size + 1, 0, none⟩ (.int .i64 0)).heap[w.heap.size + 4]? = some (.deferred (some [])) := by
      rw [heap_setCell_other _ _ _ _ (by simp), heap_setCell_other _ _ _ _ (by simp)]; exact hd.df
    refine ⟨by simp, .inl ⟨_, _, rfl, run_takeDeferred q4, ?_⟩⟩
    refine ⟨_, res_dec rfl _ _ w.heap.size (w.heap.size + 1) (.slice A5 (elA l).1.length c5) 0 rfl rfl (((hd.r0.set 0 _).far (by simp) _).putObj (by omega) _) (((hd.r1.far (by simp) _).set 0 _).putObj (by omega) _) ⟨_, _, _, rfl⟩, ?_⟩
    exact HQo.out _ _ (below_putObj ((hd.bl.setCell (Nat.le_refl _) _).setCell (by simp) _) (by omega) _) H0.out (((HPE.out.far (by omega) 0 _).far (by omega) 0 _).putObj (by omega) _).reads
  case stop =>
    intro W1 h0 hdf hb0 hb1 hbl
    go_wp2
    refine ⟨by simp, .inl ⟨_, _, rfl, run_takeDeferred hdf, ?_⟩⟩
    refine ⟨_, res_dec rfl _ _ w.heap.size (w.heap.size + 1) (.slice none 0 0) (elA l).2 rfl rfl (hb0.putObj (by omega) _) (hb1.putObj (by omega) _) ⟨_, _, _, rfl⟩, ?_⟩
    exact HQe.out _ (below_putObj hbl (by omega) _) h0
theorem adecode_any (v : Value) (l : List UInt8) (w : World) (hb : BS w w.heap.size v l) : Calls Try.prog 14 #[v] w (ADecPost w l) := by
  by_cases h : 31 < l.length
  · exact adecode_long v l w hb h
  · exact adecode_short v l w hb h
end Go.Proofs.Ytncenlmfhnljgaa
