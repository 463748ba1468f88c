/- The iterator of package adata: for every loop over it, the rounds that it asks for. No condition. -/
import Derived.Test.YtncenlmfhnljgaaAd2
import Derived.Stop.RegionWithIn
import Derived.LoopIn
import Derived.Sort.CutIn
namespace Go.Proofs.Ytncenlmfhnljgaa
open Go.RowKit

def boxLen (W : World) (b : Nat) : Nat := match W.cell? ⟨b, 0, none⟩ with | some (.slice _ n _) => n | _ => 0
/-- Between two rounds of Decode's loop: the loop's record, its block for deferred calls, the results, the elements so far, the iterator's variable. -/
structure DS (w : World) (rc : Loop) (pre : List (Int × List UInt8)) (cv : Value) (W : World) : Prop where
  lp : W.heap[w.heap.size + 5]? = some (.loop rc)
  df : W.heap[w.heap.size + 4]? = some (.deferred (some []))
  r0 : Box W w.heap.size [.slice none 0 0]
  r1 : Box W (w.heap.size + 1) [.int .i64 0]
  ot : ∃ pv, Box W (w.heap.size + 2) [pv] ∧ OwnEls W (w.heap.size + 6) pv pre
  cp : Box W (w.heap.size + 3) [cv]
  bl : Below w.heap.size w W
theorem heap_lt {W : World} {k : Nat} {o : Obj} (h : W.heap[k]? = some o) : k < W.heap.size := (Array.getElem?_eq_some_iff.1 h).1
theorem heap_on {W W' : World} {k : Nat} {o : Obj} (h : W.heap[k]? = some o) (hb : Below W.heap.size W W') : W'.heap[k]? = some o := by rw [hb.block k (heap_lt h)]; exact h
section
variable {w W W' : World} {rc : Loop} {pre : List (Int × List UInt8)} {cv : Value}
theorem DS.on (h : DS w rc pre cv W) (hb : Below W.heap.size W W') : DS w rc pre cv W' := by
  obtain ⟨pv, h1, h2⟩ := h.ot
  exact ⟨heap_on h.lp hb, heap_on h.df hb, h.r0.on hb, h.r1.on hb, ⟨pv, h1.on hb, h2.on hb⟩, h.cp.on hb, h.bl.trans (hb.mono h.bl.size)⟩
theorem DS.cap (h : DS w rc pre cv W) (cv' : Value) : DS w rc pre cv' (W.setCell ⟨w.heap.size + 3, 0, none⟩ cv') := by
  obtain ⟨pv, h1, h2⟩ := h.ot
  refine ⟨?_, ?_, h.r0.far (by simp) _, h.r1.far (by simp) _, ⟨pv, h1.far (by simp) _, h2.far (by omega) 0 _⟩, h.cp.set 0 cv', h.bl.setCell (by simp) _⟩
  · rw [heap_setCell_other _ _ _ _ (by simp)]; exact h.lp
  · rw [heap_setCell_other _ _ _ _ (by simp)]; exact h.df
end
/-- Behind a round that has left by 'return': the error is in the result. -/
structure DX (w : World) (rc : Loop) (er : Int) (W : World) : Prop where
  lp : W.heap[w.heap.size + 5]? = some (.loop { rc with state := .done, pending := some .ret })
  df : W.heap[w.heap.size + 4]? = some (.deferred (some []))
  r0 : Box W w.heap.size [.slice none 0 0]
  r1 : Box W (w.heap.size + 1) [.int .i64 er]
  bl : Below w.heap.size w W

/-- The front of a slice of bytes. -/
theorem BS.front {w : World} {B c : Nat} {A : Option Addr} {l : List UInt8} (h : BS w B (.slice A l.length c) l) {k : Nat} (hk : k ≤ l.length) : BS w B (.slice A k c) (l.take k) := by
  obtain ⟨A', c', e, h1, h2, h3, h4⟩ := h
  injection e with e1 e2 e3
  subst e1 e3
  have hl : (l.take k).length = k := by rw [List.length_take]; omega
  refine ⟨A, c, by rw [hl], by rw [hl]; omega, h2, by rw [bys_length, hl]; omega, ?_⟩
  rcases h4 with h4 | ⟨b, off, rfl, hb, hc⟩
  · exact .inl (by rw [bys_take, h4, List.take_nil])
  · refine .inr ⟨b, off, rfl, hb, fun j u hu => hc j u ?_⟩
    rw [bys_take, List.getElem?_take] at hu
    split at hu
    · exact hu
    · cases hu
theorem Box.putObj {W : World} {b k : Nat} {cs : List Value} (h : Box W b cs) (hne : b ≠ k) (o : Obj) : Box (W.putObj k o) b cs := by
  obtain ⟨t, h⟩ := h
  exact ⟨t, by rw [World.putObj_heap_other hne]; exact h⟩
theorem OwnM.putObj {α : Type} {f : α → Value → List Value} {m : Nat} {bf : α → List UInt8} {t : TypeId} {W : World} {base k : Nat} {v : Value} {ps : List α} (h : OwnM f m bf t W base v ps) (hk : k < base) (o : Obj) : OwnM f m bf t (W.putObj k o) base v ps := by
  obtain ⟨vs, h1, h2, h3⟩ := h
  have key : ∀ {e : TypeId} {size n : Nat} {u : Value} {xs : List Value}, W.ownsRow base e size u n xs → (W.putObj k o).ownsRow base e size u n xs := fun hr => own_apart hr (grownBy_putObj' W k o) fun g hg => by
    have := (hr.lt g hg).1
    intro he
    have := Option.some.inj he
    omega
  exact ⟨vs, h1, key h2, fun i p u hp hu => key (h3 i p u hp hu)⟩
theorem below_putObj {B : Nat} {a W : World} {k : Nat} (h : Below B a W) (hk : B ≤ k) (o : Obj) : Below B a (W.putObj k o) :=
  ⟨h.os, h.tape, h.output, by rw [World.putObj_size]; exact h.size, fun i hi => (World.putObj_heap_other (by omega)).trans (h.block i hi)⟩
theorem DS.put {w W : World} {rc : Loop} {pre : List (Int × List UInt8)} {cv : Value} (h : DS w rc pre cv W) (rc' : Loop) : DS w rc' pre cv (W.putObj (w.heap.size + 5) (.loop rc')) := by
  obtain ⟨pv, h1, h2⟩ := h.ot
  exact ⟨World.putObj_heap_same (heap_lt h.lp), (World.putObj_heap_other (by omega)).trans h.df, h.r0.putObj (by omega) _, h.r1.putObj (by omega) _, ⟨pv, h1.putObj (by omega) _, h2.putObj (by omega) _⟩, h.cp.putObj (by omega) _, below_putObj h.bl (by omega) _⟩
/-- What the range asks of the iterator, as it ends. -/
theorem end_done {w W : World} {rc : Loop} {pre : List (Int × List UInt8)} {cv : Value} {F : Fence} {n : Nat} {P : Program} {Q : Exit → Act → World → Prop} {a : Act} (v : Value) (hd : DS w rc pre cv W) (hs : rc.state = .ready) (hp : rc.pending = none)
    (h : ∀ W', DS w { rc with state := .exhausted } pre cv W' → Q .normal a W') : rangePost F n P (w.heap.size + 5) Q a (.returned v) W :=
  ⟨none, _, by rw [run_endLoop hd.lp (by rw [hs]; decide), hp], h _ (hd.put _)⟩
theorem end_stop {w W : World} {rc : Loop} {er : Int} {F : Fence} {n : Nat} {P : Program} {Q : Exit → Act → World → Prop} {a : Act} (v : Value) (hx : DX w rc er W)
    (h : ∀ W1 : World, W1.heap[w.heap.size + 4]? = some (.deferred (some [])) → Box W1 w.heap.size [.slice none 0 0] → Box W1 (w.heap.size + 1) [.int .i64 er] → Below w.heap.size w W1 → Q .ret a W1) : rangePost F n P (w.heap.size + 5) Q a (.returned v) W :=
  ⟨some .ret, _, run_endLoop hx.lp (by intro h; cases h), wpIn_ret (h _ ((World.putObj_heap_other (by omega)).trans hx.df) (hx.r0.putObj (by omega) _) (hx.r1.putObj (by omega) _) (below_putObj hx.bl (by omega) _))⟩
set_option maxRecDepth 100000 in
set_option maxHeartbeats 4000000 in
theorem range_dec {asg bdy : Code} {Q : Exit → Act → World → Prop} {a : Act} {w W : World} {l : List UInt8} {cv : Value} (hl : l.length ≤ 31) (hg : a.eval (.tmp 11) = .func (.func 31) #[] #[.pointer (some ⟨w.heap.size + 3, 0, none⟩)])
    (h0 : Box W w.heap.size [.slice none 0 0]) (h1 : Box W (w.heap.size + 1) [.int .i64 0]) (h2 : Box W (w.heap.size + 2) [.slice none 0 0]) (h3 : Box W (w.heap.size + 3) [cv]) (hz : W.heap.size = w.heap.size + 4) (hb : Below w.heap.size w W) (hcv : BS w w.heap.size cv l)
    (hok : ∀ (rc : Loop) (pre : List (Int × List UInt8)) (cv : Value) (W1 : World) (k : Int) (A' : Option Addr) (n' c' : Nat) (val : List UInt8), rc.state = .ready → rc.pending = none → DS w rc pre cv W1 → OB W1 (w.heap.size + 6) (.slice A' n' c') val → pre.length < 32 →
      asg.wpIn (Fence.wide.inRound (w.heap.size + 5)) 0 Try.prog (Exit.then (fun a₁ w₁ => ∃ w₂, (Instr.beginRound (w.heap.size + 5)).run Try.prog w₁ = .ok () w₂ ∧ bdy.wpIn (Fence.wide.inRound (w.heap.size + 5)) 0 Try.prog (roundPost Try.prog (w.heap.size + 5) (fun e W' => e = .returned (.bool true) ∧ DS w rc (pre ++ [(k, val)]) cv W')) a₁ w₂) (fun _ _ _ => False))
        { tmps := ((#[12, 13] : Array Tmp).zip #[Value.agg #[.int .i64 k, .slice A' n' c'], .int .i64 0]).foldl (fun tmps (t, a) => tmps.setIfInBounds t a) a.tmps, defers := [] } W1)
    (herr : ∀ (rc : Loop) (pre : List (Int × List UInt8)) (cv : Value) (W1 : World) (er : Int), rc.state = .ready → rc.pending = none → DS w rc pre cv W1 → er ≠ 0 →
      asg.wpIn (Fence.wide.inRound (w.heap.size + 5)) 0 Try.prog (Exit.then (fun a₁ w₁ => ∃ w₂, (Instr.beginRound (w.heap.size + 5)).run Try.prog w₁ = .ok () w₂ ∧ bdy.wpIn (Fence.wide.inRound (w.heap.size + 5)) 0 Try.prog (roundPost Try.prog (w.heap.size + 5) (fun e W' => e = .returned (.bool false) ∧ DX w rc er W')) a₁ w₂) (fun _ _ _ => False))
        { tmps := ((#[12, 13] : Array Tmp).zip #[Value.agg #[.int .i64 0, .slice none 0 0], .int .i64 er]).foldl (fun tmps (t, a) => tmps.setIfInBounds t a) a.tmps, defers := [] } W1)
    (hdone : ∀ (rc : Loop) (cv : Value) (W1 : World), (elA l).2 = 0 → DS w rc (elA l).1 cv W1 → Q .normal { a with defers := { target := .collected (w.heap.size + 4), args := #[] } :: a.defers } W1)
    (hstop : ∀ (W1 : World), (elA l).2 ≠ 0 → W1.heap[w.heap.size + 4]? = some (.deferred (some [])) → Box W1 w.heap.size [.slice none 0 0] → Box W1 (w.heap.size + 1) [.int .i64 (elA l).2] → Below w.heap.size w W1 → Q .ret { a with defers := { target := .collected (w.heap.size + 4), args := #[] } :: a.defers } W1) :
    (Code.rangeFunc (.tmp 11) #[12, 13] asg bdy).wp Try.prog Q a W := by
  refine (wpIn_wide (n := 0)).1 ?_
  refine wpIn_rangeFunc ?_
  intro fn hfn
  obtain ⟨rc, hrc⟩ : ∃ rc : Loop, rc = { state := .ready, pending := none, fn, tmps := a.tmps, params := #[12, 13], assign := asg, body := bdy, defers := W.heap.size } := ⟨_, rfl⟩
  obtain ⟨W1, hW1⟩ : ∃ W1, W1 = (W.alloc (.deferred (some []))).alloc (.loop rc) := ⟨_, rfl⟩
  refine ⟨W.heap.size + 1, [{ target := .collected W.heap.size, args := #[] }], W1, { target := .fn (.func 31) #[.pointer (some ⟨w.heap.size + 3, 0, none⟩)], args := #[.func (.yield (W.heap.size + 1)) #[] #[]] }, W1, 31,
    #[.func (.yield (W.heap.size + 1)) #[] #[], .pointer (some ⟨w.heap.size + 3, 0, none⟩)], W1, ?_, ?_, ?_, ?_, (fun h => by cases h), ?_⟩
  · rw [hW1, hrc]; exact run_enterLoop_outer _ _ _ _ _
  · simp only [resolve, hg]
    simp [go_sem]
  · intro f' _
    exact trivial
  · simp [invoke, go_sem]
  · rw [hz]
    have hps : rc.params = #[12, 13] := by rw [hrc]
    have has : rc.assign = asg := by rw [hrc]
    have hbd : rc.body = bdy := by rw [hrc]
    have htm : rc.tmps = a.tmps := by rw [hrc]
    have hst : rc.state = .ready := by rw [hrc]
    have hpe : rc.pending = none := by rw [hrc]
    have HYok : ∀ (pre : List (Int × List UInt8)) (cv : Value) (W2 : World) (k : Int) (A' : Option Addr) (n' c' : Nat) (val : List UInt8), DS w rc pre cv W2 → OB W2 (w.heap.size + 6) (.slice A' n' c') val → pre.length < 32 →
        YieldAt Fence.wide 0 Try.prog (w.heap.size + 5) #[.agg #[.int .i64 k, .slice A' n' c'], .int .i64 0] W2 fun e W' => e = .returned (.bool true) ∧ DS w rc (pre ++ [(k, val)]) cv W' := by
      intro pre cv W2 k A' n' c' val hd ho hp
      refine ⟨_, _, _, _, run_yield hd.lp (by rw [hps]; rfl), roundIn_of_wpIn trivial ?_⟩
      have h := hok rc pre cv W2 k A' n' c' val hst hpe hd ho hp
      rw [hps, has, hbd, htm]
      exact h
    have HYer : ∀ (pre : List (Int × List UInt8)) (cv : Value) (W2 : World) (er : Int), DS w rc pre cv W2 → er ≠ 0 →
        YieldAt Fence.wide 0 Try.prog (w.heap.size + 5) #[.agg #[.int .i64 0, .slice none 0 0], .int .i64 er] W2 fun e W' => e = .returned (.bool false) ∧ DX w rc er W' := by
      intro pre cv W2 er hd he
      refine ⟨_, _, _, _, run_yield hd.lp (by rw [hps]; rfl), roundIn_of_wpIn trivial ?_⟩
      have h := herr rc pre cv W2 er hst hpe hd he
      rw [hps, has, hbd, htm]
      exact h
    have hD1 : DS w rc [] cv W1 := by
      have hq : Below W.heap.size W W1 := by rw [hW1]; exact al2 _ _ _
      refine ⟨?_, ?_, h0.on hq, h1.on hq, ⟨_, h2.on hq, OwnM.nil _ _⟩, h3.on hq, hb.trans (hq.mono hb.size)⟩
      · rw [hW1, show w.heap.size + 5 = (W.alloc (.deferred (some []))).heap.size by simp; omega]; exact heap_alloc_new _ _
      · rw [hW1, Below.heap_alloc _ _ _ (by simp; omega), show w.heap.size + 4 = W.heap.size by omega]; exact heap_alloc_new _ _
    have HD1 := Lib.hid hD1
    have HCV := Lib.hid hcv
    have HOK := Lib.hid HYok
    have HER := Lib.hid HYer
    have HDN := Lib.hid hdone
    have HST := Lib.hid hstop
    have HPE := Lib.hid hpe
    have HSS := Lib.hid hst
    clear hok herr hdone hstop HYok HYer hD1 hcv hW1 hrc hps has hbd htm hst hpe h0 h1 h2 h3 hb hg hz
    refine callsIn_of_wp Try.func31 rfl trivial ?_
    simp only [Try.ntmps31, List.size_toArray, List.length_cons, List.length_nil, Nat.reduceAdd, Nat.reduceSub, Array.replicate_succ, Array.replicate_zero, List.push_toArray, List.append_toArray, List.nil_append, List.cons_append]
    gi_wp2
    gi_loopw [] (fun wr => ∃ (pre : List (Int × List UInt8)) (rest : List UInt8) (cv : Value), DS w rc pre cv wr ∧ BS w w.heap.size cv rest ∧ Upto l pre rest) (fun wr => boxLen wr (w.heap.size + 3))
    case atStart => exact ⟨[], l, cv, HD1.out, HCV.out, Upto.start l⟩
    clear HD1 HCV
    case round =>
      obtain ⟨pre, rest, cv, hd, hr, hu⟩ := hrel
      have hwrap : ∀ x : UInt8, IntKind.i64.wrap (x.toNat : Int) = (x.toNat : Int) := fun x => wri64 (by have := x.toNat_lt; omega)
      have HW := Lib.hid hwrap
      clear hwrap
      rcases rest with _ | ⟨n, r⟩
      · obtain ⟨A, c, rfl⟩ : ∃ A c, cv = .slice A 0 c := by obtain ⟨A, c, rfl, _⟩ := hr; exact ⟨A, c, rfl⟩
        have c0 := hd.cp.cell (j := 0) rfl
        have z0 := hd.cp.lt
        have HD := Lib.hid hd
        have HU := Lib.hid hu
        clear hd hr hu
        gi_wp2
        go_end0
        obtain ⟨u1, _⟩ := HU.out
        rw [elA_nil, List.append_nil] at u1
        exact end_done _ HD.out HSS.out HPE.out fun W' hW' => HDN.out _ _ W' (by rw [u1]) (by rw [u1]; exact hW')
      · obtain ⟨A, c, rfl, hnc, hcm, hcl, hcc⟩ := id hr
        have hcc' : ∃ b off, A = some ⟨b, off, none⟩ ∧ b < w.heap.size ∧ ∀ (k : Nat) (u : Value), (bys (n :: r))[k]? = some u → w.cell? ⟨b, off + k, none⟩ = some u := by
          rcases hcc with h | h
          · simp [bys] at h
          · exact h
        obtain ⟨b, off, rfl, hbB, hcell⟩ := hcc'
        have x0 : wr.cell? ⟨b, off, none⟩ = some (.int .u8 (n.toNat : Int)) := (hd.bl.cell (p := ⟨b, off + 0, none⟩) hbB).trans (hcell 0 _ rfl)
        have c0 := hd.cp.cell (j := 0) rfl
        have z0 := hd.cp.lt
        have w0 := HW.out n
        have HD := Lib.hid hd
        have HR := Lib.hid hr
        have HU := Lib.hid hu
        simp only [List.length_cons] at hnc c0
        by_cases hn : n.toNat = 0
        · obtain ⟨f1, t1, a1, b1, hy1, hR1⟩ := HER.out pre _ wr 2 hd (by decide)
          rw [hn] at x0 w0
          clear hd hr hu hcc hcl hcell
          gi_wp2
          refine ⟨rfl, hR1.mono ?_⟩
          rintro e W2 ⟨rfl, hx⟩
          have HX := Lib.hid hx
          clear hx
          gi_wp2
          refine bodyPost_ret (results_none rfl _ _ _) rfl ?_
          obtain ⟨u1, _⟩ := HU.out
          rw [elA_zero hn] at u1
          have nz : (2 : Int) ≠ 0 := by decide
          exact end_stop _ HX.out fun W' h1 h2 h3 h4 => HST.out W' (by rw [u1]; exact nz) h1 h2 (by rw [u1]; exact h3) h4
        · have hn1 : ((n.toNat : Int) == 0) = false := by simp; omega
          by_cases hsh : r.length < n.toNat
          · obtain ⟨f1, t1, a1, b1, hy1, hR1⟩ := HER.out pre _ wr 3 hd (by decide)
            have hsh' : decide (r.length + 1 ≤ n.toNat) = true := decide_eq_true (by omega)
            clear hd hr hu hcc hcl hcell
            gi_wp2
            refine ⟨rfl, hR1.mono ?_⟩
            rintro e W2 ⟨rfl, hx⟩
            have HX := Lib.hid hx
            clear hx
            gi_wp2
            refine bodyPost_ret (results_none rfl _ _ _) rfl ?_
            obtain ⟨u1, _⟩ := HU.out
            rw [elA_short hn hsh] at u1
            have nz : (3 : Int) ≠ 0 := by decide
            exact end_stop _ HX.out fun W' h1 h2 h3 h4 => HST.out W' (by rw [u1]; exact nz) h1 h2 (by rw [u1]; exact h3) h4
          · have hr1 : 0 < r.length := by omega
            have x1 : wr.cell? ⟨b, off + 1, none⟩ = some (.int .u8 (r[0].toNat : Int)) := (hd.bl.cell (p := ⟨b, off + 1, none⟩) hbB).trans (hcell 1 _ (bys_at (l := n :: r) (k := 1) (by simp; omega)))
            have hsh' : decide (r.length + 1 ≤ n.toNat) = false := decide_eq_false (by omega)
            have n255 := n.toNat_lt
            have w1 := HW.out r[0]
            have w2 : IntKind.i64.wrap (1 + (n.toNat : Int)) = 1 + (n.toNat : Int) := IntWalk.i64_in _ (by omega)
            have hrd : r.getD 0 0 = r[0] := by rw [List.getD_eq_getElem?_getD, List.getElem?_eq_getElem hr1]; rfl
            have hmid : BS w w.heap.size (.slice (if c = 2 then some ⟨b, off, none⟩ else some ⟨b, off + 2, none⟩) (n.toNat - 1) (c - 2)) ((r.take n.toNat).drop 1) := by
              have hfr := BS.front hr (k := 1 + n.toNat) (by simp; omega)
              have hl1 : ((n :: r).take (1 + n.toNat)).length = 1 + n.toNat := by rw [List.length_take]; simp; omega
              have hdq : ((n :: r).take (1 + n.toNat)).drop 2 = (r.take n.toNat).drop 1 := by rw [Nat.add_comm]; rfl
              generalize (n :: r).take (1 + n.toNat) = q at *
              rw [← hl1] at hfr
              have hct := hfr.cut (k := 2) (by rw [hl1]; omega)
              rw [hl1, hdq, show 1 + n.toNat - 2 = n.toNat - 1 by omega] at hct
              exact hct
            have HMID := Lib.hid hmid
            have HRD := Lib.hid hrd
            generalize r[0] = r0 at *
            clear hcc hcl hcell hr hu hrd hmid
            have hvl : ((r.take n.toNat).drop 1).length = n.toNat - 1 := by rw [List.length_drop, List.length_take]; omega
            have hpl : pre.length < 32 := by have := HU.out.2; simp at this; omega
            generalize hvv : (r.take n.toNat).drop 1 = val at *
            generalize hmm : n.toNat = m at *
            have HVV := Lib.hid hvv
            have HMM := Lib.hid hmm
            have HVL := Lib.hid hvl
            clear hvv hmm hvl
            gi_upto_region 6 with fail
            have i1 : (2 : Int) ≤ 1 + (m : Int) := by omega
            have i2 : 1 + (m : Int) ≤ (c : Int) := by omega
            have i3 : (1 + (m : Int)).toNat = 1 + m := by omega
            have i4 : 1 < r.length + 1 := by omega
            have i5 : 1 + m - 2 = m - 1 := by omega
            obtain ⟨AA, hAA⟩ : ∃ AA, (if c = 2 then (some ⟨b, off, none⟩ : Option Addr) else some ⟨b, off + 2, none⟩) = AA := ⟨_, rfl⟩
            rw [hAA] at HMID
            have CL := Lib.hid (fun (W2 : World) (hW : Below w.heap.size w W2) => sclone_any (.slice AA (m - 1) (c - 2)) val W2 (HMID.out.on hW) (by rw [HVL.out]; omega))
            gi_region_with
              (first
                | (refine ⟨trivial, rfl, (callsIn_wide.2 (CL.out _ (HD.out.bl.drew))).mono ?_⟩; rintro e w3 ⟨hb3', u, rfl, hu⟩
                   have hb3 : Below wr.heap.size wr w3 := ((Below.refl _ _).drew).trans hb3'
                   obtain ⟨A3, c3, rfl⟩ := own_form hu
                   have c03 := (HD.out.cp.on hb3).cell (j := 0) rfl
                   have z03 := (HD.out.cp.on hb3).lt
                   have x13 : w3.cell? ⟨b, off + 1, none⟩ = some (.int .u8 (r0.toNat : Int)) := (hb3.cell (p := ⟨b, off + 1, none⟩) (Nat.lt_of_lt_of_le hbB HD.out.bl.size)).trans x1
                   obtain ⟨f1, t1, a1, b1, hy1, hR1⟩ := HOK.out pre _ w3 (r0.toNat : Int) A3 val.length c3 val (HD.out.on hb3) (own_base hu (by have := heap_lt HD.out.lp; show w.heap.size + 6 ≤ wr.heap.size; omega)) hpl)
                | (refine ⟨rfl, hR1.mono ?_⟩; rintro e w4 ⟨rfl, hd4⟩))
            all_goals
              have HD4 := Lib.hid hd4
              have c04 := hd4.cp.cell (j := 0) rfl
              have f04 := hd4.cp.free 0
              have z04 := hd4.cp.lt
              simp only [List.length_cons] at c04
              have j1 : 0 ≤ 1 + (m : Int) := by omega
              have j2 : 1 + (m : Int) ≤ (r.length : Int) + 1 := by omega
              clear hd4 hy1 hR1 hu hb3 hb3' c03 z03 x13 c0 z0 x0 x1 hd CL i1 i5
              simp only [Act.put, List.getElem_toArray, List.getElem_cons_succ, List.getElem_cons_zero, List.setIfInBounds_toArray, List.set_cons_zero, List.set_cons_succ]
              gi_wp2
              have hbs := HR.out.cut (k := 1 + m) (by simp; omega)
              rw [show (n :: r).drop (1 + m) = r.drop m by rw [Nat.add_comm]; rfl] at hbs
              have hup := HU.out.one (by rw [HMM.out]; exact hn) (by rw [HMM.out]; exact hsh)
              rw [HRD.out, HMM.out, HVV.out] at hup
              refine ⟨⟨_, r.drop m, _, HD4.out.cap _, hbs, hup⟩, ?_⟩
              unfold boxLen
              rw [(HD4.out.cap _).cp.cell (j := 0) rfl, HD.out.cp.cell (j := 0) rfl]
              simp only [List.length_cons]
              omega
end Go.Proofs.Ytncenlmfhnljgaa
