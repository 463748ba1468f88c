/- What the rows of layer 37 share: a security PDU by value. No condition. -/
import Derived.Test.YtpomobeogkfmfaaDoorF1
import Derived.Test.YtpomobeogkfmfaaDoorSecP
namespace Go.Proofs.YtpomobeogkfmfaaDoor
open Go.RowKit Go.ChangeShapes Go.WideShapes Go.ChangeAt Go.Deep

theorem at_of_take {l : List Value} {o : Nat} {v : Value} (h : (l.drop o).take 1 = [v]) : l[o]? = some v := by
  have := congrArg (fun l : List Value => l[0]?) h
  simpa [List.getElem?_take, List.getElem?_drop] using this
theorem at_nest {l : List Value} {o c j : Nat} {v : Value} (h : ((l.drop o).take c)[j]? = some v) : l[o + j]? = some v := by
  rw [List.getElem?_take] at h
  split at h
  · rwa [List.getElem?_drop] at h
  · cases h
section
variable {H : Type} {enc : TypeId × Value → H} {P : Program} {w : World} {base n : Nat} {sp : Nat → Bool} {held : Bool} {xs : List (DataW H × List MemPlace)}
theorem leaf {t : TypeId} {l : List Value} {o i c : Nat} (h : DataW.trod enc P w base sp held n t ((l.drop o).take c) = xs[i]?) (hi : i < xs.length) : ∃ y, DataW.trod enc P w base sp held n t ((l.drop o).take c) = some y := ⟨_, h.trans (List.getElem?_eq_getElem hi)⟩
theorem leaf_int {t : TypeId} {k : IntKind} {l : List Value} {o i : Nat} (ht : P.underlying t = some (.int k)) (h : DataW.trod enc P w base sp held n t ((l.drop o).take 1) = xs[i]?) (hi : i < xs.length) : ∃ x, l[o]? = some (.int k x) ∧ (Lit.int k x).wf = true := by
  obtain ⟨y, hy⟩ := leaf h hi
  obtain ⟨x, h1, _, h2⟩ := DataW.trod_int ht hy
  exact ⟨x, at_of_take h1, h2⟩
theorem leaf_bool {t : TypeId} {l : List Value} {o i : Nat} (ht : P.underlying t = some .bool) (h : DataW.trod enc P w base sp held n t ((l.drop o).take 1) = xs[i]?) (hi : i < xs.length) : ∃ x, l[o]? = some (.bool x) := by
  obtain ⟨y, hy⟩ := leaf h hi
  obtain ⟨x, h1, _⟩ := DataW.trod_bool ht hy
  exact ⟨x, at_of_take h1⟩
end

/-- A security PDU by value. -/
theorem open_sec {H : Type} {enc : TypeId × Value → H} {w : World} {base : Nat} {spare : Nat → Bool} {held : Bool} {r : Reach} {b0 : Nat} {v : Value} {d : DataW H} {p : List MemPlace}
    (hv : Value.okWide Tryd.prog w r b0 53 v) (h : DataW.Trod enc Tryd.prog w base spare held 53 v d p) : ∃ q : Sec, v = secV q ∧ SecOk q := by
  obtain ⟨cs, rfl, hsz⟩ := okWide_struct Tryd.underlying53 hv
  rw [show Tryd.prog.cellsOf 53 = 13 by kernel_rfl] at hsz
  obtain ⟨fuel, hf⟩ := h
  obtain ⟨ys, n, _, _, _, hlen, hg⟩ := DataW.trod_struct Tryd.underlying53 hf
  have hlen' : ys.length = 6 := hlen
  have e0 : DataW.trod enc Tryd.prog w base spare held n 3 ((cs.toList.drop 0).take 1) = ys[0]? := hg 0 _ rfl
  have e1 : DataW.trod enc Tryd.prog w base spare held n 47 ((cs.toList.drop 1).take 6) = ys[1]? := hg 1 _ rfl
  have e2 : DataW.trod enc Tryd.prog w base spare held n 48 ((cs.toList.drop 7).take 1) = ys[2]? := hg 2 _ rfl
  have e3 : DataW.trod enc Tryd.prog w base spare held n 22 ((cs.toList.drop 8).take 1) = ys[3]? := hg 3 _ rfl
  have e4 : DataW.trod enc Tryd.prog w base spare held n 51 ((cs.toList.drop 9).take 3) = ys[4]? := hg 4 _ rfl
  have e5 : DataW.trod enc Tryd.prog w base spare held n 3 ((cs.toList.drop 12).take 1) = ys[5]? := hg 5 _ rfl
  obtain ⟨x0, c0, _⟩ := leaf_int Tryd.underlying3 e0 (by omega)
  obtain ⟨x7, c7, w7⟩ := leaf_int Tryd.underlying48 e2 (by omega)
  obtain ⟨x8, c8, w8⟩ := leaf_int Tryd.underlying22 e3 (by omega)
  obtain ⟨x12, c12, _⟩ := leaf_int Tryd.underlying3 e5 (by omega)
  obtain ⟨y1, hy1⟩ := leaf e1 (by omega)
  obtain ⟨fs, n1, _, _, _, hl1, hg1⟩ := DataW.trod_struct Tryd.underlying47 hy1
  have hl1' : fs.length = 6 := hl1
  have a0 : DataW.trod enc Tryd.prog w base spare held n1 3 ((((cs.toList.drop 1).take 6).drop 0).take 1) = fs[0]? := hg1 0 _ rfl
  have a1 : DataW.trod enc Tryd.prog w base spare held n1 4 ((((cs.toList.drop 1).take 6).drop 1).take 1) = fs[1]? := hg1 1 _ rfl
  have a2 : DataW.trod enc Tryd.prog w base spare held n1 4 ((((cs.toList.drop 1).take 6).drop 2).take 1) = fs[2]? := hg1 2 _ rfl
  have a3 : DataW.trod enc Tryd.prog w base spare held n1 4 ((((cs.toList.drop 1).take 6).drop 3).take 1) = fs[3]? := hg1 3 _ rfl
  have a4 : DataW.trod enc Tryd.prog w base spare held n1 4 ((((cs.toList.drop 1).take 6).drop 4).take 1) = fs[4]? := hg1 4 _ rfl
  have a5 : DataW.trod enc Tryd.prog w base spare held n1 4 ((((cs.toList.drop 1).take 6).drop 5).take 1) = fs[5]? := hg1 5 _ rfl
  obtain ⟨x1, c1, _⟩ := leaf_int Tryd.underlying3 a0 (by omega)
  obtain ⟨x2, c2⟩ := leaf_bool Tryd.underlying4 a1 (by omega)
  obtain ⟨x3, c3⟩ := leaf_bool Tryd.underlying4 a2 (by omega)
  obtain ⟨x4, c4⟩ := leaf_bool Tryd.underlying4 a3 (by omega)
  obtain ⟨x5, c5⟩ := leaf_bool Tryd.underlying4 a4 (by omega)
  obtain ⟨x6, c6⟩ := leaf_bool Tryd.underlying4 a5 (by omega)
  obtain ⟨y4, hy4⟩ := leaf e4 (by omega)
  obtain ⟨is, n4, _, _, _, hl4, hg4⟩ := DataW.trod_struct Tryd.underlying51 hy4
  have hl4' : is.length = 2 := hl4
  have b0' : DataW.trod enc Tryd.prog w base spare held n4 24 ((((cs.toList.drop 9).take 3).drop 0).take 2) = is[0]? := hg4 0 _ rfl
  have b1' : DataW.trod enc Tryd.prog w base spare held n4 49 ((((cs.toList.drop 9).take 3).drop 2).take 1) = is[1]? := hg4 1 _ rfl
  obtain ⟨x11, c11, w11⟩ := leaf_int Tryd.underlying49 b1' (by omega)
  obtain ⟨y5, hy5⟩ := leaf b0' (by omega)
  obtain ⟨ads, n5, _, _, _, hl5, hg5⟩ := DataW.trod_struct Tryd.underlying24 hy5
  have hl5' : ads.length = 2 := hl5
  have g0 : DataW.trod enc Tryd.prog w base spare held n5 3 ((((((cs.toList.drop 9).take 3).drop 0).take 2).drop 0).take 1) = ads[0]? := hg5 0 _ rfl
  have g1 : DataW.trod enc Tryd.prog w base spare held n5 22 ((((((cs.toList.drop 9).take 3).drop 0).take 2).drop 1).take 1) = ads[1]? := hg5 1 _ rfl
  obtain ⟨x9, c9, _⟩ := leaf_int Tryd.underlying3 g0 (by omega)
  obtain ⟨x10, c10, w10⟩ := leaf_int Tryd.underlying22 g1 (by omega)
  have q1 := at_nest c1
  have q2 := at_nest c2
  have q3 := at_nest c3
  have q4 := at_nest c4
  have q5 := at_nest c5
  have q6 := at_nest c6
  have q9 := at_nest (at_nest c9)
  have q10 := at_nest (at_nest c10)
  have q11 := at_nest c11
  have r7 : 0 ≤ x7 ∧ x7 ≤ 4294967295 := by simpa [Lit.wf, IntKind.min, IntKind.max, IntKind.signed, IntKind.bits] using w7
  have r8 : 0 ≤ x8 ∧ x8 ≤ 18446744073709551615 := by simpa [Lit.wf, IntKind.min, IntKind.max, IntKind.signed, IntKind.bits] using w8
  have r10 : 0 ≤ x10 ∧ x10 ≤ 18446744073709551615 := by simpa [Lit.wf, IntKind.min, IntKind.max, IntKind.signed, IntKind.bits] using w10
  have r11 : 0 ≤ x11 ∧ x11 ≤ 18446744073709551615 := by simpa [Lit.wf, IntKind.min, IntKind.max, IntKind.signed, IntKind.bits] using w11
  obtain ⟨n7, rfl⟩ := Int.eq_ofNat_of_zero_le r7.1
  obtain ⟨n8, rfl⟩ := Int.eq_ofNat_of_zero_le r8.1
  obtain ⟨n10, rfl⟩ := Int.eq_ofNat_of_zero_le r10.1
  obtain ⟨n11, rfl⟩ := Int.eq_ofNat_of_zero_le r11.1
  refine ⟨⟨x0, x1, x2, x3, x4, x5, x6, n7, n8, x9, n10, n11, x12⟩, ?_, ⟨by show n7 < _; omega, by show n8 < _; omega, by show n10 < _; omega, by show n11 < _; omega⟩⟩
  have e : cs = #[.int .i64 x0, .int .i64 x1, .bool x2, .bool x3, .bool x4, .bool x5, .bool x6, .int .u32 (n7 : Int), .int .u64 (n8 : Int), .int .i64 x9, .int .u64 (n10 : Int), .int .u64 (n11 : Int), .int .i64 x12] := by
    apply Array.ext_getElem?
    intro j
    match j with
    | 0 => simpa using c0
    | 1 => simpa using q1
    | 2 => simpa using q2
    | 3 => simpa using q3
    | 4 => simpa using q4
    | 5 => simpa using q5
    | 6 => simpa using q6
    | 7 => simpa using c7
    | 8 => simpa using c8
    | 9 => simpa using q9
    | 10 => simpa using q10
    | 11 => simpa using q11
    | 12 => simpa using c12
    | j + 13 => rw [Array.getElem?_eq_none (by rw [hsz]; omega), Array.getElem?_eq_none (by simp)]
  rw [e]
end Go.Proofs.YtpomobeogkfmfaaDoor
