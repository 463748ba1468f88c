/- The walk of transport.Decode. No condition. -/
import Derived.Test.YtkpjinkkjbljkaaTr11
namespace Go.Proofs.Ytkpjinkkjbljkaa
open Go.RowKit

/-- What a payload holds, ahead of Check: its error, the PDU, its bytes. -/
def preE (ct : Bool) (l : List UInt8) : Int := if ct then cE l else aE l
def preL (ct : Bool) (l : List UInt8) : Low := if ct then cL l else aL l
def preB (ct : Bool) (l : List UInt8) : List UInt8 := if ct then cB l else aB l
/-- The error of a payload; the PDU; its bytes. -/
def ldE (ct : Bool) (l : List UInt8) : Int := if l.length = 0 then 3 else if preE ct l ≠ 0 then preE ct l else chkL (preL ct l) (preB ct l).length
def ldL (ct : Bool) (l : List UInt8) : Low := if ldE ct l = 0 then preL ct l else low0
def ldB (ct : Bool) (l : List UInt8) : List UInt8 := if ldE ct l = 0 then preB ct l else []
/-- What a decoding leaves. -/
def LDecPost (w : World) (ct : Bool) (l : List UInt8) (e : Ending) (w' : World) : Prop :=
  Below w.heap.size w w' ∧ ∃ A c, e = .returned (.tuple #[lowV (ldL ct l) (.slice A (ldB ct l).length c), .int .i64 (ldE ct l)]) ∧ w'.ownsRow w.heap.size 5 1 (.slice A (ldB ct l).length c) (ldB ct l).length (bys (ldB ct l))
theorem LDecPost.err {w w' : World} {ct : Bool} {l : List UInt8} {e : Ending} {er : Int} (h : ldE ct l = er) (hne : er ≠ 0) (hb : Below w.heap.size w w') (he : e = .returned (.tuple #[lowV low0 (.slice none 0 0), .int .i64 er])) : LDecPost w ct l e w' := by
  unfold LDecPost ldL ldB
  rw [h, if_neg hne, if_neg hne]
  exact ⟨hb, none, 0, he, World.ownsRow_nil _ _ _ _⟩
theorem LDecPost.ok {w w' : World} {ct : Bool} {l : List UInt8} {e : Ending} {A : Option Addr} {n c : Nat} (h : ldE ct l = 0) (hn : n = (preB ct l).length) (hb : Below w.heap.size w w') (he : e = .returned (.tuple #[lowV (preL ct l) (.slice A n c), .int .i64 0])) (hs : w'.ownsRow w.heap.size 5 1 (.slice A n c) (preB ct l).length (bys (preB ct l))) : LDecPost w ct l e w' := by
  subst hn
  unfold LDecPost ldL ldB
  rw [h, if_pos rfl, if_pos rfl]
  exact ⟨hb, A, c, he, hs⟩

set_option maxRecDepth 100000 in
set_option maxHeartbeats 4000000 in
theorem tdecode_nil (ct : Bool) (v : Value) (w : World) (hb : BS w w.heap.size v []) : Calls Try.prog 19 #[.bool ct, v] w (LDecPost w ct []) := by
  obtain ⟨A, c, rfl, _⟩ := id hb
  clear hb
  go_enter Try.func19, Try.ntmps19
  go_wp2_with fail
  refine bodyPost_ret (v := .tuple #[lowV low0 (.slice none 0 0), .int .i64 3]) (by simp [results, Try.results19, go_sem, low0]) rfl (LDecPost.err (show ldE ct [] = 3 from rfl) (by omega) ?_ rfl)
  exact al1 _ _

set_option maxRecDepth 100000 in
set_option maxHeartbeats 4000000 in
theorem tdecode_c (l : List UInt8) (hl : 0 < l.length) (hlm : l.length ≤ 140737488355328) (v : Value) (w : World) (hb : BS w w.heap.size v l) : Calls Try.prog 19 #[.bool true, v] w (LDecPost w true l) := by
  obtain ⟨A, c, rfl, _⟩ := id hb
  have C := Lib.hid (fun W (hW : BS W W.heap.size (.slice A l.length c) l) => control_any l hl hlm _ W hW)
  have HB := Lib.hid hb
  have HE := Lib.hid (show ldE true l = if cE l ≠ 0 then cE l else chkL (cL l) (cB l).length by unfold ldE; rw [if_neg (by omega)]; rfl)
  have HX := Lib.hid (show ∀ (w' : World) (e : Ending), (∃ A' n c', Below w.heap.size w w' ∧ ldE true l = 0 ∧ n = (cB l).length ∧ e = .returned (.tuple #[lowV (cL l) (.slice A' n c'), .int .i64 0]) ∧ w'.ownsRow w.heap.size 5 1 (.slice A' n c') (cB l).length (bys (cB l))) → LDecPost w true l e w' from fun w' e ⟨A', n, c', h1, h2, h3, h4, h5⟩ => LDecPost.ok h2 h3 h1 h4 h5)
  have HY := Lib.hid (show ∀ (w' : World) (e : Ending) (er : Int), ldE true l = er → er ≠ 0 → Below w.heap.size w w' → e = .returned (.tuple #[lowV ⟨false, false, false, 0, 0, 0, 0, 0, false⟩ (.slice none 0 0), .int .i64 er]) → LDecPost w true l e w' from fun w' e er h1 h2 h3 h4 => LDecPost.err h1 h2 h3 h4)
  generalize hQ : LDecPost w true l = Q at *
  clear hQ
  generalize cE l = er at *
  generalize cL l = p at *
  generalize cB l = k at *
  generalize ldE true l = et at *
  clear hb
  generalize l.length = n at *
  have hn0 : ((n : Int) == 0) = false := by simp; omega
  go_enter Try.func19, Try.ntmps19
  go_wp2_with (go_at_call 39; fail)
  have hbr := Box.new w #[.bool false, .bool false, .bool false, .int .i64 0, .int .i64 0, .int .i64 0, .int .i64 0, .int .u32 0, .bool false, .slice none 0 0] 25
  refine (C.out _ (HB.out.on (al1 w (.cells #[.bool false, .bool false, .bool false, .int .i64 0, .int .i64 0, .int .i64 0, .int .i64 0, .int .u32 0, .bool false, .slice none 0 0] 25)))).mono ?_
  rintro e w1 ⟨hb1, q, A1, n1, c1, rfl, hok⟩
  have HR1 := Lib.hid (hbr.on hb1)
  have HB1 := Lib.hid (one hb1)
  obtain ⟨d0, d1, d2, d3, d4, d5, d6, d7, d8, d9⟩ := low_box (p := low0) HR1.out
  obtain ⟨g0, g1, g2, g3, g4, g5, g6, g7, g8, g9⟩ := low_free HR1.out
  dsimp only [low0] at d0 d1 d2 d3 d4 d5 d6 d7 d8
  have z1 := HR1.out.lt
  clear hb1 hbr
  by_cases her : er = 0
  · subst her
    obtain ⟨rfl, rfl, hs⟩ := hok rfl
    have HS := Lib.hid hs
    have CK := Lib.hid (tcheck_any q A1 k.length c1)
    have HEE := Lib.hid (show et = chkL q k.length by rw [HE.out, if_neg (by decide)])
    generalize chkL q k.length = ck at *
    obtain rfl := HEE.out
    clear hs hok HE d0 d1 d2 d3 d4 d5 d6 d7 d8 d9 g0 g1 g2 g3 g4 g5 g6 g7 g8 g9
    go_wp2_with fail
    refine (CK.out _).mono ?_
    rintro e w2 ⟨rfl, hb2⟩
    have HR2 := Lib.hid ((HR1.out.alloc _).on hb2)
    have HL2 := Lib.hid ((low_new w1 q (.slice A1 k.length c1) 25).on hb2)
    have HB2 := Lib.hid (bthen HB1.out (one hb2))
    have HS2 := Lib.hid (own_on (own_on HS.out (al1 _ _)) hb2)
    obtain ⟨e0, e1, e2, e3, e4, e5, e6, e7, e8, e9⟩ := low_box HL2.out
    have z3 := HL2.out.lt
    obtain ⟨d0, d1, d2, d3, d4, d5, d6, d7, d8, d9⟩ := low_box (p := low0) HR2.out
    obtain ⟨g0, g1, g2, g3, g4, g5, g6, g7, g8, g9⟩ := low_free HR2.out
    dsimp only [low0] at d0 d1 d2 d3 d4 d5 d6 d7 d8
    have z2 := HR2.out.lt
    clear hb2
    by_cases hck : et = 0
    · subst hck
      go_wp2_with fail
      refine bodyPost_ret (res_low rfl _ _ w.heap.size q (.slice A1 k.length c1) rfl ?_) rfl (HX.out _ _ ⟨A1, k.length, c1, ?_, by first | rfl | trivial, rfl, rfl, ?_⟩)
      · exact HR2.out.put (lowCs q (.slice A1 k.length c1)) rfl
      · exact below_puts (b := w.heap.size) (Nat.le_refl _) 0 (lowCs q (.slice A1 k.length c1)) HB2.out
      · exact own_base (own_puts HS2.out (b := w.heap.size) (fun g hg => by have := (HS2.out.lt g hg).1; simp at this; omega) 0 (lowCs q (.slice A1 k.length c1))) (by simp)
    · have hck' := ne_bool hck
      have HCK := Lib.hid hck
      clear hck
      go_wp2_with fail
      refine bodyPost_ret (res_low rfl _ _ w.heap.size ⟨false, false, false, 0, 0, 0, 0, 0, false⟩ (.slice none 0 0) rfl ?_) rfl (HY.out _ _ _ rfl HCK.out ?_ rfl)
      · exact HR2.out.put (lowCs ⟨false, false, false, 0, 0, 0, 0, 0, false⟩ (.slice none 0 0)) rfl
      · exact below_puts (b := w.heap.size) (Nat.le_refl _) 0 (lowCs ⟨false, false, false, 0, 0, 0, 0, 0, false⟩ (.slice none 0 0)) HB2.out
  · have her' := ne_bool her
    have her'' : (er == 0) = false := by simpa using her
    have HEE := Lib.hid (show et = er by rw [HE.out, if_pos her])
    have HER := Lib.hid her
    clear her hok
    go_wp2_with fail
    refine bodyPost_ret (res_low rfl _ _ w.heap.size ⟨false, false, false, 0, 0, 0, 0, 0, false⟩ (.slice none 0 0) rfl ?_) rfl (HY.out _ _ _ HEE.out HER.out ?_ rfl)
    · exact (HR1.out.put (lowCs ⟨false, false, false, 0, 0, 0, 0, 0, false⟩ (.slice none 0 0)) rfl).alloc _
    · exact (below_puts (b := w.heap.size) (Nat.le_refl _) 0 (lowCs ⟨false, false, false, 0, 0, 0, 0, 0, false⟩ (.slice none 0 0)) HB1.out).alloc (by rw [size_puts]; exact HB1.out.size) _

set_option maxRecDepth 100000 in
set_option maxHeartbeats 4000000 in
theorem tdecode_a (l : List UInt8) (hl : 0 < l.length) (hlm : l.length ≤ 140737488355328) (v : Value) (w : World) (hb : BS w w.heap.size v l) : Calls Try.prog 19 #[.bool false, v] w (LDecPost w false l) := by
  obtain ⟨A, c, rfl, _⟩ := id hb
  have C := Lib.hid (fun W (hW : BS W W.heap.size (.slice A l.length c) l) => access_any l hl hlm _ W hW)
  have HB := Lib.hid hb
  have HE := Lib.hid (show ldE false l = if aE l ≠ 0 then aE l else chkL (aL l) (aB l).length by unfold ldE; rw [if_neg (by omega)]; rfl)
  have HX := Lib.hid (show ∀ (w' : World) (e : Ending), (∃ A' n c', Below w.heap.size w w' ∧ ldE false l = 0 ∧ n = (aB l).length ∧ e = .returned (.tuple #[lowV (aL l) (.slice A' n c'), .int .i64 0]) ∧ w'.ownsRow w.heap.size 5 1 (.slice A' n c') (aB l).length (bys (aB l))) → LDecPost w false l e w' from fun w' e ⟨A', n, c', h1, h2, h3, h4, h5⟩ => LDecPost.ok h2 h3 h1 h4 h5)
  have HY := Lib.hid (show ∀ (w' : World) (e : Ending) (er : Int), ldE false l = er → er ≠ 0 → Below w.heap.size w w' → e = .returned (.tuple #[lowV ⟨false, false, false, 0, 0, 0, 0, 0, false⟩ (.slice none 0 0), .int .i64 er]) → LDecPost w false l e w' from fun w' e er h1 h2 h3 h4 => LDecPost.err h1 h2 h3 h4)
  generalize hQ : LDecPost w false l = Q at *
  clear hQ
  generalize aE l = er at *
  generalize aL l = p at *
  generalize aB l = k at *
  generalize ldE false l = et at *
  clear hb
  generalize l.length = n at *
  have hn0 : ((n : Int) == 0) = false := by simp; omega
  go_enter Try.func19, Try.ntmps19
  go_wp2_with (go_at_call 38; fail)
  have hbr := Box.new w #[.bool false, .bool false, .bool false, .int .i64 0, .int .i64 0, .int .i64 0, .int .i64 0, .int .u32 0, .bool false, .slice none 0 0] 25
  refine (C.out _ (HB.out.on (al1 w (.cells #[.bool false, .bool false, .bool false, .int .i64 0, .int .i64 0, .int .i64 0, .int .i64 0, .int .u32 0, .bool false, .slice none 0 0] 25)))).mono ?_
  rintro e w1 ⟨hb1, q, A1, n1, c1, rfl, hok⟩
  have HR1 := Lib.hid (hbr.on hb1)
  have HB1 := Lib.hid (one hb1)
  obtain ⟨d0, d1, d2, d3, d4, d5, d6, d7, d8, d9⟩ := low_box (p := low0) HR1.out
  obtain ⟨g0, g1, g2, g3, g4, g5, g6, g7, g8, g9⟩ := low_free HR1.out
  dsimp only [low0] at d0 d1 d2 d3 d4 d5 d6 d7 d8
  have z1 := HR1.out.lt
  clear hb1 hbr
  by_cases her : er = 0
  · subst her
    obtain ⟨rfl, rfl, hs⟩ := hok rfl
    have HS := Lib.hid hs
    have CK := Lib.hid (tcheck_any q A1 k.length c1)
    have HEE := Lib.hid (show et = chkL q k.length by rw [HE.out, if_neg (by decide)])
    generalize chkL q k.length = ck at *
    obtain rfl := HEE.out
    clear hs hok HE d0 d1 d2 d3 d4 d5 d6 d7 d8 d9 g0 g1 g2 g3 g4 g5 g6 g7 g8 g9
    go_wp2_with fail
    refine (CK.out _).mono ?_
    rintro e w2 ⟨rfl, hb2⟩
    have HR2 := Lib.hid ((HR1.out.alloc _).on hb2)
    have HL2 := Lib.hid ((low_new w1 q (.slice A1 k.length c1) 25).on hb2)
    have HB2 := Lib.hid (bthen HB1.out (one hb2))
    have HS2 := Lib.hid (own_on (own_on HS.out (al1 _ _)) hb2)
    obtain ⟨e0, e1, e2, e3, e4, e5, e6, e7, e8, e9⟩ := low_box HL2.out
    have z3 := HL2.out.lt
    obtain ⟨d0, d1, d2, d3, d4, d5, d6, d7, d8, d9⟩ := low_box (p := low0) HR2.out
    obtain ⟨g0, g1, g2, g3, g4, g5, g6, g7, g8, g9⟩ := low_free HR2.out
    dsimp only [low0] at d0 d1 d2 d3 d4 d5 d6 d7 d8
    have z2 := HR2.out.lt
    clear hb2
    by_cases hck : et = 0
    · subst hck
      go_wp2_with fail
      refine bodyPost_ret (res_low rfl _ _ w.heap.size q (.slice A1 k.length c1) rfl ?_) rfl (HX.out _ _ ⟨A1, k.length, c1, ?_, by first | rfl | trivial, rfl, rfl, ?_⟩)
      · exact HR2.out.put (lowCs q (.slice A1 k.length c1)) rfl
      · exact below_puts (b := w.heap.size) (Nat.le_refl _) 0 (lowCs q (.slice A1 k.length c1)) HB2.out
      · exact own_base (own_puts HS2.out (b := w.heap.size) (fun g hg => by have := (HS2.out.lt g hg).1; simp at this; omega) 0 (lowCs q (.slice A1 k.length c1))) (by simp)
    · have hck' := ne_bool hck
      have HCK := Lib.hid hck
      clear hck
      go_wp2_with fail
      refine bodyPost_ret (res_low rfl _ _ w.heap.size ⟨false, false, false, 0, 0, 0, 0, 0, false⟩ (.slice none 0 0) rfl ?_) rfl (HY.out _ _ _ rfl HCK.out ?_ rfl)
      · exact HR2.out.put (lowCs ⟨false, false, false, 0, 0, 0, 0, 0, false⟩ (.slice none 0 0)) rfl
      · exact below_puts (b := w.heap.size) (Nat.le_refl _) 0 (lowCs ⟨false, false, false, 0, 0, 0, 0, 0, false⟩ (.slice none 0 0)) HB2.out
  · have her' := ne_bool her
    have her'' : (er == 0) = false := by simpa using her
    have HEE := Lib.hid (show et = er by rw [HE.out, if_pos her])
    have HER := Lib.hid her
    clear her hok
    go_wp2_with fail
    refine bodyPost_ret (res_low rfl _ _ w.heap.size ⟨false, false, false, 0, 0, 0, 0, 0, false⟩ (.slice none 0 0) rfl ?_) rfl (HY.out _ _ _ HEE.out HER.out ?_ rfl)
    · exact (HR1.out.put (lowCs ⟨false, false, false, 0, 0, 0, 0, 0, false⟩ (.slice none 0 0)) rfl).alloc _
    · exact (below_puts (b := w.heap.size) (Nat.le_refl _) 0 (lowCs ⟨false, false, false, 0, 0, 0, 0, 0, false⟩ (.slice none 0 0)) HB1.out).alloc (by rw [size_puts]; exact HB1.out.size) _

/-- transport.Decode returns the PDU of a payload, or the error. -/
theorem tdecode_any (ct : Bool) (l : List UInt8) (hlm : l.length ≤ 140737488355328) (v : Value) (w : World) (hb : BS w w.heap.size v l) : Calls Try.prog 19 #[.bool ct, v] w (LDecPost w ct l) := by
  rcases Nat.eq_zero_or_pos l.length with h | h
  · obtain rfl := List.eq_nil_of_length_eq_zero h
    exact tdecode_nil ct v w hb
  · rcases ct with _ | _
    · exact tdecode_a l h hlm v w hb
    · exact tdecode_c l h hlm v w hb
end Go.Proofs.Ytkpjinkkjbljkaa
