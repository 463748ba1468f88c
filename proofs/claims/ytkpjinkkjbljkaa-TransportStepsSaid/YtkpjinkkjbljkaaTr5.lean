/- The bytes of a PDU of the lower transport layer; the walk of transport.Encode. No condition. -/
import Derived.Test.YtkpjinkkjbljkaaTr4
import Derived.Test.YtkpjinkkjbljkaaBox
namespace Go.Proofs.Ytkpjinkkjbljkaa
open Go.RowKit

theorem ne_bool {a b : Int} (h : a ≠ b) : (a != b) = true := by simpa using h
/-- The number of a flag. -/
def fl (b : Bool) (n : Nat) : Nat := if b then n else 0
/-- The head of a PDU, as numbers of so many bytes. -/
def headN (p : Low) : List (Int × Nat) :=
  if isA p then [(1, 0), (2, p.zero.toNat + fl p.fr 8192), (4, p.blk)]
  else if p.ctl then [(1, p.op.toNat)]
  else if p.seg then [(1, 128 + fl p.app 64), (3, p.zero.toNat + p.idx.toNat * 8192 + p.last.toNat * 262144)]
  else [(1, fl p.app 64)]
/-- The bytes of a list of numbers. -/
def fieldB (l : List (Int × Nat)) : List UInt8 := l.flatMap fun f => le f.1.toNat f.2
/-- The bytes of a PDU. -/
def encL (p : Low) (l : List UInt8) : List UInt8 := fieldB (headN p) ++ l

/-- What is known of a valid PDU of n bytes. -/
structure LowIs (p : Low) (n : Nat) : Prop where
  hz : 0 ≤ p.zero ∧ p.zero ≤ 8191
  hl : 0 ≤ p.last ∧ p.last ≤ 31
  hi : 0 ≤ p.idx ∧ p.idx ≤ p.last
  ho : p.ctl = true → 0 ≤ p.op ∧ p.op ≤ 8
  hr : restP p n = true
  hn : n ≤ 15
  hm : p.ctl = false → 1 ≤ n
theorem low_is {p : Low} {n : Nat} (h : chkL p n = 0) : LowIs p n := by
  unfold chkL chkB at h
  by_cases h1 : p.ctl = true ∧ (p.op < 0 ∨ 8 < p.op)
  · rw [if_pos h1] at h; exact absurd h (by decide)
  rw [if_neg h1] at h
  by_cases h2 : restP p n = false
  · rw [if_pos h2] at h; exact absurd h (by decide)
  rw [if_neg h2] at h
  by_cases h3 : p.zero < 0 ∨ 8191 < p.zero ∨ p.last < 0 ∨ 31 < p.last ∨ p.idx < 0 ∨ p.last < p.idx
  · rw [if_pos h3] at h; exact absurd h (by decide)
  rw [if_neg h3] at h
  obtain ⟨lo, hlo⟩ : ∃ lo : Int, lo = if p.ctl = true then 0 else if p.seg = true ∧ p.idx < p.last then 12 else 1 := ⟨_, rfl⟩
  obtain ⟨hi, hhi⟩ : ∃ hi : Int, hi = if p.ctl = false ∧ p.seg = true then 12 else 15 := ⟨_, rfl⟩
  rw [← hlo, ← hhi] at h
  by_cases h4 : (n : Int) < lo
  · rw [if_pos h4] at h; exact absurd h (by decide)
  rw [if_neg h4] at h
  by_cases h5 : hi < (n : Int)
  · rw [if_pos h5] at h; exact absurd h (by decide)
  have h6 : hi ≤ 15 := by rw [hhi]; split <;> omega
  refine ⟨by omega, by omega, by omega, fun hc => ?_, by simpa using h2, by omega, fun hc => ?_⟩
  · by_cases h6 : p.op < 0
    · exact absurd ⟨hc, .inl h6⟩ h1
    · by_cases h7 : 8 < p.op
      · exact absurd ⟨hc, .inr h7⟩ h1
      · omega
  · rw [if_neg (by rw [hc]; decide)] at hlo
    have : 1 ≤ lo := by rw [hlo]; split <;> omega
    omega

theorem putS_ok (l : List (Int × Nat)) (h : ∀ f ∈ l, fok f = true) : putS l = some (fieldB l) := by
  suffices H : ∀ (l : List (Int × Nat)) (ys : List UInt8), (∀ f ∈ l, fok f = true) → l.foldl putStep (some ys) = some (ys ++ fieldB l) by
    have := H l [] h
    simpa [putS] using this
  intro l
  induction l with
  | nil => intro ys _; simp [fieldB]
  | cons f r ih =>
    intro ys h
    have hf : fok f = true := h f (List.mem_cons_self ..)
    rw [List.foldl_cons, show putStep (some ys) f = some (ys ++ le f.1.toNat f.2) by simp [putStep, hf], ih _ (fun g hg => h g (List.mem_cons_of_mem _ hg))]
    simp [fieldB]
theorem headN_ok {p : Low} {n : Nat} (h : LowIs p n) (hb : p.blk < 4294967296) : (∀ f ∈ headN p, fok f = true) ∧ (∀ f ∈ headN p, f.2 < 2 ^ 64) ∧ (headN p).length ≤ 3 ∧ (fieldB (headN p)).length ≤ 7 := by
  obtain ⟨hz, hl, hi, ho, _, _, _⟩ := h
  unfold headN
  have e1 : fl p.fr 8192 ≤ 8192 := by unfold fl; split <;> omega
  have e2 : fl p.app 64 ≤ 64 := by unfold fl; split <;> omega
  split
  · refine ⟨?_, ?_, ?_, ?_⟩
    · intro f hf; simp at hf; rcases hf with rfl | rfl | rfl <;> (unfold fok; rw [decide_eq_true]; simp; try omega)
    · intro f hf; simp at hf; rcases hf with rfl | rfl | rfl <;> simp <;> omega
    · simp
    · simp [fieldB, le_length]
  · split
    · rename_i hc
      have := ho hc
      refine ⟨?_, ?_, ?_, ?_⟩
      · intro f hf; simp at hf; subst hf; unfold fok; rw [decide_eq_true]; simp; omega
      · intro f hf; simp at hf; subst hf; simp; omega
      · simp
      · simp [fieldB, le_length]
    · split
      · refine ⟨?_, ?_, ?_, ?_⟩
        · intro f hf; simp at hf; rcases hf with rfl | rfl <;> (unfold fok; rw [decide_eq_true]; simp; try omega)
        · intro f hf; simp at hf; rcases hf with rfl | rfl <;> simp <;> omega
        · simp
        · simp [fieldB, le_length]
      · refine ⟨?_, ?_, ?_, ?_⟩
        · intro f hf; simp at hf; subst hf; unfold fok; rw [decide_eq_true]; simp; omega
        · intro f hf; simp at hf; subst hf; simp; omega
        · simp
        · simp [fieldB, le_length]

/-- The cells of a PDU. -/
abbrev lowCs (p : Low) (v : Value) : List Value := [.bool p.ctl, .bool p.seg, .bool p.app, .int .i64 p.zero, .int .i64 p.idx, .int .i64 p.last, .int .i64 p.op, .int .u32 (p.blk : Int), .bool p.fr, v]
theorem low_box {w : World} {b : Nat} {p : Low} {v : Value} (h : Box w b (lowCs p v)) :
    w.cell? ⟨b, 0, none⟩ = some (.bool p.ctl) ∧ w.cell? ⟨b, 1, none⟩ = some (.bool p.seg) ∧ w.cell? ⟨b, 2, none⟩ = some (.bool p.app) ∧ w.cell? ⟨b, 3, none⟩ = some (.int .i64 p.zero) ∧ w.cell? ⟨b, 4, none⟩ = some (.int .i64 p.idx) ∧
      w.cell? ⟨b, 5, none⟩ = some (.int .i64 p.last) ∧ w.cell? ⟨b, 6, none⟩ = some (.int .i64 p.op) ∧ w.cell? ⟨b, 7, none⟩ = some (.int .u32 (p.blk : Int)) ∧ w.cell? ⟨b, 8, none⟩ = some (.bool p.fr) ∧ w.cell? ⟨b, 9, none⟩ = some v :=
  ⟨h.cell (j := 0) rfl, h.cell (j := 1) rfl, h.cell (j := 2) rfl, h.cell (j := 3) rfl, h.cell (j := 4) rfl, h.cell (j := 5) rfl, h.cell (j := 6) rfl, h.cell (j := 7) rfl, h.cell (j := 8) rfl, h.cell (j := 9) rfl⟩
theorem low_new (w : World) (p : Low) (v : Value) (t : TypeId) : Box (w.alloc (.cells #[.bool p.ctl, .bool p.seg, .bool p.app, .int .i64 p.zero, .int .i64 p.idx, .int .i64 p.last, .int .i64 p.op, .int .u32 (p.blk : Int), .bool p.fr, v] t)) w.heap.size (lowCs p v) := Box.new w _ t

theorem flag_any (b : Bool) (n : Nat) (w : World) : Calls Try.prog 33 #[.bool b, .int .u64 (n : Int)] w fun e w' => e = .returned (.int .u64 (fl b n : Nat)) ∧ w = w' := by
  rcases b with _ | _
  · go_enter Try.func33, Try.ntmps33
    go_wp2
    go_ret
    exact ⟨rfl, rfl⟩
  · go_enter Try.func33, Try.ntmps33
    go_wp2
    go_ret
    exact ⟨rfl, rfl⟩
theorem bit_any (b : Bool) (n : Nat) (w : World) : Calls Try.prog 37 #[.bool b, .int .i64 (n : Int)] w fun e w' => e = .returned (.int .i64 (fl b n : Nat)) ∧ w = w' := by
  rcases b with _ | _
  · go_enter Try.func37, Try.ntmps37
    go_wp2
    go_ret
    exact ⟨rfl, rfl⟩
  · go_enter Try.func37, Try.ntmps37
    go_wp2
    go_ret
    exact ⟨rfl, rfl⟩

/-- What an encoding of a PDU leaves. -/
def LEncPost (w : World) (p : Low) (l : List UInt8) (e : Ending) (w' : World) : Prop :=
  Below w.heap.size w w' ∧ (chkL p l.length = 0 → ∃ v, e = .returned (.tuple #[v, .int .i64 0]) ∧ w'.ownsRow w.heap.size 5 1 v (encL p l).length (bys (encL p l))) ∧
    (chkL p l.length ≠ 0 → e = .returned (.tuple #[.slice none 0 0, .int .i64 (chkL p l.length)]))

set_option maxRecDepth 100000 in
set_option maxHeartbeats 4000000 in
theorem tencode_bad (p : Low) (A : Option Addr) (n c : Nat) (hc : chkL p n ≠ 0) (w : World) : Calls Try.prog 16 #[lowV p (.slice A n c)] w fun e w' => e = .returned (.tuple #[.slice none 0 0, .int .i64 (chkL p n)]) ∧ Below w.heap.size w w' := by
  have C := Lib.hid (tcheck_any p A n c)
  have hc' := ne_bool hc
  clear hc
  generalize chkL p n = cc at *
  obtain ⟨ct, s, a, z, i, l, o, b, f⟩ := p
  go_enter Try.func16, Try.ntmps16
  go_wp2_with fail
  refine (C.out _).mono ?_
  rintro e w1 ⟨rfl, hb1⟩
  have HB1 := Lib.hid (one hb1)
  clear hb1 C
  go_wp2_with fail
  go_ret2
  exact ⟨rfl, HB1.out⟩

theorem tput_v {w : World} (v : Value) (l : List (Int × Nat)) (hv : ∀ f ∈ l, f.2 < 2 ^ 64) (hlen : l.length ≤ 8796093022208) (hs : Sl w w.heap.size 2 v l.length (flds l)) : Calls Try.prog 34 #[v] w (PutPost w l) := by
  obtain ⟨A, c, rfl, _⟩ := id hs
  exact put_any l hv hlen A c w hs
theorem ttake_v {w : World} (v u : Value) (l : List UInt8) (sizes : List Int) (hb : BS w w.heap.size v l) (hs : Sl w w.heap.size 1 u sizes.length (ints sizes)) (hl : l.length ≤ 140737488355328) (hn : sizes.length ≤ 17592186044416) :
    Calls Try.prog 58 #[v, u] w (TakePost w l sizes) := by
  obtain ⟨A, c, rfl, _⟩ := id hb
  obtain ⟨A', c', rfl, _⟩ := id hs
  exact take_any l sizes A c A' c' w hb hs hl hn
theorem parts2 {w : World} {B : Nat} {v u : Value} {l k : List UInt8} (h : BS w B v l) (h' : BS w B u k) : Parts w B [v, u] [l, k] := by
  refine ⟨rfl, ?_⟩
  intro i x y h1 h2
  match i, h1, h2 with
  | 0, h1, h2 =>
    simp only [List.getElem?_cons_zero, Option.some.injEq] at h1 h2
    subst h1 h2
    exact h
  | 1, h1, h2 =>
    simp only [List.getElem?_cons_succ, List.getElem?_cons_zero, Option.some.injEq] at h1 h2
    subst h1 h2
    exact h'
theorem join2 (v u : Value) (l k : List UInt8) (w : World) (hv : BS w w.heap.size v l) (hu : BS w w.heap.size u k) (hl : l.length + k.length ≤ 140737488355328) (t : TypeId) :
    Calls Try.prog 35 #[.slice (some ⟨w.heap.size, 0, none⟩) 2 2] (w.alloc (.cells #[v, u] t)) fun e w' => Below w.heap.size w w' ∧ ∃ x, e = .returned x ∧ w'.ownsRow w.heap.size 5 1 x (l ++ k).length (bys (l ++ k)) := by
  have h := join_any [v, u] [l, k] (some ⟨w.heap.size, 0, none⟩) 2 (w.alloc (.cells #[v, u] t)) ((Sl.lit (size := 1) w #[v, u] t 2 rfl (by simp [maxLen])).more (by simp)) (parts2 (hv.on (al1 _ _)) (hu.on (al1 _ _))) (by simpa using hl) (by simp)
  refine h.mono fun e w' hh => ?_
  obtain ⟨hb, x, rfl, hx⟩ := hh
  refine ⟨one hb, x, rfl, ?_⟩
  have := own_base hx (show w.heap.size ≤ _ by simp)
  simpa using this
end Go.Proofs.Ytkpjinkkjbljkaa
