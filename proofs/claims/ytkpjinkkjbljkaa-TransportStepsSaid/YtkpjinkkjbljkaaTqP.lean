/- What transport.Receive does, as plain data; words for its walk. No condition. -/
import Derived.Test.YtkpjinkkjbljkaaTq1
import Derived.Test.YtkpjinkkjbljkaaMany
namespace Go.Proofs.Ytkpjinkkjbljkaa
open Go.RowKit

/-- The number of which n bits are set. -/
def full (n : Nat) : Nat := 2 ^ n - 1
/-- A message of which nothing has come. -/
def newIn (src dst ze iv : Nat) (p : Low) : InS := ⟨src, dst, p.app, ze, iv, p.last, List.replicate (p.last + 1).toNat [], 0, 0, 0, false⟩
/-- Part number k has come. -/
def putIn (x : InS) (k : Nat) (bl : List UInt8) (ttl : Int) : InS :=
  if x.blk / 2 ^ k % 2 = 0 then { x with ttl := ttl, blk := x.blk + 2 ^ k, parts := x.parts.set k bl } else { x with ttl := ttl }
/-- Is it whole? When is it acknowledged? -/
def endIn (y : InS) (nd : Bool) (now : Int) : InS × Bool :=
  if y.blk = full (y.last + 1).toNat then ({ y with fin := true, parts := [] }, true) else (if nd = true ∧ y.due = 0 then { y with due := now + 10 } else y, false)
def ackIn (y : InS) (nd : Bool) (now : Int) : InS := if y.fin = true ∧ nd = true then { y with due := max now 1 } else y
def midIn (x : InS) (k : Nat) (bl : List UInt8) (ttl now : Int) (nd : Bool) : InS × Bool := if x.fin = true then (x, false) else endIn (putIn x k bl ttl) nd now
abbrev Msg := AccS × List UInt8
def gotIn (src dst iv ze : Nat) (x : InS) (k : Nat) (bl : List UInt8) (ttl now : Int) (nd : Bool) : List Msg :=
  if (midIn x k bl ttl now nd).2 = true then [(⟨src, dst, x.app, ttl, src, iv, ze⟩, (putIn x k bl ttl).parts.flatten)] else []
def keep8 (l : List InS) : List InS := l.drop (l.length - 8)
/-- The message to which a segment belongs, and the others. -/
def pickIn (is : List InS) (src dst ze iv : Nat) (p : Low) : InS × List InS :=
  match is.findIdx? (sameIn src dst iv ze) with
  | none => (newIn src dst ze iv p, is)
  | some i => (is.getD i ⟨0, 0, false, 0, 0, 0, [], 0, 0, 0, false⟩, is.eraseIdx i)
def backN (seq : Nat) (p : Low) : Nat := (seq + 8192 - p.zero.toNat) % 8192
/-- What Receive returns. -/
def recvT (is : List InS) (src dst isrc iv seq : Nat) (ttl : Int) (p : Low) (bl : List UInt8) (now : Int) : List InS × List Msg × Bool :=
  if chkL p bl.length ≠ 0 ∨ p.ctl = true then (is, [], false)
  else if p.seg = false then (is, [(⟨src, dst, p.app, ttl, isrc, iv, seq⟩, bl)], false)
  else if seq < backN seq p then (is, [], false)
  else if (placeR is src dst iv (seq - backN seq p) p).2 = false then (is, [], false)
  else
    let ze := seq - backN seq p
    let xr := pickIn is src dst ze iv p
    let m := midIn xr.1 p.idx.toNat bl ttl now (isNode dst)
    (keep8 (xr.2 ++ [ackIn m.1 (isNode dst) now]), gotIn src dst iv ze xr.1 p.idx.toNat bl ttl now (isNode dst), m.1.fin && isNode dst)

/-- What the state bears. -/
def WfIn (x : InS) : Prop := 0 ≤ x.last ∧ x.last ≤ 31 ∧ (x.fin = false → x.parts.length = (x.last + 1).toNat) ∧ x.parts.length ≤ 32 ∧ (∀ p ∈ x.parts, p.length ≤ 65536) ∧ x.blk < 4294967296
def WfIs (is : List InS) : Prop := is.length ≤ 8 ∧ ∀ x ∈ is, WfIn x
theorem WfIs.sized {is : List InS} (h : WfIs is) : Sized (is.map InS.parts) := by
  refine ⟨by rw [List.length_map]; have := h.1; omega, fun ps hps => ?_⟩
  obtain ⟨x, hx, rfl⟩ := List.mem_map.1 hps
  obtain ⟨_, _, _, h4, h5, _⟩ := h.2 x hx
  exact ⟨by omega, h5⟩
/-- A bit that is not set. -/
theorem or_bit {x k : Nat} (h : x / 2 ^ k % 2 = 0) : x ||| 2 ^ k = x + 2 ^ k := by
  have h1 : x = 2 ^ (k + 1) * (x / 2 ^ (k + 1)) + x % 2 ^ k := by
    have e1 := Nat.div_add_mod x (2 ^ (k + 1))
    have e2 : x % 2 ^ (k + 1) = x % 2 ^ k := by
      rw [Nat.pow_succ, Nat.mod_mul, h]
      simp
    rw [e2] at e1
    exact e1.symm
  have hlt : x % 2 ^ k < 2 ^ k := Nat.mod_lt _ (Nat.two_pow_pos k)
  have hlt2 : x % 2 ^ k < 2 ^ (k + 1) := by rw [Nat.pow_succ]; omega
  have hlt3 : 2 ^ k + x % 2 ^ k < 2 ^ (k + 1) := by rw [Nat.pow_succ]; omega
  generalize x / 2 ^ (k + 1) = q at *
  generalize x % 2 ^ k = r at *
  rw [h1, Nat.two_pow_add_eq_or_of_lt hlt2, Nat.or_assoc]
  have e3 : r ||| 2 ^ k = 2 ^ k + r := by
    rw [Nat.or_comm]
    have := Nat.two_pow_add_eq_or_of_lt hlt 1
    rw [Nat.mul_one] at this
    exact this.symm
  rw [e3, ← Nat.two_pow_add_eq_or_of_lt hlt3, ← Nat.two_pow_add_eq_or_of_lt hlt2]
  omega
/-- A list of messages in memory. -/
abbrev accF (a : Msg) (v : Value) : List Value := accCs a.1 v
abbrev AccsV (w : World) (B : Nat) (v : Value) (ms : List Msg) : Prop := ManyV accF 8 (fun a => a.2) w B v ms
abbrev AccsV2 (w : World) (b0 B : Nat) (v : Value) (ms : List Msg) : Prop := ManyV2 accF 8 (fun a => a.2) w b0 B v ms
theorem accF_len (a : Msg) (v : Value) : (accF a v).length = 8 := rfl
/-- What Receive leaves. -/
def RecvPost (os : List OutS) (r : List InS × List Msg × Bool) (w : World) (e : Ending) (w' : World) : Prop :=
  Below w.heap.size w w' ∧ ∃ v u x, e = .returned (.tuple #[.agg #[v, u], x, .bool r.2.2]) ∧
    RowV2 outCs 10 OutS.parts w' w.heap.size w'.heap.size v os ∧ RowV2 inCs 11 InS.parts w' w.heap.size w'.heap.size u r.1 ∧ AccsV2 w' w.heap.size w'.heap.size x r.2.1
/-- One message in a row of its own. -/
theorem accs_one {w : World} (a : AccS) (l : List UInt8) (A : Option Addr) (n c b0 : Nat) (hb : b0 ≤ w.heap.size) (h : BS2 w b0 w.heap.size (.slice A n c) l) : AccsV2 (w.alloc (.cells (accCs a (.slice A n c)).toArray 43)) b0 (w.alloc (.cells (accCs a (.slice A n c)).toArray 43)).heap.size (.slice (some ⟨w.heap.size, 0, none⟩) 1 1) [(a, l)] := by
  refine ⟨[.slice A n c], rfl, ?_, fun k p u hp hu => ?_⟩
  · exact (Sl2.lit w (accCs a (.slice A n c)).toArray _ 1 rfl (by simp [maxLen])).mono hb (by simp)
  · rcases k with _ | k
    · simp only [List.getElem?_cons_zero, Option.some.injEq] at hp hu
      subst hp hu
      exact (h.below (al1 _ _)).mono (Nat.le_refl _) (by simp)
    · simp at hp
end Go.Proofs.Ytkpjinkkjbljkaa
