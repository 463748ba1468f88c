/- Elements of advertising data as plain data; how they lie in memory. No condition. -/
import Derived.Test.YtncenlmfhnljgaaMany
namespace Go.Proofs.Ytncenlmfhnljgaa
open Go.RowKit

abbrev elCs (e : Int × List UInt8) (v : Value) : List Value := [.int .i64 e.1, v]
theorem elCs_len (e : Int × List UInt8) (v : Value) : (elCs e v).length = 2 := rfl
theorem elE : El Try.prog 22 49 2 32 := el_mk Try.underlying22 (z := .agg #[.int .i64 0, .slice none 0 0]) (by kernel_rfl) rfl (by omega) (by omega)
/-- A slice of elements that reads as these; one of the call's own. -/
abbrev ElsV (w : World) (B : Nat) (v : Value) (es : List (Int × List UInt8)) : Prop := ManyV elCs 2 (fun e => e.2) w B v es
abbrev OwnEls (w : World) (base : Nat) (v : Value) (es : List (Int × List UInt8)) : Prop := OwnM elCs 2 (fun e => e.2) 49 w base v es

/-- The elements of bytes, and the error behind them. -/
def elA (l : List UInt8) : List (Int × List UInt8) × Int :=
  match l with
  | [] => ([], 0)
  | n :: r => if n.toNat = 0 then ([], 2) else if r.length < n.toNat then ([], 3)
    else ((((r.getD 0 0).toNat : Int), (r.take n.toNat).drop 1) :: (elA (r.drop n.toNat)).1, (elA (r.drop n.toNat)).2)
termination_by l.length
decreasing_by
  all_goals
    simp only [List.length_drop, List.length_cons]
    omega
theorem elA_nil : elA [] = ([], 0) := by rw [elA]
theorem elA_zero {n : UInt8} {r : List UInt8} (h : n.toNat = 0) : elA (n :: r) = ([], 2) := by rw [elA, if_pos h]
theorem elA_short {n : UInt8} {r : List UInt8} (h : n.toNat ≠ 0) (h2 : r.length < n.toNat) : elA (n :: r) = ([], 3) := by rw [elA, if_neg h, if_pos h2]
theorem elA_one {n : UInt8} {r : List UInt8} (h : n.toNat ≠ 0) (h2 : ¬ r.length < n.toNat) : elA (n :: r) = ((((r.getD 0 0).toNat : Int), (r.take n.toNat).drop 1) :: (elA (r.drop n.toNat)).1, (elA (r.drop n.toNat)).2) := by rw [elA, if_neg h, if_neg h2]
/-- The walk of an iterator: these have come, the rest is to come. -/
def Upto (l : List UInt8) (pre : List (Int × List UInt8)) (rest : List UInt8) : Prop := elA l = (pre ++ (elA rest).1, (elA rest).2) ∧ pre.length + rest.length ≤ l.length
theorem Upto.start (l : List UInt8) : Upto l [] l := ⟨by simp, by simp⟩
theorem Upto.one {l : List UInt8} {pre : List (Int × List UInt8)} {n : UInt8} {r : List UInt8} (hu : Upto l pre (n :: r)) (h : n.toNat ≠ 0) (h2 : ¬ r.length < n.toNat) :
    Upto l (pre ++ [(((r.getD 0 0).toNat : Int), (r.take n.toNat).drop 1)]) (r.drop n.toNat) := by
  obtain ⟨h3, h4⟩ := hu
  rw [elA_one h h2] at h3
  refine ⟨by rw [h3]; simp, ?_⟩
  simp only [List.length_cons, List.length_append, List.length_drop, List.length_nil] at *
  omega
/-- The error of bytes; the elements, where there is none. -/
def adE (l : List UInt8) : Int := if 31 < l.length then 4 else (elA l).2
def adL (l : List UInt8) : List (Int × List UInt8) := if adE l = 0 then (elA l).1 else []
/-- What Decode leaves. -/
def ADecPost (w : World) (l : List UInt8) (e : Ending) (w' : World) : Prop :=
  Below w.heap.size w w' ∧ ∃ v, e = .returned (.tuple #[v, .int .i64 (adE l)]) ∧ ElsV w' w'.heap.size v (adL l)
end Go.Proofs.Ytncenlmfhnljgaa
