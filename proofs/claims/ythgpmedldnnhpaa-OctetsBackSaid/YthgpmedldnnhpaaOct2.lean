/- Walks of package octets: Join; and of the reference's Same. -/
import Derived.Test.YthgpmedldnnhpaaOct1
import Derived.Test.YthgpmedldnnhpaaFit
namespace Go.Proofs.Ythgpmedldnnhpaa
open Go.RowKit

/-- Slices of bytes, one after the other, that read as these lists. -/
def Parts (w : World) (B : Nat) (vs : List Value) (ls : List (List UInt8)) : Prop := vs.length = ls.length ∧ ∀ (i : Nat) v l, vs[i]? = some v → ls[i]? = some l → BS w B v l
theorem Parts.below {w w' : World} {B : Nat} {vs : List Value} {ls : List (List UInt8)} (h : Parts w B vs ls) (hb : Below B w w') : Parts w' B vs ls := ⟨h.1, fun i v l h1 h2 => (h.2 i v l h1 h2).below hb⟩
theorem Parts.more {w : World} {B B' : Nat} {vs : List Value} {ls : List (List UInt8)} (h : Parts w B vs ls) (hb : B ≤ B') : Parts w B' vs ls := ⟨h.1, fun i v l h1 h2 => (h.2 i v l h1 h2).more hb⟩
theorem flatten_take_succ {ls : List (List UInt8)} {k : Nat} (hk : k < ls.length) : (ls.take (k + 1)).flatten = (ls.take k).flatten ++ ls[k] := by
  rw [List.take_succ_eq_append_getElem hk, List.flatten_append]
  simp
theorem flatten_take_le (ls : List (List UInt8)) (k : Nat) : (ls.take k).flatten.length ≤ ls.flatten.length := by
  have h : ls.flatten.length = (ls.take k).flatten.length + (ls.drop k).flatten.length := by
    rw [← List.length_append, ← List.flatten_append, List.take_append_drop]
  omega

/-- What a call leaves that returns bytes in a row of its own. -/
def BytesPost (w : World) (l : List UInt8) (e : Ending) (w' : World) : Prop := Below w.heap.size w w' ∧ ∃ v, e = .returned v ∧ w'.ownsRow w.heap.size 5 1 v l.length (bys l)

set_option maxRecDepth 100000 in
set_option maxHeartbeats 1000000 in
theorem join_any (vs : List Value) (ls : List (List UInt8)) (A : Option Addr) (c : Nat) (w : World) (hs : Sl w w.heap.size 1 (.slice A vs.length c) vs.length vs) (hp : Parts w w.heap.size vs ls) (hlen : ls.flatten.length ≤ 211106232532992) (hn : vs.length ≤ 5864062014805) :
    Calls Try.prog 17 #[.slice A vs.length c] w (BytesPost w ls.flatten) := by
  have HS := Lib.hid hs
  have HP := Lib.hid hp
  clear hs hp
  go_enter Try.func17, Try.ntmps17
  go_wp2_with fail
  go_loopw [3, 8] (fun v i wr => ∃ (k : Nat), k ≤ vs.length ∧ i = .int .i64 k ∧ wr.ownsRow w.heap.size 5 1 v (ls.take k).flatten.length (bys (ls.take k).flatten) ∧ Below w.heap.size w wr) (fun _ i _ => vs.length - (intOf i).toNat)
  case atStart => exact ⟨0, Nat.zero_le _, rfl, by simpa [bys] using World.ownsRow_nil w w.heap.size 5 1, Below.refl _ _⟩
  case round =>
    obtain ⟨k, hk, rfl, hown, hbel⟩ := hrel
    have HO := Lib.hid hown
    have HB := Lib.hid hbel
    clear hown hbel
    by_cases hlt : k < vs.length
    · have hlk : k < ls.length := by rw [← HP.out.1]; exact hlt
      obtain ⟨b, off, rfl, hbB, hcell⟩ := (HS.out.below HB.out).cells (List.getElem?_eq_getElem hlt)
      have hc0 := hcell _ _ (List.getElem?_eq_getElem hlt)
      have hb1 := (HP.out.below HB.out).2 k _ _ (List.getElem?_eq_getElem hlt) (List.getElem?_eq_getElem hlk)
      clear hcell
      generalize vs[k] = vk at *
      have hsum : (ls.take (k + 1)).flatten.length ≤ 211106232532992 := Nat.le_trans (flatten_take_le ls (k + 1)) hlen
      rw [flatten_take_succ hlk, List.length_append] at hsum
      have HK := Lib.hid hb1
      clear hb1
      go_wp2_with (first
        | (at_builtin
           refine app_fit _ elB rfl (.tmp 12) (.tmp 13) rfl rfl HO.out rfl HK.out ?_ ?_ ?_ ?_
           (case refine_1 => exact bys_one _)
           (case refine_2 => omega)
           (case refine_3 => exact HB.out.size)
           intro v1 w1 hown1 hg1))
      have hb1 : Below w.heap.size w w1 := below_app HB.out HO.out hg1 (Nat.le_refl _) HB.out.size
      rw [← bys_append, ← List.length_append, ← flatten_take_succ hlk] at hown1
      have K1 := Lib.hid hown1
      have K5 := Lib.hid hb1
      clear hown1 hg1 hb1 hc0 hsum
      go_wp2
      go_roundw
      case rel => exact ⟨k + 1, by omega, by go_num, K1.out, K5.out⟩
      case measure => simp [intOf]; omega
    · go_wp2_with fail
      go_ret
      have e : (ls.take k) = ls := List.take_of_length_le (by rw [← HP.out.1]; omega)
      have h := HO.out
      rw [e] at h
      exact ⟨HB.out, _, rfl, h⟩

set_option maxHeartbeats 400000 in
theorem same_any (a b : Value) (l k : List UInt8) (w : World) (ha : BS w w.heap.size a l) (hb : BS w w.heap.size b k) :
    Calls Try.prog 12 #[a, b] w fun e w' => e = .returned (.bool (decide (l = k))) ∧ w = w' := by
  have c1 := ha.conv (P := Try.prog) (ts := 9) Try.underlying23 Try.underlying5 Try.underlying9
  have c2 := hb.conv (P := Try.prog) (ts := 9) Try.underlying23 Try.underlying5 Try.underlying9
  clear ha hb
  go_enter Try.func12, Try.ntmps12
  go_wp2
  go_ret
  refine ⟨ret_bool ?_, rfl⟩
  rw [Bool.eq_iff_iff]
  simp
end Go.Proofs.Ythgpmedldnnhpaa
