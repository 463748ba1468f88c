/- Walks of package address and its reference: Encode. -/
import Derived.Test.YtpomobeogkfmfaaDoorAdr15
import Derived.Test.YtpomobeogkfmfaaDoorOct3
namespace Go.Proofs.YtpomobeogkfmfaaDoor
open Go.RowKit

theorem put_v {w : World} (v : Value) (l : List (Int × Nat)) (hv : ∀ f ∈ l, f.2 < 2 ^ 64) (hlen : l.length ≤ 8796093022208) (hs : Sl w w.heap.size 2 v l.length (flds l)) : Calls Tryd.prog 49 #[v] w (PutPost w l) := by
  obtain ⟨A, c, rfl, _⟩ := id hs
  exact put_any l hv hlen A c w hs
theorem take_v {w : World} (v u : Value) (l : List UInt8) (sizes : List Int) (hb : BS w w.heap.size v l) (hs : Sl w w.heap.size 1 u sizes.length (ints sizes)) (hl : l.length ≤ 140737488355328) (hn : sizes.length ≤ 17592186044416) :
    Calls Tryd.prog 50 #[v, u] w (TakePost w l sizes) := by
  obtain ⟨A, c, rfl, _⟩ := id hb
  obtain ⟨A', c', rfl, _⟩ := id hs
  exact take_any l sizes A c A' c' w hb hs hl hn

/-- The bytes of an address. -/
def encA (k : Int) (x : Nat) : List UInt8 := UInt8.ofNat k.toNat :: le 6 x
theorem encA_length (k : Int) (x : Nat) : (encA k x).length = 7 := by simp [encA, le_length]
/-- What an encoding of an address leaves. -/
def EncPost (w : World) (k : Int) (x : Nat) (e : Ending) (w' : World) : Prop :=
  Below w.heap.size w w' ∧ (chkA k x = 0 → ∃ v, e = .returned (.tuple #[v, .int .i64 0]) ∧ w'.ownsRow w.heap.size 5 1 v 7 (bys (encA k x))) ∧
    (chkA k x ≠ 0 → e = .returned (.tuple #[.slice none 0 0, .int .i64 (chkA k x)]))
theorem put_enc (kk x : Nat) (hk : kk < 256) (hx : x < 281474976710656) : putS [(1, kk), (6, x)] = some (encA kk x) := by
  have f1 : fok (1, kk) = true := by unfold fok; rw [decide_eq_true]; simp; omega
  have f2 : fok (6, x) = true := by unfold fok; rw [decide_eq_true]; simp; omega
  show putStep (putStep (some []) (1, kk)) (6, x) = _
  unfold putStep
  simp only [f1, f2, if_true]
  have e : le 1 kk = [UInt8.ofNat kk] := by simp [le]
  simp [encA, e]

set_option maxRecDepth 100000 in
set_option maxHeartbeats 2000000 in
theorem encode_any (k : Int) (x : Nat) (w : World) (hT : ATab w) : Calls Tryd.prog 27 #[adr k x] w (EncPost w k x) := by
  have hb := al1 w (.cells #[.int .i64 k, .int .u64 (x : Int)] 24)
  by_cases hc : chkA k x = 0
  · obtain ⟨h1, h4, hx⟩ := chk_ok hc
    obtain ⟨kk, rfl⟩ := Int.eq_ofNat_of_zero_le (show 0 ≤ k by omega)
    have HC := Lib.hid hc
    have HP := Lib.hid (put_enc kk x (by omega) hx)
    go_enter Tryd.func27, Tryd.ntmps27
    go_wp2_with fail
    refine (check_any kk x _ (hT.keep hb)).mono ?_
    rintro e w1 ⟨rfl, hb1⟩
    rw [hc]
    have hcl := bfar (w.heap.size + 1) hb1 (by simp)
    have hl0 := hcl w.heap.size 0 (by omega)
    have hl1 := hcl w.heap.size 1 (by omega)
    have hB := Lib.hid (bthen hb hb1)
    have hz := sz1 hb1
    have h4' : kk ≤ 4 := by omega
    clear hcl hb hb1 hT hc h1 h4
    go_wp2_with fail
    refine (put_v _ [(1, kk), (6, x)] ?_ ?_ ?_).mono ?_
    · intro f hf
      simp at hf
      rcases hf with rfl | rfl
      · simp; omega
      · simp; omega
    · simp
    · exact (Sl.lit w1 #[.int .i64 1, .int .u64 (kk : Int), .int .i64 6, .int .u64 (x : Int)] _ 2 rfl (by simp [maxLen])).more (by simp)
    rintro e w2 ⟨hb2, hm⟩
    rw [HP.out] at hm
    obtain ⟨v, rfl, hown⟩ := hm
    have K1 := Lib.hid hown
    have K2 := Lib.hid (bthen hB.out (one hb2))
    have hs : w.heap.size ≤ (w1.alloc (.cells #[.int .i64 1, .int .u64 (kk : Int), .int .i64 6, .int .u64 (x : Int)] 75)).heap.size := by have := hB.out.size; simp; omega
    have K3 := Lib.hid hs
    clear hown hb2 hs
    go_wp2_with fail
    go_ret2
    refine ⟨K2.out, fun _ => ⟨v, rfl, ?_⟩, fun h => absurd HC.out h⟩
    have h := own_base K1.out K3.out
    rwa [encA_length] at h
  · have HC := Lib.hid hc
    have HC' := ne_bool hc
    go_enter Tryd.func27, Tryd.ntmps27
    go_wp2_with fail
    refine (check_any k x _ (hT.keep hb)).mono ?_
    rintro e w1 ⟨rfl, hb1⟩
    have hB := Lib.hid (bthen hb hb1)
    clear hb hb1 hT hc
    generalize hcd : chkA k x = c at *
    have HCD := Lib.hid hcd
    clear hcd
    go_wp2_with fail
    go_ret2
    exact ⟨hB.out, fun h => absurd (HCD.out.symm.trans h) HC.out, fun _ => by rw [HCD.out]; rfl⟩
end Go.Proofs.YtpomobeogkfmfaaDoor
