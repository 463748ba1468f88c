/- Contracts of octets and its reference at argument values of whatever form; copied; lives of the law of layer 2. -/
import Derived.Test.YthgpmedldnnhpaaRef5
import Derived.Test.YthgpmedldnnhpaaRef3
namespace Go.Proofs.Ythgpmedldnnhpaa
open Go.RowKit

theorem PutPost.ok {w w' : World} {l : List (Int × Nat)} {e : Ending} {ys : List UInt8} (h : PutPost w l e w') (hy : putS l = some ys) : Below w.heap.size w w' ∧ ∃ v, e = .returned (.tuple #[v, .int .i64 0]) ∧ w'.ownsRow w.heap.size 5 1 v ys.length (bys ys) := by
  unfold PutPost at h
  rw [hy] at h
  exact h
theorem PutPost.bad {w w' : World} {l : List (Int × Nat)} {e : Ending} (h : PutPost w l e w') (hy : putS l = none) : Below w.heap.size w w' ∧ e = .returned (.tuple #[.slice none 0 0, .int .i64 5]) := by
  unfold PutPost at h
  rw [hy] at h
  exact h
theorem OptPost.ok {w w' : World} {r : Option (List UInt8)} {er : Int} {e : Ending} {ys : List UInt8} (h : OptPost w r er e w') (hy : r = some ys) : Below w.heap.size w w' ∧ ∃ v, e = .returned (.tuple #[v, .int .i64 0]) ∧ w'.ownsRow w.heap.size 5 1 v ys.length (bys ys) := by
  subst hy
  exact h
theorem OptPost.bad {w w' : World} {r : Option (List UInt8)} {er : Int} {e : Ending} (h : OptPost w r er e w') (hy : r = none) : Below w.heap.size w w' ∧ e = .returned (.tuple #[.slice none 0 0, .int .i64 er]) := by
  subst hy
  exact h

section
variable (w : World)
theorem put_v (v : Value) (l : List (Int × Nat)) (hv : ∀ f ∈ l, f.2 < 2 ^ 64) (hlen : l.length ≤ 8796093022208) (hs : Sl w w.heap.size 2 v l.length (flds l)) : Calls Try.prog 9 #[v] w (PutPost w l) := by
  obtain ⟨A, c, rfl, _⟩ := id hs
  exact put_any l hv hlen A c w hs
theorem refput_v (v : Value) (l : List (Int × Nat)) (hv : ∀ f ∈ l, f.2 < 2 ^ 64) (hlen : l.length ≤ 8796093022208) (hs : Sl w w.heap.size 2 v l.length (flds l)) : Calls Try.prog 10 #[v] w (PutPost w l) := by
  obtain ⟨A, c, rfl, _⟩ := id hs
  exact refput_any l hv hlen A c w hs
theorem take_v (v u : Value) (l : List UInt8) (sizes : List Int) (hb : BS w w.heap.size v l) (hs : Sl w w.heap.size 1 u sizes.length (ints sizes)) (hl : l.length ≤ 211106232532992) (hn : sizes.length ≤ 17592186044416) :
    Calls Try.prog 13 #[v, u] w (TakePost w l sizes) := by
  obtain ⟨A, c, rfl, _⟩ := id hb
  obtain ⟨A', c', rfl, _⟩ := id hs
  exact take_any l sizes A c A' c' w hb hs hl hn
theorem reftake_v (v u : Value) (l : List UInt8) (sizes : List Int) (hb : BS w w.heap.size v l) (hs : Sl w w.heap.size 1 u sizes.length (ints sizes)) (hl : l.length ≤ 140737488355328) (hn : sizes.length ≤ 17592186044416) :
    Calls Try.prog 15 #[v, u] w (TakePost w l sizes) := by
  obtain ⟨A, c, rfl, _⟩ := id hb
  obtain ⟨A', c', rfl, _⟩ := id hs
  exact reftake_any l sizes A c A' c' w hb hs hl hn
theorem join_v (v : Value) (vs : List Value) (ls : List (List UInt8)) (hs : Sl w w.heap.size 1 v vs.length vs) (hp : Parts w w.heap.size vs ls) (hlen : ls.flatten.length ≤ 211106232532992) (hn : vs.length ≤ 5864062014805) :
    Calls Try.prog 17 #[v] w (BytesPost w ls.flatten) := by
  obtain ⟨A, c, rfl, _⟩ := id hs
  exact join_any vs ls A c w hs hp hlen hn
theorem xor_v (v u : Value) (l k : List UInt8) (ha : BS w w.heap.size v l) (hb : BS w w.heap.size u k) (hl : l.length ≤ 140737488355328) (hk : k.length ≤ 140737488355328) : Calls Try.prog 18 #[v, u] w (BytesPost w (xorS l k)) := by
  obtain ⟨A, c, rfl, _⟩ := id ha
  obtain ⟨A', c', rfl, _⟩ := id hb
  exact xor_any l k A c A' c' w ha hb hl hk
theorem refxor_v (v u : Value) (l k : List UInt8) (ha : BS w w.heap.size v l) (hb : BS w w.heap.size u k) (hl : l.length ≤ 140737488355327) (hk : k.length ≤ 140737488355327) : Calls Try.prog 19 #[v, u] w (BytesPost w (xorS l k)) := by
  obtain ⟨A, c, rfl, _⟩ := id ha
  obtain ⟨A', c', rfl, _⟩ := id hb
  exact refxor_any l k A c A' c' w ha hb hl hk
theorem hex_v (v : Value) (l : List UInt8) (hb : BS w w.heap.size v l) (hl : l.length ≤ 70368744177664) : Calls Try.prog 22 #[v] w (StrPost w (hexS l)) := by
  obtain ⟨A, c, rfl, _⟩ := id hb
  exact hex_any l A c w hb hl
theorem refhex_v (v : Value) (l : List UInt8) (hb : BS w w.heap.size v l) (hl : l.length ≤ 70368744177664) : Calls Try.prog 23 #[v] w (StrPost w (hexS l)) := by
  obtain ⟨A, c, rfl, _⟩ := id hb
  exact refhex_any l A c w hb hl
end

theorem same_b (w : World) (a b : Value) (l k : List UInt8) (ha : BS w w.heap.size a l) (hb : BS w w.heap.size b k) : Calls Try.prog 12 #[a, b] w fun e w' => e = .returned (.bool (decide (l = k))) ∧ Below w.heap.size w w' :=
  (same_any a b l k w ha hb).mono fun _ _ ⟨he, hw⟩ => ⟨he, hw ▸ Below.refl _ _⟩
theorem samenum_b (w : World) (a b : Value) (l k : List Nat) (ha : Sl w w.heap.size 1 a l.length (nums l)) (hb : Sl w w.heap.size 1 b k.length (nums k)) : Calls Try.prog 16 #[a, b] w fun e w' => e = .returned (.bool (decide (l = k))) ∧ Below w.heap.size w w' :=
  (samenum_any l k a b w w.heap.size ha hb).mono fun _ _ ⟨he, n, hw⟩ => ⟨he, by subst hw; exact below_drewN (Below.refl _ _) n⟩

set_option maxHeartbeats 400000 in
theorem copied_v (w : World) (v : Value) (l : List UInt8) (hb : BS w w.heap.size v l) (hl : l.length ≤ 140737488355328) : Calls Try.prog 14 #[v] w (BytesPost w l) := by
  have hlit := World.ownsRow_lit (base := w.heap.size) (e := 5) (size := 1) w #[] 0 (Nat.le_refl _) (by simp [maxLen]) rfl
  have HL := Lib.hid hlit
  have HB := Lib.hid (hb.on (al1 w (.cells #[] 5)))
  clear hlit hb
  go_enter Try.func14, Try.ntmps14
  go_wp2_with (first
    | (at_builtin
       refine app_sl _ elB rfl (.tmp 3) (.tmp 4) rfl rfl HL.out rfl HB.out ?_ ?_ ?_ ?_
       (case refine_1 => exact bys_one _)
       (case refine_2 => omega)
       (case refine_3 => simp)
       intro v1 w1 hown1 hg1 hnil1 hat1))
  go_ret
  exact ⟨below_app (al1 _ _) HL.out hg1 (Nat.le_refl _) (by simp), _, rfl, by simpa using hown1⟩

theorem parts_nil (w : World) (B : Nat) : Parts w B [] [] := ⟨rfl, fun i v l h => by simp at h⟩
theorem parts_cons {w : World} {B : Nat} {v : Value} {l : List UInt8} {vs : List Value} {ls : List (List UInt8)} (h : BS w B v l) (hs : Parts w B vs ls) : Parts w B (v :: vs) (l :: ls) :=
  ⟨by simp [hs.1], fun i v' l' h1 h2 => by
    cases i with
    | zero => simp at h1 h2; subst h1 h2; exact h
    | succ i => exact hs.2 i v' l' (by simpa using h1) (by simpa using h2)⟩
theorem bs_lit (w : World) (l : List UInt8) (cs : Array Value) (t : TypeId) (n g : Nat) (hg : g = w.heap.size) (hcs : cs.toList = bys l) (hn : n = l.length) (hm : l.length ≤ maxLen) : BS (w.alloc (.cells cs t)) (w.alloc (.cells cs t)).heap.size (.slice (some ⟨g, 0, none⟩) n n) l := by
  subst hn hg
  have h := Sl.lit w cs t (size := 1) l.length (by rw [← Array.length_toList, hcs, bys_length]; omega) hm
  rw [hcs] at h
  exact h.more (by simp)
theorem sl_lit (w : World) (cs : Array Value) (xs : List Value) (t : TypeId) (size n g : Nat) (hg : g = w.heap.size) (hxs : cs.toList = xs) (hs : cs.size = n * size) (hm : n ≤ maxLen) : Sl (w.alloc (.cells cs t)) (w.alloc (.cells cs t)).heap.size size (.slice (some ⟨g, 0, none⟩) n n) n xs := by
  subst hg hxs
  exact (Sl.lit w cs t (size := size) n hs hm).more (by simp)
end Go.Proofs.Ythgpmedldnnhpaa
