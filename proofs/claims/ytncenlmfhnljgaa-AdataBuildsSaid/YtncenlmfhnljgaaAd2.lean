/- Walks of package adata: elements (the iterator's closure), slices.Clone. No condition. -/
import Derived.Test.YtncenlmfhnljgaaAd1
import Derived.Test.YtncenlmfhnljgaaBox
import Derived.Lib.BufferMore
import Derived.RangeFuncMany
import Derived.RangeFuncLeaves
import Derived.Shelf.Abstract
import Derived.TacticsIn
import Derived.BigFrameIn
namespace Go.Proofs.Ytncenlmfhnljgaa
open Go.RowKit

theorem elements_any (v : Value) (w : World) (hv : ∃ A n c, v = .slice A n c) : Calls Try.prog 27 #[v] w fun e w' => e = .returned (.func (.func 31) #[] #[.pointer (some ⟨w.heap.size, 0, none⟩)]) ∧ w' = w.alloc (.cells #[v] 24) := by
  obtain ⟨A, n, c, rfl⟩ := hv
  have hmf : ∀ (fn : Fn) (first cap : Array Value) (w : World), (Instr.makeFunc fn first cap).run Try.prog w = .ok (.func fn first cap) w := fun _ _ _ _ => rfl
  go_enter Try.func27, Try.ntmps27
  go_wp2
  go_ret
  exact ⟨rfl, rfl⟩
/-- slices.Clone: bytes in a row of their own; nil stays nil. -/
theorem sclone_any (v : Value) (l : List UInt8) (w : World) (hb : BS w w.heap.size v l) (hl : l.length ≤ 140737488355328) : Calls Try.prog 32 #[v] w (BytesPost w l) := by
  obtain ⟨A, c, rfl, hnc, hcm, hcl, hr⟩ := id hb
  have HB := Lib.hid hb
  rcases A with _ | A
  · have hl0 : l = [] := by
      rcases hr with h | ⟨b, off, h, _⟩
      · simpa [bys] using h
      · cases h
    subst hl0
    have hq : ∀ W, (binOp .eql 24 (.slice none 0 c) (.slice none 0 0)).run Try.prog W = .ok (.bool true) W := fun W => Lib.run_eql_slice_nil_nil W _ _ Try.underlying24
    clear hb hr hcl HB
    go_enter Try.func32, Try.ntmps32
    go_wp2
    go_ret
    exact ⟨Below.refl _ _, _, rfl, World.ownsRow_nil _ _ _ _⟩
  · have hq : ∀ W, (binOp .eql 24 (.slice (some A) l.length c) (.slice none 0 0)).run Try.prog W = .ok (.bool false) W := fun W => Lib.run_eql_slice_some_nil W _ _ _ Try.underlying24
    clear hb hr hcl
    generalize hn : l.length = n at *
    have HN := Lib.hid hn
    clear hn
    go_enter Try.func32, Try.ntmps32
    go_wp2_with (first
      | (at_builtin
         refine app_by _ elB rfl (.tmp 5) (.tmp 6) rfl rfl (OB.nil w) rfl (HB.out.on (al1 w _)) ?_ ?_ ?_
         (case refine_1 => rw [HN.out]; simp; omega)
         (case refine_2 => simp)
         intro v1 w1 hown1 hb1))
    go_ret
    exact ⟨((al1 _ _).trans hb1), _, rfl, hown1⟩
end Go.Proofs.Ytncenlmfhnljgaa
