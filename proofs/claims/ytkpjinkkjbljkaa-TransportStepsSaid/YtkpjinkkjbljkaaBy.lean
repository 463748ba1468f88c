/- append of bytes onto a row of bytes of the call's own, in one fact: the row grown, and everything before it as it was. No condition. -/
import Derived.Test.YtkpjinkkjbljkaaOct1
import Derived.Test.YtkpjinkkjbljkaaMem3
import Derived.Test.YtkpjinkkjbljkaaBox
namespace Go.Proofs.Ytkpjinkkjbljkaa
open Go.RowKit

/-- A row of bytes of the call's own, from block base on. -/
abbrev OB (w : World) (base : Nat) (v : Value) (ys : List UInt8) : Prop := w.ownsRow base 5 1 v ys.length (bys ys)
theorem OB.lit (w : World) (b : Nat) (hb : b < 256) : OB (w.alloc (.cells #[.int .u8 (b : Int)] 5)) w.heap.size (.slice (some ⟨w.heap.size, 0, none⟩) 1 1) [UInt8.ofNat b] := by
  have h := World.ownsRow_lit (base := w.heap.size) (e := 5) (size := 1) w #[.int .u8 (b : Int)] 1 (Nat.le_refl _) (by simp [maxLen]) rfl
  have e : bys [UInt8.ofNat b] = [.int .u8 (b : Int)] := by simp [bys]; omega
  unfold OB
  rw [e]
  exact h
theorem OB.nil (w : World) : OB (w.alloc (.cells #[] 5)) w.heap.size (.slice (some ⟨w.heap.size, 0, none⟩) 0 0) [] := World.ownsRow_lit (base := w.heap.size) (e := 5) (size := 1) w #[] 0 (Nat.le_refl _) (by simp [maxLen]) rfl

section
variable {P : Program} (w : World) {ops : Array Oper} {rest : List Oper} {o : Oper} {a : Act} {K : Act → World → Prop} {Q : Exit → Act → World → Prop} {E' : Prop} {t : TypeId} {B : Nat}
theorem step_by (E : El P t 5 1 1) (hgd : o.guard = none) (s y : Operand)
    (ho : o.op = .call { callee := .builtin .append, args := #[s, y], argTypes := #[t, t] }) {base : Nat} {v x : Value} {ys news : List UInt8} (hs : a.eval s = v) (hown : OB w base v ys) (hy : a.eval y = x) (hx : BS w B x news)
    (hl : ys.length + news.length ≤ 140737488355328) (hbase : base ≤ w.heap.size)
    (h : ∀ v' w', OB w' base v' (ys ++ news) → Below base w w' → K (a.put o.dst v') w') :
    if Region.wanted o (yielded ops a.tmps) = true then Oper.wp P o a w K Q else E' := by
  refine step_sl w E hgd s y ho hs hown hy hx (bys_one _) (by omega) hbase fun v' w' h1 hg _ _ => h v' w' ?_ (below_app (Below.refl _ _) hown hg (Nat.le_refl _) hbase)
  unfold OB
  rw [List.length_append, bys_append]
  exact h1
theorem app_by (E : El P t 5 1 1) (hgd : o.guard = none) (s y : Operand)
    (ho : o.op = .call { callee := .builtin .append, args := #[s, y], argTypes := #[t, t] }) {base : Nat} {v x : Value} {ys news : List UInt8} (hs : a.eval s = v) (hown : OB w base v ys) (hy : a.eval y = x) (hx : BS w B x news)
    (hl : ys.length + news.length ≤ 140737488355328) (hbase : base ≤ w.heap.size)
    (h : ∀ v' w', OB w' base v' (ys ++ news) → Below base w w' → wpList P ops Q rest (a.put o.dst v') w') : wpList P ops Q (o :: rest) a w := by
  refine app_sl w E hgd s y ho hs hown hy hx (bys_one _) (by omega) hbase fun v' w' h1 hg _ _ => h v' w' ?_ (below_app (Below.refl _ _) hown hg (Nat.le_refl _) hbase)
  unfold OB
  rw [List.length_append, bys_append]
  exact h1
end
end Go.Proofs.Ytkpjinkkjbljkaa
