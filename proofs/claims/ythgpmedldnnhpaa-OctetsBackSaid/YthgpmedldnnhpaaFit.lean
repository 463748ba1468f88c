/- append onto a row of bytes of the call's own where the sum passes 2^47 bytes: the room grows by a fourth at most there. No condition. -/
import Derived.Test.YthgpmedldnnhpaaMem
namespace Go.Proofs.Ythgpmedldnnhpaa
open Go.RowKit

theorem cap_fine {need old : Nat} (h : old < need) : Builtin.nextslicecap need old ≤ need + need / 4 + 512 := by
  unfold Builtin.nextslicecap
  split
  · omega
  · split
    · omega
    · rw [growBy_four]
      repeat' split
      all_goals omega
/-- The row that append lays anew. -/
theorem fresh_row (w : World) {base n m cp : Nat} {e : TypeId} {z : Array Value} {xs news : List Value} (hxs : xs.length = n) (hn : news.length = m) (hz : z.size = 1) (hge : n + m ≤ cp) (hcp : cp ≤ maxLen) (hb : base ≤ w.heap.size) :
    (w.drew.alloc (.cells (xs.toArray ++ news.toArray ++ Builtin.zeroCells z (cp - (n + m))) e)).ownsRow base e 1 (.slice (some ⟨w.heap.size, 0, none⟩) (n + m) cp) (n + m) (xs ++ news) := by
  have hl : (xs ++ news).length = n + m := by rw [List.length_append, hxs, hn]
  refine ⟨by rw [hl, Nat.mul_one], .inr ⟨w.heap.size, cp, _, rfl, hb, heap_alloc_new w.drew _, hge, hcp, ?_, ?_⟩⟩
  · rw [Array.size_append, Array.size_append, size_zeroCells, hz, List.size_toArray, List.size_toArray, hxs, hn]
    omega
  · rw [Array.toList_append, Array.toList_append, Nat.mul_one, ← hl]
    exact List.take_left
theorem fresh_grown (w : World) (o : Obj) (row : Option Nat) : w.grownBy (w.drew.alloc o) row := ⟨rfl, rfl, rfl, by simp, fun k hk _ => heap_alloc_old w.drew o hk⟩
section
variable {P : Program} (w : World)
theorem run_append_fit {t e : TypeId} (E : El P t e 1 1) (ty : TypeId) {base B n m : Nat} {v x : Value} {xs news : List Value} (hown : w.ownsRow base e 1 v n xs) (hx : Sl w B 1 x m news)
    (h1 : ∀ u ∈ news, u.oneCell' = true) (hfit : n + m ≤ 211106232532992) (hbase : base ≤ w.heap.size) :
    ∃ v' w', (Builtin.append_ #[t, t] ty #[v, x]).run P w = .ok v' w' ∧ w'.ownsRow base e 1 v' (n + m) (xs ++ news) ∧ w.grownBy w' v.ownBlock := by
  by_cases hle : (n + m) * 1 ≤ 140737488355328
  · obtain ⟨v', w', a1, a2, a3, _⟩ := run_append_sl w E ty hown hx h1 hle hbase
    exact ⟨v', w', a1, a2, a3⟩
  obtain ⟨ht, ⟨i, z, hi, hz, hsz, hby, hzs⟩, _, _⟩ := E
  have hml : n + m ≤ maxLen := by simp only [maxLen]; omega
  have hxl : xs.length = n := by rw [hown.1, Nat.mul_one]
  obtain ⟨A, c, rfl, hmc, _, hl, hr⟩ := hx
  rw [Nat.mul_one] at hl
  have hl1 : news.length = m * i.size := by rw [hsz, Nat.mul_one, hl]
  rcases A with _ | ad
  · obtain rfl : news = [] := by
      rcases hr with hr | ⟨b, off, h, _⟩
      · exact hr
      · cases h
    obtain rfl : m = 0 := by simpa using hl.symm
    refine ⟨v, w, ?_, by simpa using hown, ⟨rfl, rfl, rfl, Nat.le_refl _, fun _ _ _ => rfl⟩⟩
    rcases hown.2 with ⟨rfl, rfl⟩ | ⟨g, cap, cur, rfl, _, _, hnc, _⟩
    · simp [Builtin.append_, run_underlying ht, sizeOf, typeInfo, hi, Builtin.lenOf, Builtin.firstCells]
    · simp [Builtin.append_, run_underlying ht, sizeOf, typeInfo, hi, Builtin.lenOf, Builtin.firstCells, hnc, storeCells]
  have hcells : ∀ j u, news[j]? = some u → w.cell? (ad.add j) = some u := by
    intro j u hu
    rcases hr with rfl | ⟨b, off, h, _, hc⟩
    · simp at hu
    · injection h with h
      subst h
      have e : (⟨b, off, none⟩ : Addr).add j = ⟨b, off + j, none⟩ := by unfold Addr.add; split <;> simp_all
      rw [e]
      exact hc j u hu
  rcases id hown.2 with ⟨rfl, rfl⟩ | ⟨g, cap, cur, rfl, hbg, hg, hnc, hcm, hcs, htake⟩
  · obtain rfl : xs = [] := List.eq_nil_of_length_eq_zero hxl
    have hr := run_append_nil (P := P) w t ty e i z ht hi hz ad m c news hl1 hcells (by omega) (by omega) (by rw [hby]; omega)
    have hf := fresh_row w (base := base) (e := e) (z := z.cells) (xs := []) (news := news) (n := 0) (m := m) (cp := grownCap w m 0 e) rfl hl hzs (by have := grownCap_ge w m 0 e; omega) (grownCap_le_maxLen w m 0 e (by simp only [maxLen]; omega)) hbase
    simp only [Nat.zero_add, List.nil_append, Array.empty_append] at hf ⊢
    exact ⟨_, _, hr, hf, fresh_grown w _ _⟩
  · by_cases hroom : n + m ≤ cap
    · have hr := run_append_room (P := P) w t ty e i ht hi g n cap cur hg ad m c news hl1 hcells h1 hroom (by rw [hsz, hl, hcs]; omega)
      refine ⟨_, _, hr, ⟨by rw [List.length_append, hxl, hl, Nat.mul_one], .inr ⟨g, cap, _, rfl, hbg, setRow_heap w g cur _ e _ hg, hroom, hcm, ?_, ?_⟩⟩, ⟨rfl, rfl, rfl, by simp, fun k _ hk => setRow_other w g k _ (fun e => hk (by simp [Value.ownBlock, e]))⟩⟩
      · have hcl : cur.size = cap := by rw [hcs, Nat.mul_one]
        simp only [List.size_toArray, List.length_append, List.length_take, List.length_drop, Array.length_toList, hsz, Nat.mul_one, hl]
        omega
      · have hl2 : (xs ++ news).length = n + m := by rw [List.length_append, hxl, hl]
        rw [hsz, htake, Nat.mul_one, ← hl2]
        exact List.take_left
    · have holds : ∀ j u, xs[j]? = some u → w.cell? ((⟨g, 0, none⟩ : Addr).add j) = some u := hown.cells (g := g) rfl
      have hr := run_append_grow (P := P) w t ty e i z ht hi hz ⟨g, 0, none⟩ n cap xs (by rw [hsz, Nat.mul_one, hxl]) holds ad m c news hl1 hcells (by omega) (by omega) (by
        have h2 := cap_fine (need := n + m) (old := cap) (by omega)
        rw [hby, Nat.mul_one]
        omega)
      exact ⟨_, _, hr, fresh_row w hxl hl hzs (grownCap_ge w (n + m) cap e) (grownCap_le_maxLen w (n + m) cap e hml) hbase, fresh_grown w _ _⟩
theorem app_fit {ops : Array Oper} {rest : List Oper} {o : Oper} {a : Act} {Q : Exit → Act → World → Prop} {t e : TypeId} (E : El P t e 1 1) (hgd : o.guard = none) (s y : Operand)
    (ho : o.op = .call { callee := .builtin .append, args := #[s, y], argTypes := #[t, t] }) {base B n m : Nat} {v x : Value} {xs news : List Value} (hs : a.eval s = v) (hown : w.ownsRow base e 1 v n xs) (hy : a.eval y = x) (hx : Sl w B 1 x m news)
    (h1 : ∀ u ∈ news, u.oneCell' = true) (hfit : n + m ≤ 211106232532992) (hbase : base ≤ w.heap.size)
    (h : ∀ v' w', w'.ownsRow base e 1 v' (n + m) (xs ++ news) → w.grownBy w' v.ownBlock → wpList P ops Q rest (a.put o.dst v') w') : wpList P ops Q (o :: rest) a w := by
  refine wpList_plain hgd fun K hK => ?_
  obtain ⟨v', w', hr, h2, h3⟩ := run_append_fit (P := P) w E o.type hown hx h1 hfit hbase
  unfold Oper.wp execOp
  simp only [ho, resolve, invoke, builtin, Sem.run_bind, Sem.run_pure, Result.andThen_ok, List.map_toArray, List.map_cons, List.map_nil, hs, hy, hr]
  exact hK _ _ (h v' w' h2 h3)
end
end Go.Proofs.Ythgpmedldnnhpaa
