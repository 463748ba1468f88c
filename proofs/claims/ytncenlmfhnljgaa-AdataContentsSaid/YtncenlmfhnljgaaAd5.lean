/- Walks of adata: Find, Name; of the law: copied. No condition. -/
import Derived.Test.YtncenlmfhnljgaaAd4
namespace Go.Proofs.Ytncenlmfhnljgaa
open Go.RowKit

theorem acopied_any (v : Value) (l : List UInt8) (w : World) (hb : BS w w.heap.size v l) (hl : l.length ≤ 140737488355328) : Calls Try.prog 15 #[v] w (BytesPost w l) := by
  obtain ⟨A, c, rfl, _⟩ := id hb
  have HB := Lib.hid hb
  generalize hn : l.length = n at *
  have HN := Lib.hid hn
  clear hb hn
  go_enter Try.func15, Try.ntmps15
  go_wp2_with (first
      | (at_builtin
         refine app_by _ elB rfl (.tmp 3) (.tmp 4) rfl rfl (OB.nil w) rfl (HB.out.on (al1 w _)) ?_ ?_ ?_
         (case refine_1 => rw [HN.out]; simp; omega)
         (case refine_2 => simp)
         intro v1 w1 hown1 hb1))
  go_ret
  exact ⟨((al1 _ _).trans hb1), _, rfl, hown1⟩

/-- The first element of a kind. -/
def findA (es : List (Int × List UInt8)) (k : Int) : Option (List UInt8) := (es.find? fun e => e.1 == k).map (·.2)
theorem findA_hit {es : List (Int × List UInt8)} {k : Int} {i : Nat} {e : Int × List UInt8} (h : findA (es.take i) k = none) (he : es[i]? = some e) (hk : (e.1 == k) = true) : findA es k = some e.2 := by
  obtain ⟨hi, rfl⟩ := List.getElem?_eq_some_iff.1 he
  have h1 : es = es.take i ++ es[i] :: es.drop (i + 1) := by rw [← List.drop_eq_getElem_cons hi, List.take_append_drop]
  unfold findA at *
  rw [Option.map_eq_none_iff] at h
  have h2 : es.find? (fun e => e.1 == k) = (es.take i ++ es[i] :: es.drop (i + 1)).find? (fun e => e.1 == k) := congrArg _ h1
  rw [h2, List.find?_append, h, Option.none_or, List.find?_cons, hk]
  rfl
theorem findA_miss {es : List (Int × List UInt8)} {k : Int} {i : Nat} {e : Int × List UInt8} (h : findA (es.take i) k = none) (he : es[i]? = some e) (hk : (e.1 == k) = false) : findA (es.take (i + 1)) k = none := by
  obtain ⟨hi, rfl⟩ := List.getElem?_eq_some_iff.1 he
  unfold findA at *
  rw [Option.map_eq_none_iff] at *
  rw [List.take_succ_eq_append_getElem hi, List.find?_append, h, Option.none_or, List.find?_cons, hk]
  rfl
theorem elA_le : ∀ (n : Nat) (l : List UInt8), l.length ≤ n → (elA l).1.length ≤ l.length := by
  intro n
  induction n with
  | zero => intro l h; have : l = [] := List.length_eq_zero_iff.1 (by omega); subst this; rw [elA_nil]; simp
  | succ n ih =>
    intro l h
    cases l with
    | nil => rw [elA_nil]; simp
    | cons x r =>
      by_cases h1 : x.toNat = 0
      · rw [elA_zero h1]; simp
      · by_cases h2 : r.length < x.toNat
        · rw [elA_short h1 h2]; simp
        · rw [elA_one h1 h2]
          have := ih (r.drop x.toNat) (by simp at h ⊢; omega)
          simp at this ⊢
          omega
theorem adL_le (l : List UInt8) : (adL l).length ≤ 31 := by
  unfold adL adE
  by_cases h : 31 < l.length
  · rw [if_pos h]; simp
  · rw [if_neg h]
    have := elA_le _ l (Nat.le_refl _)
    split <;> simp <;> omega
def FindPost (w : World) (l : List UInt8) (k : Int) (e : Ending) (w' : World) : Prop :=
  Below w.heap.size w w' ∧ ∃ v, e = .returned (.tuple #[v, .bool (findA (adL l) k).isSome]) ∧ BS w' w'.heap.size v ((findA (adL l) k).getD [])
/-- The two cells of an element. -/
theorem els_cells {w : World} {B : Nat} {v : Value} {es : List (Int × List UInt8)} (h : ElsV w B v es) {i : Nat} {e : Int × List UInt8} (hi : es[i]? = some e) : ∃ (b o c : Nat) (A' : Option Addr) (c' : Nat), v = .slice (some ⟨b, o, none⟩) es.length c ∧ b < B ∧ w.cell? ⟨b, o + i * 2, none⟩ = some (.int .i64 e.1) ∧ w.cell? ⟨b, o + i * 2 + 1, none⟩ = some (.slice A' e.2.length c') ∧ BS w B (.slice A' e.2.length c') e.2 := by
  obtain ⟨vs, h1, h2, h3⟩ := h
  have hiv : i < vs.length := by have := (List.getElem?_eq_some_iff.1 hi).1; omega
  obtain ⟨A', c', hf⟩ : ∃ A' c', vs[i] = .slice A' e.2.length c' := by
    obtain ⟨A', c', h, _⟩ := h3 i e vs[i] hi (List.getElem?_eq_getElem hiv)
    exact ⟨A', c', h⟩
  have hb := h3 i e vs[i] hi (List.getElem?_eq_getElem hiv)
  have c0 := flat2_at elCs_len es vs i e vs[i] 0 h1 hi (List.getElem?_eq_getElem hiv) (by omega)
  have c1 := flat2_at elCs_len es vs i e vs[i] 1 h1 hi (List.getElem?_eq_getElem hiv) (by omega)
  obtain ⟨A, c, rfl, _⟩ := id h2
  obtain ⟨b, o, rfl, hB, hc⟩ := h2.cells c0
  refine ⟨b, o, c, A', c', rfl, hB, hc _ _ c0, ?_, by rw [← hf]; exact hb⟩
  have := hc _ _ c1
  rw [hf] at this
  exact this
set_option maxRecDepth 100000 in
set_option maxHeartbeats 4000000 in
theorem afind_any (v : Value) (l : List UInt8) (k : Int) (w : World) (hb : BS w w.heap.size v l) : Calls Try.prog 18 #[v, .int .i64 k] w (FindPost w l k) := by
  have C := Lib.hid (adecode_any v l w hb)
  obtain ⟨A, c, rfl, _⟩ := id hb
  have hle := adL_le l
  unfold ADecPost at C
  have HQ := Lib.hid (show ∀ (e : Ending) (w' : World), (Below w.heap.size w w' ∧ ∃ v, e = .returned (.tuple #[v, .bool (findA (adL l) k).isSome]) ∧ BS w' w'.heap.size v ((findA (adL l) k).getD [])) → FindPost w l k e w' from fun _ _ h => h)
  generalize FindPost w l k = Q at *
  generalize adL l = es at *
  generalize adE l = er at *
  have HLE := Lib.hid hle
  clear hb hle
  go_enter Try.func18, Try.ntmps18
  go_wp2_with fail
  refine C.out.mono ?_
  rintro e w1 ⟨hb1, u, rfl, hu⟩
  obtain ⟨A1, c1, rfl⟩ := hu.form
  have HB1 := Lib.hid hb1
  have HU := Lib.hid hu
  clear hb1 hu C
  go_wp2_with fail
  go_loopw [17] (fun i wr => ∃ j : Nat, j ≤ es.length ∧ i = .int .i64 j ∧ findA (es.take j) k = none ∧ Below w1.heap.size w1 wr) (fun i _ => es.length - (intOf i).toNat)
  case atStart => exact ⟨0, Nat.zero_le _, rfl, rfl, Below.refl _ _⟩
  case round =>
    obtain ⟨j, hj, rfl, hno, hbel⟩ := hrel
    have HNO := Lib.hid hno
    have HBE := Lib.hid hbel
    by_cases hlt : j < es.length
    · have hej := List.getElem?_eq_getElem hlt
      obtain ⟨b, o, c2, A', c', hform, hB, d0, d1, hbs⟩ := els_cells (HU.out.below hbel) hej
      injection hform with hf1 _ hf3
      subst hf1 hf3
      have HEJ := Lib.hid hej
      have HBS := Lib.hid hbs
      generalize es[j] = ej at *
      obtain ⟨kj, lj⟩ := ej
      dsimp only at d0 d1
      clear hno hbel hej hbs
      by_cases hk : kj = k
      · subst hk
        go_wp2_with fail
        refine HQ.out _ _ ⟨(bthen HB1.out HBE.out).alloc (bthen HB1.out HBE.out).size _, _, by rw [findA_hit HNO.out HEJ.out (by simp)]; rfl, ?_⟩
        rw [findA_hit HNO.out HEJ.out (by simp)]
        exact ((HBS.out.more HBE.out.size).on (al1 wr _))
      · have hk' : (kj == k) = false := by simpa using hk
        have HK := Lib.hid hk'
        clear hk
        go_wp2_with fail
        go_roundw
        case rel => exact ⟨j + 1, by omega, by rw [IntWalk.wrap64_in ((j : Int) + 1) (by have := HLE.out; omega)]; go_num, findA_miss HNO.out HEJ.out HK.out, HBE.out.alloc HBE.out.size _⟩
        case measure => rw [IntWalk.wrap64_in ((j : Int) + 1) (by have := HLE.out; omega)]; simp [intOf]; omega
    · have hje : j = es.length := by omega
      subst hje
      go_wp2_with fail
      rw [List.take_length] at hno
      exact HQ.out _ _ ⟨bthen HB1.out hbel, _, by rw [hno]; rfl, by rw [hno]; exact .nil _ _⟩
end Go.Proofs.Ytncenlmfhnljgaa
