/- The walk of the law TransportAcknowledges: for every argument it returns true. No condition but the size. -/
import Derived.Test.YtkpjinkkjbljkaaLw50a
import Derived.Test.YtkpjinkkjbljkaaLwC
import Derived.Test.YtkpjinkkjbljkaaTwQ
import Derived.Test.YtkpjinkkjbljkaaTaW
import Derived.Test.YtkpjinkkjbljkaaTq8
import Derived.Test.YtkpjinkkjbljkaaTq7
import Derived.Deep.RegionHeld3
import Derived.Deep.DeepCutAuto
namespace Go.Proofs.Ytkpjinkkjbljkaa
open Go.RowKit

/-- Many values at once: for the kernel this is little where one at a time is much. -/
theorem ex64 {P : Value → Value → Value → Value → Value → Value → Value → Value → Value → Value → Value → Value → Value → Value → Value → Value → Value → Value → Value → Value → Value → Value → Value → Value → Value → Value → Value → Value → Value → Value → Value → Value → Value → Value → Value → Value → Value → Value → Value → Value → Value → Value → Value → Value → Value → Value → Value → Value → Value → Value → Value → Value → Value → Value → Value → Value → Value → Value → Value → Value → Value → Value → Value → Value → Prop} (a0 a1 a2 a3 a4 a5 a6 a7 a8 a9 a10 a11 a12 a13 a14 a15 a16 a17 a18 a19 a20 a21 a22 a23 a24 a25 a26 a27 a28 a29 a30 a31 a32 a33 a34 a35 a36 a37 a38 a39 a40 a41 a42 a43 a44 a45 a46 a47 a48 a49 a50 a51 a52 a53 a54 a55 a56 a57 a58 a59 a60 a61 a62 a63 : Value) (h : P a0 a1 a2 a3 a4 a5 a6 a7 a8 a9 a10 a11 a12 a13 a14 a15 a16 a17 a18 a19 a20 a21 a22 a23 a24 a25 a26 a27 a28 a29 a30 a31 a32 a33 a34 a35 a36 a37 a38 a39 a40 a41 a42 a43 a44 a45 a46 a47 a48 a49 a50 a51 a52 a53 a54 a55 a56 a57 a58 a59 a60 a61 a62 a63) : ∃ a0 a1 a2 a3 a4 a5 a6 a7 a8 a9 a10 a11 a12 a13 a14 a15 a16 a17 a18 a19 a20 a21 a22 a23 a24 a25 a26 a27 a28 a29 a30 a31 a32 a33 a34 a35 a36 a37 a38 a39 a40 a41 a42 a43 a44 a45 a46 a47 a48 a49 a50 a51 a52 a53 a54 a55 a56 a57 a58 a59 a60 a61 a62 a63, P a0 a1 a2 a3 a4 a5 a6 a7 a8 a9 a10 a11 a12 a13 a14 a15 a16 a17 a18 a19 a20 a21 a22 a23 a24 a25 a26 a27 a28 a29 a30 a31 a32 a33 a34 a35 a36 a37 a38 a39 a40 a41 a42 a43 a44 a45 a46 a47 a48 a49 a50 a51 a52 a53 a54 a55 a56 a57 a58 a59 a60 a61 a62 a63 := ⟨a0, a1, a2, a3, a4, a5, a6, a7, a8, a9, a10, a11, a12, a13, a14, a15, a16, a17, a18, a19, a20, a21, a22, a23, a24, a25, a26, a27, a28, a29, a30, a31, a32, a33, a34, a35, a36, a37, a38, a39, a40, a41, a42, a43, a44, a45, a46, a47, a48, a49, a50, a51, a52, a53, a54, a55, a56, a57, a58, a59, a60, a61, a62, a63, h⟩
theorem ex16 {P : Value → Value → Value → Value → Value → Value → Value → Value → Value → Value → Value → Value → Value → Value → Value → Value → Prop} (a0 a1 a2 a3 a4 a5 a6 a7 a8 a9 a10 a11 a12 a13 a14 a15 : Value) (h : P a0 a1 a2 a3 a4 a5 a6 a7 a8 a9 a10 a11 a12 a13 a14 a15) : ∃ a0 a1 a2 a3 a4 a5 a6 a7 a8 a9 a10 a11 a12 a13 a14 a15, P a0 a1 a2 a3 a4 a5 a6 a7 a8 a9 a10 a11 a12 a13 a14 a15 := ⟨a0, a1, a2, a3, a4, a5, a6, a7, a8, a9, a10, a11, a12, a13, a14, a15, h⟩
theorem ex4 {P : Value → Value → Value → Value → Prop} (a0 a1 a2 a3 : Value) (h : P a0 a1 a2 a3) : ∃ a0 a1 a2 a3, P a0 a1 a2 a3 := ⟨a0, a1, a2, a3, h⟩
/-- The message in the sender's state. -/
def outK (a : AccS) (l : List UInt8) (A : Nat) (d t : Int) : OutS := ⟨a.dst, a.src, a.app, a.seq, a.iv, chunks l (cntP l), A, d, t, a.ttl⟩
/-- What is acknowledged has come. -/
def Sub (A : Nat) (s : List Bool) : Prop := ∀ k, A.testBit k = true → s.getD k false = true
def ORel (a : AccS) (l : List UInt8) (s : List Bool) (os : List OutS) : Prop := os = [] ∨ ∃ A d t, os = [outK a l A d t] ∧ Sub A s ∧ 0 ≤ t ∧ t ≤ 6
/-- A segment on its way. -/
def wayE (a : AccS) (l : List UInt8) (k : Nat) : Outw := (⟨a.src, a.dst, a.ttl, segL (mOut a l 5) k⟩, chunk l k)
def WayR (a : AccS) (l : List UInt8) (way : List Outw) : Prop := way.length ≤ 32 ∧ ∀ p ∈ way, ∃ k, k < cntP l ∧ p = wayE a l k
def ackP (a : AccS) (s : List Bool) (ttl : Int) : Outw := (⟨a.dst, a.src, ttl, ⟨true, false, false, ((a.seq % 8192 : Nat) : Int), 0, 0, 0, blkOf s, false⟩⟩, [])
theorem blk_bit (s : List Bool) (k : Nat) : (blkOf s).testBit k = s.getD k false := by
  have h := blkOf_bit s k
  rw [Nat.testBit_eq_decide_div_mod_eq, h]
  cases s.getD k false <;> rfl
theorem Sub.zero (s : List Bool) : Sub 0 s := fun k h => by simp at h
theorem Sub.lt {A : Nat} {s : List Bool} (h : Sub A s) : A < 2 ^ s.length := by
  apply Nat.lt_pow_two_of_testBit
  intro i hi
  cases hb : A.testBit i with
  | false => rfl
  | true =>
    have := h i hb
    rw [List.getD_eq_getElem?_getD, List.getElem?_eq_none hi] at this
    cases this
theorem Sub.set {A : Nat} {s : List Bool} (h : Sub A s) (k : Nat) : Sub A (s.set k true) := by
  intro i hi
  have h1 := h i hi
  have hlt : i < s.length := by
    apply Classical.byContradiction
    intro hc
    rw [List.getD_eq_getElem?_getD, List.getElem?_eq_none (by omega)] at h1
    cases h1
  rw [List.getD_eq_getElem?_getD] at h1 ⊢
  by_cases hk : k = i
  · subst hk
    rw [List.getElem?_set_self hlt]
    rfl
  · rw [List.getElem?_set_ne hk]
    exact h1
theorem ORel.set {a : AccS} {l : List UInt8} {s : List Bool} {os : List OutS} (h : ORel a l s os) (k : Nat) : ORel a l (s.set k true) os := by
  rcases h with h | ⟨A, d, t, h1, h2, h3⟩
  · exact .inl h
  · exact .inr ⟨A, d, t, h1, h2.set k, h3⟩
theorem full_bit (n k : Nat) : (full n).testBit k = decide (k < n) := Nat.testBit_two_pow_sub_one ..
theorem Sub.ack {A : Nat} {s : List Bool} (h : Sub A s) : Sub (A ||| (blkOf s &&& full s.length)) s := by
  intro k hk
  rw [Nat.testBit_or, Nat.testBit_and, blk_bit, Bool.or_eq_true, Bool.and_eq_true] at hk
  rcases hk with hk | hk
  · exact h k hk
  · exact hk.1
theorem Sub.all {A : Nat} {s : List Bool} (h : Sub A s) (hf : A = full s.length) : s.all id = true := by
  rw [List.all_eq_true]
  intro x hx
  obtain ⟨k, hk, rfl⟩ := List.getElem_of_mem hx
  have h1 := h k (by rw [hf, full_bit]; exact decide_eq_true hk)
  rw [List.getD_eq_getElem?_getD, List.getElem?_eq_getElem hk] at h1
  exact h1
theorem ack_all {A : Nat} {s : List Bool} (h : Sub A s) (ha : s.all id = true) : A ||| (blkOf s &&& full s.length) = full s.length := by
  apply Nat.eq_of_testBit_eq
  intro k
  rw [Nat.testBit_or, Nat.testBit_and, blk_bit, full_bit]
  by_cases hk : k < s.length
  · rw [all_seen ha hk, decide_eq_true hk]
    simp
  · rw [decide_eq_false hk, Bool.and_false, Bool.or_false]
    cases hb : A.testBit k with
    | false => rfl
    | true =>
      have := h k hb
      rw [List.getD_eq_getElem?_getD, List.getElem?_eq_none (by omega)] at this
      cases this
/-- The acknowledgements that are due. -/
theorem acks_step {a : AccS} {l : List UInt8} {s : List Bool} {is : List InS} (now : Int) (h : WRel a l s is) : WRel a l s (acksI is now) ∧ ((acksO is now) = [] ∨ ∃ ttl, acksO is now = [ackP a s ttl]) := by
  rcases h with ⟨hs, rfl⟩ | ⟨due, rfl⟩
  · exact ⟨.inl ⟨hs, rfl⟩, .inl rfl⟩
  · have he : ackO (inW a l s due) = ackP a s (if a.ttl = 0 then 0 else 127) := by
      unfold inW inB ackO ackP
      split <;> rfl
    constructor
    · refine .inr ?_
      show ∃ due', [ackI now (inW a l s due)] = _
      unfold ackI
      split
      · refine ⟨0, ?_⟩
        unfold inW inB
        split <;> rfl
      · exact ⟨due, rfl⟩
    · unfold acksO
      by_cases hd : dueB now (inW a l s due) = true
      · refine .inr ⟨if a.ttl = 0 then 0 else 127, ?_⟩
        rw [List.filter_cons, if_pos hd]
        show [ackO (inW a l s due)] = _
        rw [he]
      · refine .inl ?_
        rw [List.filter_cons, if_neg hd]
        rfl
theorem acks_due {a : AccS} {l : List UInt8} {s : List Bool} {now : Int} (hn : 1 ≤ now) : (acksO [inW a l s (max now 1)] now).length = 1 := by
  have hd : dueB now (inW a l s (max now 1)) = true := by
    have h1 : (inW a l s (max now 1)).due = max now 1 := by
      unfold inW inB
      split <;> rfl
    unfold dueB
    rw [h1, decide_eq_true (by omega), decide_eq_true (by omega)]
    rfl
  unfold acksO
  rw [List.filter_cons, if_pos hd]
  rfl
/-- An acknowledgement comes. -/
theorem chk_ack (a : AccS) (b : Nat) : chkL ⟨true, false, false, ((a.seq % 8192 : Nat) : Int), 0, 0, 0, b, false⟩ 0 = 0 := by
  have hz : ((a.seq % 8192 : Nat) : Int) ≤ 8191 := by omega
  have hz0 : 0 ≤ ((a.seq % 8192 : Nat) : Int) := by omega
  generalize ((a.seq % 8192 : Nat) : Int) = z at *
  have hr : restP ⟨true, false, false, z, 0, 0, 0, b, false⟩ 0 = true := rfl
  unfold chkL
  rw [hr]
  unfold chkB
  dsimp only
  rw [if_neg (by simp), if_neg (by simp), if_neg (by omega), if_neg (by simp), if_neg (by simp)]
theorem acked_step {a : AccS} {l : List UInt8} {s : List Bool} {os : List OutS} (ttl : Int) (h : ORel a l s os) (hl : s.length = cntP l) (hn : isNode a.dst = true) :
    ORel a l s (ackedT os a.dst (ackP a s ttl).1.low 0).1 ∧ ((ackedT os a.dst (ackP a s ttl).1.low 0).2 = true → s.all id = true) ∧ (s.all id = true → (ackedT os a.dst (ackP a s ttl).1.low 0).1 = []) := by
  have hg : ¬ (isA (ackP a s ttl).1.low = false ∨ chkL (ackP a s ttl).1.low 0 ≠ 0) := by
    rintro (h | h)
    · cases h
    · exact h (chk_ack a (blkOf s))
  rcases h with rfl | ⟨A, d, t, rfl, h2, h3⟩
  · rw [ackedT_none rfl]
    exact ⟨.inl rfl, fun h => Bool.noConfusion h, fun _ => rfl⟩
  · have hf : [outK a l A d t].findIdx? (fitB a.dst (ackP a s ttl).1.low) = some 0 := by
      rw [List.findIdx?_cons, if_pos]
      unfold fitB
      show (isNode a.dst && decide (((a.seq % 8192 : Nat) : Int) = ((a.seq % 8192 : Nat) : Int)) && (decide (a.dst = a.dst) || false)) = true
      rw [hn]
      simp
    have hc : (outK a l A d t).parts.length = s.length := by
      show (chunks l (cntP l)).length = _
      rw [chunks_len, hl]
    have hk : ackedN (ackP a s ttl).1.low (outK a l A d t) = A ||| (blkOf s &&& full s.length) := by
      unfold ackedN
      rw [hc]
      rfl
    by_cases he : A ||| (blkOf s &&& full s.length) = full s.length
    · rw [ackedT_yes hg hf rfl (by rw [hk, hc]; exact he)]
      exact ⟨.inl rfl, fun _ => h2.ack.all he, fun _ => rfl⟩
    · rw [ackedT_part hg hf rfl (by rw [hk, hc]; exact he)]
      exact ⟨.inr ⟨_, d, t, by rw [hk]; rfl, h2.ack, h3⟩, fun h => Bool.noConfusion h, fun ha => absurd (ack_all h2 ha) he⟩
/-- What is sent again. -/
theorem way_part {a : AccS} {l : List UInt8} {A : Nat} {d t : Int} {k : Nat} (hk : k < cntP l) : partW (outK a l A d t) k = wayE a l k := by
  unfold partW wayE
  refine Prod.ext rfl ?_
  show (chunks l (cntP l)).getD k [] = _
  rw [List.getD_eq_getElem?_getD, chunks_at hk]
  rfl
theorem again_step {a : AccS} {l : List UInt8} {s : List Bool} {os : List OutS} (now : Int) (h : ORel a l s os) (hl : s.length = cntP l) (hc : cntP l ≤ 32) (hn : isNode a.dst = true) :
    ORel a l s (againO os now) ∧ WayR a l (againA os now) ∧ (os = [] → againO os now = []) := by
  rcases h with rfl | ⟨A, d, t, rfl, h2, h3⟩
  · exact ⟨.inl rfl, ⟨by simp [againA], fun p hp => by simp [againA] at hp⟩, fun _ => rfl⟩
  · have ho : againO [outK a l A d t] now = agO now (outK a l A d t) := by simp [againO]
    have ha : againA [outK a l A d t] now = agA now (outK a l A d t) := by simp [againA]
    have hm : mostT (outK a l A d t) = 6 := by unfold mostT; exact if_pos hn
    rw [ho, ha]
    unfold agO agA
    rw [hm]
    by_cases h4 : now < d
    · rw [if_pos (show now < (outK a l A d t).due from h4), if_pos (show now < (outK a l A d t).due from h4)]
      exact ⟨.inr ⟨A, d, t, rfl, h2, h3⟩, ⟨by simp, fun p hp => by simp at hp⟩, fun h => by simp at h⟩
    · rw [if_neg (show ¬ now < (outK a l A d t).due from h4), if_neg (show ¬ now < (outK a l A d t).due from h4)]
      by_cases h5 : t < 6
      · rw [if_pos (show (outK a l A d t).tries < 6 from h5), if_pos (show (outK a l A d t).tries < 6 from h5)]
        refine ⟨.inr ⟨A, now + 20, t + 1, rfl, h2, by omega, by omega⟩, ⟨?_, fun p hp => ?_⟩, fun h => by simp at h⟩
        · have := segsW_len (outK a l A d t) (outK a l A d t).parts.length
          have e : (outK a l A d t).parts.length = cntP l := chunks_len _ _
          omega
        · unfold segsW at hp
          obtain ⟨k, hk, rfl⟩ := List.mem_map.1 hp
          have e : (outK a l A d t).parts.length = cntP l := chunks_len _ _
          have hk' : k < cntP l := by rw [← e]; exact List.mem_range.1 (List.mem_filter.1 hk).1
          exact ⟨k, hk', way_part hk'⟩
      · rw [if_neg (show ¬ (outK a l A d t).tries < 6 from h5), if_neg (show ¬ (outK a l A d t).tries < 6 from h5)]
        exact ⟨.inl rfl, ⟨by simp, fun p hp => by simp at hp⟩, fun h => by simp at h⟩
theorem send_start (a : AccS) (l : List UInt8) : mOut a l 0 = outK a l 0 20 1 := rfl
theorem ORel.wf {a : AccS} {l : List UInt8} {s : List Bool} {os : List OutS} (h : ORel a l s os) (hl : s.length = cntP l) (hc : cntP l ≤ 32) (hq : a.seq < 4294967296) : os.length ≤ 1 ∧ Sized (os.map OutS.parts) ∧ ∀ o ∈ os, WfO o := by
  rcases h with rfl | ⟨A, d, t, rfl, h2, h3, h4⟩
  · exact ⟨by simp, ⟨by simp, fun _ h => by simp at h⟩, fun _ h => by simp at h⟩
  · have hp : ∀ p ∈ chunks l (cntP l), p.length ≤ 65536 := by
      intro p hp
      unfold chunks at hp
      obtain ⟨k, _, rfl⟩ := List.mem_map.1 hp
      have := chunk_le l k
      omega
    have hlen : (chunks l (cntP l)).length = cntP l := chunks_len _ _
    refine ⟨by simp, ⟨by simp, fun ps hps => ?_⟩, fun o ho => ?_⟩
    · simp only [List.map_cons, List.map_nil, List.mem_singleton] at hps
      subst hps
      exact ⟨by show (chunks l (cntP l)).length ≤ 65536; omega, hp⟩
    · simp only [List.mem_singleton] at ho
      subst ho
      refine ⟨?_, by show (chunks l (cntP l)).length ≤ 32; omega, hp, h3, by show t ≤ 65536; omega, hq⟩
      show A < 4294967296
      have h5 := h2.lt
      have h6 : 2 ^ s.length ≤ 2 ^ 32 := Nat.pow_le_pow_right (by omega) (by omega)
      have h7 : 2 ^ 32 = 4294967296 := by decide
      omega

theorem refuse_node {os : List OutS} {a : AccS} {n : Nat} (h : refuseN os a n = 0) (hd : a.dst < 32768) : isNode a.dst = true := by
  unfold refuseN at h
  split at h
  · omega
  · rename_i hb
    unfold badHead at hb
    cases hn : isNode a.dst with
    | true => rfl
    | false =>
      have hg : isGroup a.dst = false := by unfold isGroup; exact decide_eq_false (by omega)
      rw [hn, hg] at hb
      simp at hb
/-- The segments on their way at first. -/
def wayL (a : AccS) (l : List UInt8) (n : Nat) : List Outw := (List.range n).map (wayE a l)
theorem wayL_len (a : AccS) (l : List UInt8) (n : Nat) : (wayL a l n).length = n := by simp [wayL]
theorem wayL_succ (a : AccS) (l : List UInt8) (n : Nat) : wayL a l (n + 1) = wayL a l n ++ [wayE a l n] := by simp [wayL, List.range_succ]
theorem wayL_at {a : AccS} {l : List UInt8} {n k : Nat} (h : k < n) : (wayL a l n)[k]? = some (wayE a l k) := by simp [wayL, h]
theorem wayE_inj {a : AccS} {l : List UInt8} {k j : Nat} (h : wayE a l k = wayE a l j) : k = j := by
  have h1 : (wayE a l k).1.low.idx = (wayE a l j).1.low.idx := by rw [h]
  have h2 : (k : Int) = (j : Int) := h1
  omega
/-- How often the message was delivered. -/
def dlv (s : List Bool) : Nat := if s.all id = true then 1 else 0
theorem dlv_step {s : List Bool} {k : Nat} {got : List Msg} {m : Msg} (h : got = if s.all id = false ∧ (s.set k true).all id = true then [m] else []) (hk : k < s.length) : dlv s + got.length = dlv (s.set k true) := by
  unfold dlv
  by_cases h1 : s.all id = true
  · have h2 : s.set k true = s := set_seen (all_seen h1 hk)
    rw [h, h2, if_pos h1, if_neg (by rw [h1]; simp)]
    rfl
  · have h1' : s.all id = false := by simpa using h1
    rw [if_neg h1]
    by_cases h3 : (s.set k true).all id = true
    · rw [h, if_pos h3, if_pos ⟨h1', h3⟩]
      rfl
    · rw [h, if_neg h3, if_neg (fun h => h3 h.2)]
      rfl
theorem dlv_le (s : List Bool) : dlv s ≤ 1 := by
  unfold dlv
  split <;> omega
theorem repl_set {j C : Nat} (h : j < C) : (List.replicate j true ++ List.replicate (C - j) false).set j true = List.replicate (j + 1) true ++ List.replicate (C - (j + 1)) false := by
  rw [List.set_append_right _ _ (by simp)]
  rw [List.length_replicate, Nat.sub_self, show C - j = (C - (j + 1)) + 1 by omega, List.replicate_succ, List.set_cons_zero, List.replicate_succ', List.append_assoc]
  rfl
theorem repl_all (C : Nat) : (List.replicate C true ++ List.replicate (C - C) false).all id = true := by
  rw [Nat.sub_self]
  simp
theorem lows_at2 {w : World} {b0 B : Nat} {v : Value} {ps : List (Low × List UInt8)} (h : LowsV2 w b0 B v ps) {i : Nat} {a : Low × List UInt8} (hi : ps[i]? = some a) : ∃ (b o c : Nat) (u : Value), v = .slice (some ⟨b, o, none⟩) ps.length c ∧ b < B ∧ (∀ (j : Nat) (y : Value), (lowCs a.1 u)[j]? = some y → w.cell? ⟨b, o + i * 10 + j, none⟩ = some y) ∧ BS2 w b0 B u a.2 := by
  obtain ⟨vs, h1, h2, h3⟩ := h
  have hiv : i < vs.length := by have := (List.getElem?_eq_some_iff.1 hi).1; omega
  have hv := List.getElem?_eq_getElem hiv
  have hp := h3 i a vs[i] hi hv
  have c0 := flat2_at lowF_len ps vs i a vs[i] 0 h1 hi hv (by omega)
  obtain ⟨A, c, rfl, _⟩ := id h2
  obtain ⟨b, o, rfl, hB, hc⟩ := h2.weak.cells c0
  refine ⟨b, o, c, vs[i], rfl, hB, fun j y hy => ?_, hp⟩
  have hj : j < 10 := (List.getElem?_eq_some_iff.1 hy).1
  have cj := flat2_at lowF_len ps vs i a vs[i] j h1 hi hv hj
  rw [Nat.add_assoc]
  exact hc _ _ (cj.trans hy)
/-- The row of segments on their way, in the making. -/
structure WSt (a : AccS) (l : List UInt8) (W3 wr : World) (b0 tb B : Nat) (v : Value) (j : Nat) (vs : List Value) : Prop where
  len : vs.length = j
  row : wr.ownsRow B 65 13 v j (flat2 owF (wayL a l j) vs)
  bs : ∀ (k : Nat) (u : Value), vs[k]? = some u → BS2 W3 b0 tb u (chunk l k)
  be : Below B W3 wr
theorem WSt.snoc {a : AccS} {l : List UInt8} {W3 wr w9 : World} {b0 tb B j : Nat} {v v9 u : Value} {vs : List Value} (h : WSt a l W3 wr b0 tb B v j vs) (hB : B ≤ wr.heap.size) (hu : BS2 W3 b0 tb u (chunk l j)) (h9 : w9.ownsRow B 65 13 v9 (j + 1) (flat2 owF (wayL a l j) vs ++ owF (wayE a l j) u)) (hg : wr.grownBy w9 v.ownBlock) : WSt a l W3 w9 b0 tb B v9 (j + 1) (vs ++ [u]) := by
  refine ⟨by simp [h.len], ?_, fun k x hx => ?_, below_app h.be h.row hg (Nat.le_refl _) hB⟩
  · rw [wayL_succ, flat2_append _ _ _ _ (by rw [h.len, wayL_len]), flat2_one]
    exact h9
  · by_cases hk : k < vs.length
    · rw [List.getElem?_append_left hk] at hx
      exact h.bs k x hx
    · have hke : k = vs.length := by
        have := (List.getElem?_eq_some_iff.1 hx).1
        simp at this
        omega
      subst hke
      rw [List.getElem?_append_right (Nat.le_refl _), Nat.sub_self] at hx
      simp only [List.getElem?_cons_zero, Option.some.injEq] at hx
      subst hx
      rw [h.len]
      exact hu
/-- The whole row, readable, away from the two boxes. -/
theorem WSt.away {a : AccS} {l : List UInt8} {W3 wr w' : World} {b0 tb ub B j : Nat} {v : Value} {vs : List Value} (h : WSt a l W3 wr b0 tb B v j vs) (hb : Below wr.heap.size wr w') (h0 : tb < B) (h1 : wr.heap.size = ub) (h2 : B ≤ wr.heap.size) : ManyP owF 13 (fun p => p.2) w' (Av tb ub w') v (wayL a l j) := by
  refine ⟨vs, by rw [h.len, wayL_len], ?_, fun k p u hp hu => ?_⟩
  · rw [wayL_len]
    have h3 : Sl2 wr B wr.heap.size 13 v j (flat2 owF (wayL a l j) vs) := Sl2.of_own h.row
    refine (h3.below hb).toP fun b h4 h5 => ⟨by omega, by omega, Nat.lt_of_lt_of_le h5 hb.size⟩
  · have hk : k < j := by
      have := (List.getElem?_eq_some_iff.1 hp).1
      rwa [wayL_len] at this
    rw [wayL_at hk] at hp
    simp only [Option.some.injEq] at hp
    subst hp
    have h3 := h.bs k u hu
    have h4 : BS2 w' b0 tb u (chunk l k) := h3.keep fun b o _ hlt => (hb.cell (p := ⟨b, o, none⟩) (show b < wr.heap.size by omega)).trans (h.be.cell (p := ⟨b, o, none⟩) (show b < B by omega))
    have h5 := hb.size
    exact h4.toP fun b _ h6 => ⟨by omega, by omega, by omega⟩
/-- Without losses: nothing is left to be sent, or the first segments have come. -/
def Fin3 (a : AccS) (l : List UInt8) (C : Nat) (now : Int) (way : List Outw) (ab : Bool) (os : List OutS) (s : List Bool) (is : List InS) (j : Nat) : Prop :=
  ab = true ∨ (os = [] ∧ s.all id = true) ∨ (way = wayL a l C ∧ s = List.replicate j true ++ List.replicate (C - j) false ∧ (j = C → is = [inW a l s (max now 1)]))
theorem Fin3.lost {a : AccS} {l : List UInt8} {C : Nat} {now : Int} {way : List Outw} {ab : Bool} {os : List OutS} {s : List Bool} {is : List InS} {j : Nat} : Fin3 a l C now way (ab || true) os s is j := .inl (by simp)
theorem Fin3.step {a : AccS} {l : List UInt8} {C : Nat} {now : Int} {way : List Outw} {ab : Bool} {os : List OutS} {s : List Bool} {is is2 : List InS} {j k : Nat} {due : Int} (h : Fin3 a l C now way ab os s is j) (_ : s.length = C) (hw : way[j]? = some (wayE a l k)) (hk : k < s.length) (hi : is2 = [inW a l (s.set k true) due]) (hd : (s.set k true).all id = true → due = max now 1) : Fin3 a l C now way (ab || false) os (s.set k true) is2 (j + 1) := by
  rcases h with h | ⟨h1, h2⟩ | ⟨h1, h2, h3⟩
  · exact .inl (by rw [h]; rfl)
  · exact .inr (.inl ⟨h1, by rw [set_seen (all_seen h2 hk)]; exact h2⟩)
  · subst h1
    have hj : j < C := by
      have := (List.getElem?_eq_some_iff.1 hw).1
      rwa [wayL_len] at this
    rw [wayL_at hj] at hw
    simp only [Option.some.injEq] at hw
    have hkj := wayE_inj hw
    subst hkj
    have h4 : s.set j true = List.replicate (j + 1) true ++ List.replicate (C - (j + 1)) false := by rw [h2]; exact repl_set hj
    refine .inr (.inr ⟨rfl, h4, fun hjc => ?_⟩)
    have h5 : (s.set j true).all id = true := by rw [h4, hjc]; exact repl_all C
    rw [hi, hd h5]
def Fin4 (ab : Bool) (os : List OutS) (s : List Bool) (ak : List Outw) (j : Nat) : Prop :=
  ab = true ∨ (os = [] ∧ s.all id = true) ∨ (j = 0 ∧ s.all id = true ∧ ak.length = 1)
theorem Fin3.acks {a : AccS} {l : List UInt8} {C : Nat} {now : Int} {way : List Outw} {ab : Bool} {os : List OutS} {s : List Bool} {is : List InS} (h : Fin3 a l C now way ab os s is way.length) (hn : 1 ≤ now) : Fin4 ab os s (acksO is now) 0 := by
  rcases h with h | h | ⟨h1, h2, h3⟩
  · exact .inl h
  · exact .inr (.inl h)
  · have hC : way.length = C := by rw [h1, wayL_len]
    have h5 : s.all id = true := by rw [h2, hC]; exact repl_all C
    exact .inr (.inr ⟨rfl, h5, by rw [h3 hC]; exact acks_due hn⟩)
theorem Fin4.lost {ab : Bool} {os : List OutS} {s : List Bool} {ak : List Outw} {j : Nat} : Fin4 (ab || true) os s ak j := .inl (by simp)
theorem Fin4.step {ab : Bool} {os os2 : List OutS} {s : List Bool} {ak : List Outw} {j : Nat} (h : Fin4 ab os s ak j) (h2 : s.all id = true → os2 = []) : Fin4 (ab || false) os2 s ak (j + 1) := by
  rcases h with h | ⟨_, h1⟩ | ⟨_, h1, _⟩
  · exact .inl (by rw [h]; rfl)
  · exact .inr (.inl ⟨h2 h1, h1⟩)
  · exact .inr (.inl ⟨h2 h1, h1⟩)
theorem Fin4.done {ab : Bool} {os : List OutS} {s : List Bool} {ak : List Outw} {j : Nat} (h : Fin4 ab os s ak j) (hj : j = ak.length) : ab = true ∨ (os = [] ∧ s.all id = true) := by
  rcases h with h | h | ⟨h1, _, h3⟩
  · exact .inl h
  · exact .inr h
  · omega
theorem wf_acks {is : List InS} (h : WfIs is) (now : Int) : WfIs (acksI is now) := by
  refine ⟨by unfold acksI; rw [List.length_map]; exact h.1, fun x hx => ?_⟩
  obtain ⟨y, hy, rfl⟩ := List.mem_map.1 hx
  have hw := h.2 y hy
  unfold ackI
  split
  · exact hw
  · exact hw
theorem blk_small {s : List Bool} {C : Nat} (hs : s.length = C) (hC : C ≤ 32) : blkOf s < 4294967296 := by
  have h := blkOf_lt s
  have h6 : 2 ^ s.length ≤ 2 ^ 32 := Nat.pow_le_pow_right (by omega) (by omega)
  have h7 : 2 ^ 32 = 4294967296 := by decide
  omega
/-- Is a number lost? -/
def lostAt (lo : List Bool) (n : Nat) : Bool := lo.getD n false

set_option maxRecDepth 100000 in
set_option maxHeartbeats 8000000 in
theorem ack_early (a : AccS) (l : List UInt8) (lo : List Bool) (hl : l.length ≤ 9223372036854775807) (hs : a.seq < 4294967296) (bv lv : Value) (w : World) (hb : BS w w.heap.size bv l) (hlo : Sl w w.heap.size 1 lv lo.length (lo.map fun b => .bool b)) (hearly : l.length ≤ 15 ∨ 300 < lo.length ∨ 32768 ≤ a.dst ∨ ¬ a.ssrc = a.src ∨ ¬ refuseN [] a l.length = 0) : Calls Try.prog 9 #[accV a bv, lv] w fun e w' => e = .returned (.bool true) ∧ Below w.heap.size w w' := by
  obtain ⟨A, c, rfl, hnc, hcm, _⟩ := id hb
  obtain ⟨Ao, co, rfl, hnco, hcmo, _⟩ := id hlo
  have HB := Lib.hid hb
  have HO := Lib.hid hlo
  have HL := Lib.hid hl
  have hl63 : l.length < 9223372036854775808 := by omega
  obtain ⟨src, dst, app, ttl, ssrc, iv, seq⟩ := a
  dsimp only at hs
  clear hb hlo hl
  dsimp only at hearly
  by_cases h15 : l.length ≤ 15
  · have q1 : decide ((l.length : Int) ≤ 15) = true := decide_eq_true (by omega)
    go_enter Try.func9, Try.ntmps9
    go_wp2_with fail
    refine (lives_any _).mono ?_
    rintro e w4 ⟨rfl, hb4⟩
    have HA4 := Lib.hid (one hb4)
    clear hb4
    go_wp2
    go_ret
    exact ⟨rfl, HA4.out⟩
  by_cases h200 : 300 < lo.length
  · have q1 : decide ((l.length : Int) ≤ 15) = false := decide_eq_false (by omega)
    have q2 : decide (300 < (lo.length : Int)) = true := decide_eq_true (by omega)
    go_enter Try.func9, Try.ntmps9
    go_wp2_with fail
    refine (lives_any _).mono ?_
    rintro e w4 ⟨rfl, hb4⟩
    have HA4 := Lib.hid (one hb4)
    clear hb4
    go_wp2
    go_ret
    exact ⟨rfl, HA4.out⟩
  by_cases hdd : 32768 ≤ dst
  · have q1 : decide ((l.length : Int) ≤ 15) = false := decide_eq_false (by omega)
    have q2 : decide (300 < (lo.length : Int)) = false := decide_eq_false (by omega)
    have q2' : decide (32768 ≤ (dst : Int)) = true := decide_eq_true (by omega)
    go_enter Try.func9, Try.ntmps9
    go_wp2_with fail
    refine (lives_any _).mono ?_
    rintro e w4 ⟨rfl, hb4⟩
    have HA4 := Lib.hid (one hb4)
    clear hb4
    go_wp2
    go_ret
    exact ⟨rfl, HA4.out⟩
  by_cases hss : ssrc = src
  case neg =>
    have q1 : decide ((l.length : Int) ≤ 15) = false := decide_eq_false (by omega)
    have q2 : decide (300 < (lo.length : Int)) = false := decide_eq_false (by omega)
    have q2' : decide (32768 ≤ (dst : Int)) = false := decide_eq_false (by omega)
    have q3 : ((ssrc : Int) != (src : Int)) = true := ne_bool fun h => hss (by omega)
    go_enter Try.func9, Try.ntmps9
    go_wp2_with fail
    refine (lives_any _).mono ?_
    rintro e w4 ⟨rfl, hb4⟩
    have HA4 := Lib.hid (one hb4)
    clear hb4
    go_wp2
    go_ret
    exact ⟨rfl, HA4.out⟩
  have hss' := hss.symm
  subst hss'
  clear hss
  have q1 : decide ((l.length : Int) ≤ 15) = false := decide_eq_false (by omega)
  have q2 : decide (300 < (lo.length : Int)) = false := decide_eq_false (by omega)
  have q2' : decide (32768 ≤ (dst : Int)) = false := decide_eq_false (by omega)
  have q3 : ((src : Int) != (src : Int)) = false := by simp
  have CS := Lib.hid (fun (W : World) (hW : Below w.heap.size w W) => send_all [] [] ⟨src, dst, app, ttl, src, iv, seq⟩ l 0 HL.out hs (by omega) (by omega) (.slice none 0 0) (.slice none 0 0) (.slice A l.length c) W (RowV.nil _ _) (RowV.nil _ _) (HB.out.on hW) ⟨by simp, fun _ h => by simp at h⟩ ⟨by simp, fun _ h => by simp at h⟩)
  have hrf : ¬ refuseN [] ⟨src, dst, app, ttl, src, iv, seq⟩ l.length = 0 := by
    rcases hearly with h | h | h | h | h
    · exact absurd h h15
    · exact absurd h h200
    · exact absurd h hdd
    · exact absurd rfl h
    · exact h
  clear hearly
  have hsl : sendL [] ⟨src, dst, app, ttl, src, iv, seq⟩ l 0 = [] := if_pos hrf
  have hso : sendO [] ⟨src, dst, app, ttl, src, iv, seq⟩ l 0 = [] := if_neg fun h => hrf h.1
  unfold SendPost at CS
  rw [hsl, hso] at CS
  generalize refuseN [] ⟨src, dst, app, ttl, src, iv, seq⟩ l.length = rf at *
  have q4 : (rf != 0) = true := ne_bool hrf
  clear hsl hso
  go_enter Try.func9, Try.ntmps9
  go_upto_region 3 with fail
  have hbx := Box.new w #[.int .u16 (src : Int), .int .u16 (dst : Int), .bool app, .int .i64 ttl, .int .u16 (src : Int), .int .u32 (iv : Int), .int .u32 (seq : Int), .slice A l.length c] 43
  have HA := Lib.hid (al1 w (.cells #[.int .u16 (src : Int), .int .u16 (dst : Int), .bool app, .int .i64 ttl, .int .u16 (src : Int), .int .u32 (iv : Int), .int .u32 (seq : Int), .slice A l.length c] 43))
  generalize w.alloc (.cells #[.int .u16 (src : Int), .int .u16 (dst : Int), .bool app, .int .i64 ttl, .int .u16 (src : Int), .int .u32 (iv : Int), .int .u32 (seq : Int), .slice A l.length c] 43) = W1 at *
  have a0 := hbx.cell (j := 0) rfl
  have a1 := hbx.cell (j := 1) rfl
  have a2 := hbx.cell (j := 2) rfl
  have a3 := hbx.cell (j := 3) rfl
  have a4 := hbx.cell (j := 4) rfl
  have a5 := hbx.cell (j := 5) rfl
  have a6 := hbx.cell (j := 6) rfl
  have a7 := hbx.cell (j := 7) rfl
  have HBX := Lib.hid hbx
  clear hbx
  go_wp2_with fail
  refine (CS.out _ HA.out).mono ?_
  rintro e w2 ⟨hb2, v, u, x, rfl, hO, hI, hL⟩
  obtain ⟨A2, c2, rfl⟩ := rowV_form hO.weak
  obtain ⟨A3, c3, rfl⟩ := rowV_form hI.weak
  obtain ⟨A4, c4, rfl⟩ := hL.form
  have HA2 := Lib.hid (bthen HA.out hb2)
  clear hb2 hO hI hL a0 a1 a2 a3 a4 a5 a6 a7
  go_wp2_with fail
  refine (lives_any _).mono ?_
  rintro e w4 ⟨rfl, hb4⟩
  have HA4 := Lib.hid (bthen (HA2.out.alloc HA2.out.size _) hb4)
  clear hb4
  go_wp2
  go_ret
  exact ⟨rfl, HA4.out⟩

set_option maxRecDepth 100000 in
set_option maxHeartbeats 8000000 in
theorem ack_main (a : AccS) (l : List UInt8) (lo : List Bool) (hl : l.length ≤ 9223372036854775807) (hs : a.seq < 4294967296) (bv lv : Value) (w : World) (hb : BS w w.heap.size bv l) (hlo : Sl w w.heap.size 1 lv lo.length (lo.map fun b => .bool b)) (h15 : ¬ l.length ≤ 15) (h200 : ¬ 300 < lo.length) (hdd : ¬ 32768 ≤ a.dst) (hss : a.ssrc = a.src) (hrf : refuseN [] a l.length = 0) : Calls Try.prog 9 #[accV a bv, lv] w fun e w' => e = .returned (.bool true) ∧ Below w.heap.size w w' := by
  obtain ⟨A, c, rfl, hnc, hcm, _⟩ := id hb
  obtain ⟨Ao, co, rfl, hnco, hcmo, _⟩ := id hlo
  have HB := Lib.hid hb
  have HO := Lib.hid hlo
  have HL := Lib.hid hl
  have hl63 : l.length < 9223372036854775808 := by omega
  obtain ⟨src, dst, app, ttl, ssrc, iv, seq⟩ := a
  dsimp only at hs
  clear hb hlo hl
  dsimp only at hdd hss hrf
  have hss' := hss.symm
  subst hss'
  clear hss
  have q1 : decide ((l.length : Int) ≤ 15) = false := decide_eq_false (by omega)
  have q2 : decide (300 < (lo.length : Int)) = false := decide_eq_false (by omega)
  have q2' : decide (32768 ≤ (dst : Int)) = false := decide_eq_false (by omega)
  have q3 : ((src : Int) != (src : Int)) = false := by simp
  have CS := Lib.hid (fun (W : World) (hW : Below w.heap.size w W) => send_all [] [] ⟨src, dst, app, ttl, src, iv, seq⟩ l 0 HL.out hs (by omega) (by omega) (.slice none 0 0) (.slice none 0 0) (.slice A l.length c) W (RowV.nil _ _) (RowV.nil _ _) (HB.out.on hW) ⟨by simp, fun _ h => by simp at h⟩ ⟨by simp, fun _ h => by simp at h⟩)
  obtain ⟨hn384, hsq⟩ := refuse_ok hrf
  have hnode : isNode dst = true := refuse_node hrf (by show dst < 32768; omega)
  have hsl : sendL [] ⟨src, dst, app, ttl, src, iv, seq⟩ l 0 = segs ⟨src, dst, app, ttl, src, iv, seq⟩ l 0 (cntP l) := by unfold sendL; rw [if_neg (by simpa using hrf), if_neg h15]
  have hso : sendO [] ⟨src, dst, app, ttl, src, iv, seq⟩ l 0 = [outK ⟨src, dst, app, ttl, src, iv, seq⟩ l 0 20 1] := by unfold sendO; rw [if_pos ⟨hrf, by omega⟩]; rfl
  have HCK := Lib.hid (fun k (hk : k < cntP l) => chk_part (a := ⟨src, dst, app, ttl, src, iv, seq⟩) (l := l) (k := k) (by omega) hn384 hk)
  have hC : cntP l = (l.length + 11) / 12 := rfl
  have hcn : cntN (l.length : Int) = ((cntP l : Nat) : Int) := by unfold cntN; rw [if_neg (by omega), if_neg (by omega), hC]; omega
  have hseq2 : seq ≤ 16777215 := by rw [hcn] at hsq; dsimp only at hsq; omega
  have hC0 : 1 ≤ cntP l := by omega
  have hC1 : cntP l ≤ 32 := by omega
  unfold SendPost at CS
  rw [hsl, hrf, hso] at CS
  have HSEG := Lib.hid (fun k (hk : k < cntP l) => segs_at (a := ⟨src, dst, app, ttl, src, iv, seq⟩) (l := l) (now := 0) hk)
  have hsgl : (segs ⟨src, dst, app, ttl, src, iv, seq⟩ l 0 (cntP l)).length = cntP l := segs_len _ _ _ _
  have HND := Lib.hid hnode
  have HSG := Lib.hid hsgl
  obtain ⟨C, hCC⟩ : ∃ C, C = cntP l := ⟨_, rfl⟩
  clear hC hsl hso hrf hsq hcn hnode hsgl
  rw [← hCC] at hC0 hC1
  have HC := Lib.hid hCC
  clear hCC
  have q4 : (((0 : Int)) != 0) = false := by simp
  go_enter Try.func9, Try.ntmps9
  go_upto_region 3 with fail
  have hbx := Box.new w #[.int .u16 (src : Int), .int .u16 (dst : Int), .bool app, .int .i64 ttl, .int .u16 (src : Int), .int .u32 (iv : Int), .int .u32 (seq : Int), .slice A l.length c] 43
  have HA := Lib.hid (al1 w (.cells #[.int .u16 (src : Int), .int .u16 (dst : Int), .bool app, .int .i64 ttl, .int .u16 (src : Int), .int .u32 (iv : Int), .int .u32 (seq : Int), .slice A l.length c] 43))
  generalize w.alloc (.cells #[.int .u16 (src : Int), .int .u16 (dst : Int), .bool app, .int .i64 ttl, .int .u16 (src : Int), .int .u32 (iv : Int), .int .u32 (seq : Int), .slice A l.length c] 43) = W1 at *
  have a0 := hbx.cell (j := 0) rfl
  have a1 := hbx.cell (j := 1) rfl
  have a2 := hbx.cell (j := 2) rfl
  have a3 := hbx.cell (j := 3) rfl
  have a4 := hbx.cell (j := 4) rfl
  have a5 := hbx.cell (j := 5) rfl
  have a6 := hbx.cell (j := 6) rfl
  have a7 := hbx.cell (j := 7) rfl
  have HBX := Lib.hid hbx
  clear hbx
  go_wp2_with fail
  refine (CS.out _ HA.out).mono ?_
  rintro e w2 ⟨hb2, v, u, x, rfl, hO, hI, hL⟩
  obtain ⟨A2, c2, rfl⟩ := rowV_form hO.weak
  obtain ⟨A3, c3, rfl⟩ := rowV_form hI.weak
  obtain ⟨A4, c4, rfl⟩ := hL.form
  rw [HSG.out, ← HC.out]
  rw [HSG.out, ← HC.out] at hL
  have HA2 := Lib.hid (bthen HA.out hb2)
  have HX2 := Lib.hid (HBX.out.on hb2)
  have HL2 := Lib.hid hL
  have HO2 := Lib.hid hO
  have HI2 := Lib.hid hI
  have HZ1 := Lib.hid (show w.heap.size < W1.heap.size from HBX.out.lt)
  have HZ2 := Lib.hid (show W1.heap.size ≤ w2.heap.size from hb2.size)
  clear hb2 hO hI hL a0 a1 a2 a3 a4 a5 a6 a7 HBX CS
  have za := HX2.out.lt
  go_wp2_with fail
  obtain ⟨W3, hW3⟩ : ∃ W3, W3 = w2.alloc (.cells #[.slice A2 1 c2, .slice A3 0 c3] 47) := ⟨_, rfl⟩
  have HA3 := Lib.hid (show Below w.heap.size w W3 by rw [hW3]; exact HA2.out.alloc HA2.out.size _)
  have HX3 := Lib.hid (show Box W3 w.heap.size (accCs ⟨src, dst, app, ttl, src, iv, seq⟩ (.slice A l.length c)) by rw [hW3]; exact HX2.out.alloc _)
  have HT3 := Lib.hid (show Box W3 w2.heap.size [.slice A2 1 c2, .slice A3 0 c3] by rw [hW3]; exact Box.new _ _ _)
  have HL3 := Lib.hid (show LowsV2 W3 W1.heap.size w2.heap.size (.slice A4 C c4) (segs ⟨src, dst, app, ttl, src, iv, seq⟩ l 0 (cntP l)) by rw [hW3, ← HC.out]; exact HL2.out.below (al1 _ _))
  have HO3 := Lib.hid (show RowV2 outCs 10 OutS.parts W3 W1.heap.size w2.heap.size (.slice A2 1 c2) [outK ⟨src, dst, app, ttl, src, iv, seq⟩ l 0 20 1] by rw [hW3]; exact HO2.out.below (al1 _ _))
  have HI3 := Lib.hid (show RowV2 inCs 11 InS.parts W3 W1.heap.size w2.heap.size (.slice A3 0 c3) [] by rw [hW3]; exact HI2.out.below (al1 _ _))
  have HZ3 := Lib.hid (show W3.heap.size = w2.heap.size + 1 by rw [hW3]; simp)
  rw [← hW3]
  clear hW3 HA2 HX2 HL2 HO2 HI2 za
  generalize w2.heap.size = tb at *
  go_loopw [9, 8] (fun i o wr => ∃ (j : Nat) (vs : List Value), j ≤ C ∧ i = .int .i64 j ∧ WSt ⟨src, dst, app, ttl, src, iv, seq⟩ l W3 wr W1.heap.size tb W3.heap.size o j vs) (fun i _ _ => C - (intOf i).toNat)
  case atStart => exact ⟨0, [], Nat.zero_le _, rfl, rfl, World.ownsRow_nil _ _ _ _, fun _ _ h => by simp at h, Below.refl _ _⟩
  case round =>
    obtain ⟨j, vs, hj, rfl, hS⟩ := hrel
    obtain ⟨A8, c8, rfl⟩ := own_form hS.row
    by_cases hlt : j < C
    · have hjc : j < cntP l := by rw [← HC.out]; exact hlt
      obtain ⟨b4, o4, c4', ul, hf4, hb4, hc4, hs4⟩ := lows_at2 HL3.out (HSEG.out j hjc)
      rw [HSG.out, ← HC.out] at hf4
      injection hf4 with hf41 _ hf43
      subst hf41 hf43
      obtain ⟨Al, cl, rfl, _⟩ := id hs4
      have hcl : (chunk l j).length ≤ 12 := chunk_le l j
      have HBS := Lib.hid hs4
      have hbel := hS.be
      have keep : ∀ (b o : Nat) (y : Value), b < W3.heap.size → W3.cell? ⟨b, o, none⟩ = some y → wr.cell? ⟨b, o, none⟩ = some y := fun b o y hb hy => (hbel.cell (p := ⟨b, o, none⟩) hb).trans hy
      have hab : w.heap.size < tb := Nat.lt_of_lt_of_le HZ1.out HZ2.out
      have htw : tb < W3.heap.size := by rw [HZ3.out]; omega
      have hww : W3.heap.size ≤ wr.heap.size := hbel.size
      have a0 : wr.cell? ⟨w.heap.size, 0, none⟩ = some (.int .u16 (src : Int)) := keep _ _ _ (by omega) (HX3.out.cell (j := 0) rfl)
      have a1 : wr.cell? ⟨w.heap.size, 1, none⟩ = some (.int .u16 (dst : Int)) := keep _ _ _ (by omega) (HX3.out.cell (j := 1) rfl)
      have a3 : wr.cell? ⟨w.heap.size, 3, none⟩ = some (.int .i64 ttl) := keep _ _ _ (by omega) (HX3.out.cell (j := 3) rfl)
      have d0 : wr.cell? ⟨b4, o4 + j * 10, none⟩ = some (.bool (segL (mOut ⟨src, dst, app, ttl, src, iv, seq⟩ l 0) j).ctl) := keep _ _ _ (by omega) (hc4 0 _ rfl)
      have d1 : wr.cell? ⟨b4, o4 + j * 10 + 1, none⟩ = some (.bool (segL (mOut ⟨src, dst, app, ttl, src, iv, seq⟩ l 0) j).seg) := keep _ _ _ (by omega) (hc4 1 _ rfl)
      have d2 : wr.cell? ⟨b4, o4 + j * 10 + 2, none⟩ = some (.bool (segL (mOut ⟨src, dst, app, ttl, src, iv, seq⟩ l 0) j).app) := keep _ _ _ (by omega) (hc4 2 _ rfl)
      have d3 : wr.cell? ⟨b4, o4 + j * 10 + 3, none⟩ = some (.int .i64 (segL (mOut ⟨src, dst, app, ttl, src, iv, seq⟩ l 0) j).zero) := keep _ _ _ (by omega) (hc4 3 _ rfl)
      have d4 : wr.cell? ⟨b4, o4 + j * 10 + 4, none⟩ = some (.int .i64 (segL (mOut ⟨src, dst, app, ttl, src, iv, seq⟩ l 0) j).idx) := keep _ _ _ (by omega) (hc4 4 _ rfl)
      have d5 : wr.cell? ⟨b4, o4 + j * 10 + 5, none⟩ = some (.int .i64 (segL (mOut ⟨src, dst, app, ttl, src, iv, seq⟩ l 0) j).last) := keep _ _ _ (by omega) (hc4 5 _ rfl)
      have d6 : wr.cell? ⟨b4, o4 + j * 10 + 6, none⟩ = some (.int .i64 (segL (mOut ⟨src, dst, app, ttl, src, iv, seq⟩ l 0) j).op) := keep _ _ _ (by omega) (hc4 6 _ rfl)
      have d7 : wr.cell? ⟨b4, o4 + j * 10 + 7, none⟩ = some (.int .u32 ((segL (mOut ⟨src, dst, app, ttl, src, iv, seq⟩ l 0) j).blk : Int)) := keep _ _ _ (by omega) (hc4 7 _ rfl)
      have d8 : wr.cell? ⟨b4, o4 + j * 10 + 8, none⟩ = some (.bool (segL (mOut ⟨src, dst, app, ttl, src, iv, seq⟩ l 0) j).fr) := keep _ _ _ (by omega) (hc4 8 _ rfl)
      have d9 : wr.cell? ⟨b4, o4 + j * 10 + 9, none⟩ = some (.slice Al (chunk l j).length cl) := keep _ _ _ (by omega) (hc4 9 _ rfl)
      have HSS := Lib.hid (show segL (mOut ⟨src, dst, app, ttl, src, iv, seq⟩ l 0) j = segL (mOut ⟨src, dst, app, ttl, src, iv, seq⟩ l 5) j from rfl)
      obtain ⟨sp, hsp⟩ : ∃ sp, sp = segL (mOut ⟨src, dst, app, ttl, src, iv, seq⟩ l 0) j := ⟨_, rfl⟩
      rw [← hsp] at d0 d1 d2 d3 d4 d5 d6 d7 d8
      have HSP := Lib.hid hsp
      clear hsp
      obtain ⟨s0, s1, s2, s3, s4, s5, s6, s7, s8⟩ := sp
      dsimp only at d0 d1 d2 d3 d4 d5 d6 d7 d8
      obtain ⟨cn, hcn⟩ : ∃ cn, cn = (chunk l j).length := ⟨_, rfl⟩
      rw [← hcn] at d9 hcl
      have HCN := Lib.hid hcn
      have za : w.heap.size < wr.heap.size := by omega
      have zb : b4 < wr.heap.size := by omega
      have ij : (j : Int) < (C : Int) := by omega
      have i0 : (0 : Int) ≤ (j : Int) := by omega
      have HS := Lib.hid hS
      clear hS hbel keep hc4 hs4 hcn
      go_upto_region 10 with fail
      refine wp_region_noPanic ?_
      refine wp_region_held_drew (S := fun w' => (w'.cell? ⟨w.heap.size, 0, none⟩ = some (.int .u16 (src : Int)) ∧ w'.cell? ⟨w.heap.size, 1, none⟩ = some (.int .u16 (dst : Int)) ∧ w'.cell? ⟨w.heap.size, 3, none⟩ = some (.int .i64 ttl) ∧ w'.cell? ⟨b4, o4 + j * 10, none⟩ = some (.bool s0) ∧ w'.cell? ⟨b4, o4 + j * 10 + 1, none⟩ = some (.bool s1) ∧ w'.cell? ⟨b4, o4 + j * 10 + 2, none⟩ = some (.bool s2) ∧ w'.cell? ⟨b4, o4 + j * 10 + 3, none⟩ = some (.int .i64 s3) ∧ w'.cell? ⟨b4, o4 + j * 10 + 4, none⟩ = some (.int .i64 s4) ∧ w'.cell? ⟨b4, o4 + j * 10 + 5, none⟩ = some (.int .i64 s5) ∧ w'.cell? ⟨b4, o4 + j * 10 + 6, none⟩ = some (.int .i64 s6) ∧ w'.cell? ⟨b4, o4 + j * 10 + 7, none⟩ = some (.int .u32 (s7 : Int)) ∧ w'.cell? ⟨b4, o4 + j * 10 + 8, none⟩ = some (.bool s8) ∧ w'.cell? ⟨b4, o4 + j * 10 + 9, none⟩ = some (.slice Al cn cl)) ∧ w.heap.size < w'.heap.size ∧ b4 < w'.heap.size) (by kernel_rfl) (by (go_keep; try omega)) (fun hHeld => ?_)
      refine wpAnyH_take (i := 0) (v := ?_) rfl (by kernel_rfl) (by kernel_rfl) (by kernel_rfl) (fun _ _ _ h => h) (Or.inl ⟨by rfl, ?_⟩) (by assumption) ?_
      rotate_left
      · intro w hSw
        (try dsimp only at hSw)
        go_simp
        first | done | with_reducible rfl
      simp only [Act.put, List.getElem_toArray, List.getElem_cons_zero, List.setIfInBounds_toArray, List.set_cons_zero, List.set_cons_succ]
      refine wpAnyH_take (i := 1) (v := ?_) rfl (by kernel_rfl) (by kernel_rfl) (by kernel_rfl) (fun _ _ _ h => h) (Or.inl ⟨by rfl, ?_⟩) (by assumption) ?_
      rotate_left
      · intro w hSw
        (try dsimp only at hSw)
        go_simp
        first | done | with_reducible rfl
      simp only [Act.put, List.getElem_toArray, List.getElem_cons_succ, List.getElem_cons_zero, List.setIfInBounds_toArray, List.set_cons_zero, List.set_cons_succ]
      refine wpAnyH_take (i := 2) (v := ?_) rfl (by kernel_rfl) (by kernel_rfl) (by kernel_rfl) (fun _ _ _ h => h) (Or.inl ⟨by rfl, ?_⟩) (by assumption) ?_
      rotate_left
      · intro w hSw
        (try dsimp only at hSw)
        go_simp
        first | done | with_reducible rfl
      simp only [Act.put, List.getElem_toArray, List.getElem_cons_succ, List.getElem_cons_zero, List.setIfInBounds_toArray, List.set_cons_zero, List.set_cons_succ]
      refine wpAnyH_take (i := 3) (v := ?_) rfl (by kernel_rfl) (by kernel_rfl) (by kernel_rfl) (fun _ _ _ h => h) (Or.inl ⟨by rfl, ?_⟩) (by assumption) ?_
      rotate_left
      · intro w hSw
        (try dsimp only at hSw)
        go_simp
        first | done | with_reducible rfl
      simp only [Act.put, List.getElem_toArray, List.getElem_cons_succ, List.getElem_cons_zero, List.setIfInBounds_toArray, List.set_cons_zero, List.set_cons_succ]
      refine wpAnyH_take (i := 4) (v := ?_) rfl (by kernel_rfl) (by kernel_rfl) (by kernel_rfl) (fun _ _ _ h => h) (Or.inl ⟨by rfl, ?_⟩) (by assumption) ?_
      rotate_left
      · intro w hSw
        (try dsimp only at hSw)
        go_simp
        first | done | with_reducible rfl
      simp only [Act.put, List.getElem_toArray, List.getElem_cons_succ, List.getElem_cons_zero, List.setIfInBounds_toArray, List.set_cons_zero, List.set_cons_succ]
      refine wpAnyH_take (i := 5) (v := ?_) rfl (by kernel_rfl) (by kernel_rfl) (by kernel_rfl) (fun _ _ _ h => h) (Or.inl ⟨by rfl, ?_⟩) (by assumption) ?_
      rotate_left
      · intro w hSw
        (try dsimp only at hSw)
        go_simp
        first | done | with_reducible rfl
      simp only [Act.put, List.getElem_toArray, List.getElem_cons_succ, List.getElem_cons_zero, List.setIfInBounds_toArray, List.set_cons_zero, List.set_cons_succ]
      refine wpAnyH_take (i := 6) (v := ?_) rfl (by kernel_rfl) (by kernel_rfl) (by kernel_rfl) (fun _ _ _ h => h) (Or.inl ⟨by rfl, ?_⟩) (by assumption) ?_
      rotate_left
      · intro w hSw
        (try dsimp only at hSw)
        go_simp
        first | done | with_reducible rfl
      simp only [Act.put, List.getElem_toArray, List.getElem_cons_succ, List.getElem_cons_zero, List.setIfInBounds_toArray, List.set_cons_zero, List.set_cons_succ]
      refine wpAnyH_take (i := 7) (v := ?_) rfl (by kernel_rfl) (by kernel_rfl) (by kernel_rfl) (fun _ _ _ h => h) (Or.inl ⟨by rfl, ?_⟩) (by assumption) ?_
      rotate_left
      · intro w hSw
        (try dsimp only at hSw)
        go_simp
        first | done | with_reducible rfl
      simp only [Act.put, List.getElem_toArray, List.getElem_cons_succ, List.getElem_cons_zero, List.setIfInBounds_toArray, List.set_cons_zero, List.set_cons_succ]
      refine wpAnyH_take (i := 8) (v := ?_) rfl (by kernel_rfl) (by kernel_rfl) (by kernel_rfl) (fun _ _ _ h => h) (Or.inl ⟨by rfl, ?_⟩) (by assumption) ?_
      rotate_left
      · intro w hSw
        (try dsimp only at hSw)
        go_simp
        first | done | with_reducible rfl
      simp only [Act.put, List.getElem_toArray, List.getElem_cons_succ, List.getElem_cons_zero, List.setIfInBounds_toArray, List.set_cons_zero, List.set_cons_succ]
      refine wpAnyH_take (i := 9) (v := ?_) rfl (by kernel_rfl) (by kernel_rfl) (by kernel_rfl) (fun _ _ _ h => h) (Or.inl ⟨by rfl, ?_⟩) (by assumption) ?_
      rotate_left
      · intro w hSw
        (try dsimp only at hSw)
        go_simp
        first | done | with_reducible rfl
      simp only [Act.put, List.getElem_toArray, List.getElem_cons_succ, List.getElem_cons_zero, List.setIfInBounds_toArray, List.set_cons_zero, List.set_cons_succ]
      refine wpAnyH_take (i := 10) (v := ?_) rfl (by kernel_rfl) (by kernel_rfl) (by kernel_rfl) (fun _ _ _ h => h) (Or.inl ⟨by rfl, ?_⟩) (by assumption) ?_
      rotate_left
      · intro w hSw
        (try dsimp only at hSw)
        go_simp
        first | done | with_reducible rfl
      simp only [Act.put, List.getElem_toArray, List.getElem_cons_succ, List.getElem_cons_zero, List.setIfInBounds_toArray, List.set_cons_zero, List.set_cons_succ]
      refine wpAnyH_take (i := 11) (v := ?_) rfl (by kernel_rfl) (by kernel_rfl) (by kernel_rfl) (fun _ _ _ h => h) (Or.inl ⟨by rfl, ?_⟩) (by assumption) ?_
      rotate_left
      · intro w hSw
        (try dsimp only at hSw)
        go_simp
        first | done | with_reducible rfl
      simp only [Act.put, List.getElem_toArray, List.getElem_cons_succ, List.getElem_cons_zero, List.setIfInBounds_toArray, List.set_cons_zero, List.set_cons_succ]
      refine wpAnyH_ready (rs := [12]) (by kernel_rfl) (by simp) ?_
      refine AllReadyH.cons rfl (fun K hK => ?_) AllReadyH.nil
      go_simp
      first | (refine hK.out _ _ ?_ (fun hHeld => ?_)) | (go_wp2_with fail; refine hK.out _ _ ?_ (fun hHeld => ?_))
      · (go_keep; try omega)
      clear hK K
      try simp only [Act.put, List.getElem_toArray, List.getElem_cons_succ, List.getElem_cons_zero, List.setIfInBounds_toArray, List.set_cons_zero, List.set_cons_succ]
      refine wpAnyH_ready (rs := [13]) (by kernel_rfl) (by simp) ?_
      refine AllReadyH.cons rfl (fun K hK => ?_) AllReadyH.nil
      refine step_sl _ elOw rfl (.tmp 68) (.tmp 80) rfl rfl (own_drew (HS.out.row.alloc _)) rfl (Sl.lit _ _ _ 1 rfl (by simp [maxLen])) ?_ ?_ ?_ ?_
      · exact owF_one (⟨src, dst, ttl, ⟨s0, s1, s2, s3, s4, s5, s6, s7, s8⟩⟩, []) rfl
      · omega
      · exact Nat.le_trans hww (by simp)
      intro v9 w9 hown9 hg9 _ _
      have hbw : Below W3.heap.size wr w9 := below_app ((al1 wr _).mono hww).drew (own_drew (HS.out.row.alloc _)) hg9 (Nat.le_refl _) (Nat.le_trans hww (by simp))
      have ka0 : w9.cell? ⟨w.heap.size, 0, none⟩ = some (.int .u16 (src : Int)) := (hbw.cell (p := ⟨w.heap.size, 0, none⟩) (show w.heap.size < W3.heap.size by omega)).trans a0
      have ka1 : w9.cell? ⟨w.heap.size, 1, none⟩ = some (.int .u16 (dst : Int)) := (hbw.cell (p := ⟨w.heap.size, 1, none⟩) (show w.heap.size < W3.heap.size by omega)).trans a1
      have ka3 : w9.cell? ⟨w.heap.size, 3, none⟩ = some (.int .i64 ttl) := (hbw.cell (p := ⟨w.heap.size, 3, none⟩) (show w.heap.size < W3.heap.size by omega)).trans a3
      have kd0 : w9.cell? ⟨b4, o4 + j * 10, none⟩ = some (.bool s0) := (hbw.cell (p := ⟨b4, o4 + j * 10, none⟩) (show b4 < W3.heap.size by omega)).trans d0
      have kd1 : w9.cell? ⟨b4, o4 + j * 10 + 1, none⟩ = some (.bool s1) := (hbw.cell (p := ⟨b4, o4 + j * 10 + 1, none⟩) (show b4 < W3.heap.size by omega)).trans d1
      have kd2 : w9.cell? ⟨b4, o4 + j * 10 + 2, none⟩ = some (.bool s2) := (hbw.cell (p := ⟨b4, o4 + j * 10 + 2, none⟩) (show b4 < W3.heap.size by omega)).trans d2
      have kd3 : w9.cell? ⟨b4, o4 + j * 10 + 3, none⟩ = some (.int .i64 s3) := (hbw.cell (p := ⟨b4, o4 + j * 10 + 3, none⟩) (show b4 < W3.heap.size by omega)).trans d3
      have kd4 : w9.cell? ⟨b4, o4 + j * 10 + 4, none⟩ = some (.int .i64 s4) := (hbw.cell (p := ⟨b4, o4 + j * 10 + 4, none⟩) (show b4 < W3.heap.size by omega)).trans d4
      have kd5 : w9.cell? ⟨b4, o4 + j * 10 + 5, none⟩ = some (.int .i64 s5) := (hbw.cell (p := ⟨b4, o4 + j * 10 + 5, none⟩) (show b4 < W3.heap.size by omega)).trans d5
      have kd6 : w9.cell? ⟨b4, o4 + j * 10 + 6, none⟩ = some (.int .i64 s6) := (hbw.cell (p := ⟨b4, o4 + j * 10 + 6, none⟩) (show b4 < W3.heap.size by omega)).trans d6
      have kd7 : w9.cell? ⟨b4, o4 + j * 10 + 7, none⟩ = some (.int .u32 (s7 : Int)) := (hbw.cell (p := ⟨b4, o4 + j * 10 + 7, none⟩) (show b4 < W3.heap.size by omega)).trans d7
      have kd8 : w9.cell? ⟨b4, o4 + j * 10 + 8, none⟩ = some (.bool s8) := (hbw.cell (p := ⟨b4, o4 + j * 10 + 8, none⟩) (show b4 < W3.heap.size by omega)).trans d8
      have kd9 : w9.cell? ⟨b4, o4 + j * 10 + 9, none⟩ = some (.slice Al cn cl) := (hbw.cell (p := ⟨b4, o4 + j * 10 + 9, none⟩) (show b4 < W3.heap.size by omega)).trans d9
      have hz9 : W3.heap.size ≤ w9.heap.size := Nat.le_trans hww hbw.size
      have HS9 := Lib.hid (show WSt ⟨src, dst, app, ttl, src, iv, seq⟩ l W3 w9 W1.heap.size tb W3.heap.size v9 (j + 1) (vs ++ [.slice Al cn cl]) from WSt.snoc (wr := (wr.alloc (.cells #[.int .u16 (src : Int), .int .u16 (dst : Int), .int .i64 ttl, .bool s0, .bool s1, .bool s2, .int .i64 s3, .int .i64 s4, .int .i64 s5, .int .i64 s6, .int .u32 (s7 : Int), .bool s8, .slice Al cn cl] 65)).drew) ⟨HS.out.len, own_drew (HS.out.row.alloc _), HS.out.bs, (HS.out.be.alloc hww _).drew⟩ (Nat.le_trans hww (by simp)) (by rw [HCN.out]; exact HBS.out) (by
        have e1 : owF (wayE ⟨src, dst, app, ttl, src, iv, seq⟩ l j) (.slice Al cn cl) = [.int .u16 (src : Int), .int .u16 (dst : Int), .int .i64 ttl, .bool s0, .bool s1, .bool s2, .int .i64 s3, .int .i64 s4, .int .i64 s5, .int .i64 s6, .int .u32 (s7 : Int), .bool s8, .slice Al cn cl] := by
          show owF (⟨src, dst, ttl, segL (mOut ⟨src, dst, app, ttl, src, iv, seq⟩ l 5) j⟩, chunk l j) (.slice Al cn cl) = _
          rw [← HSS.out, ← HSP.out]
        rw [e1]; exact hown9) hg9)
      obtain ⟨A9, c9, rfl⟩ := own_form hown9
      clear hown9 hg9 hbw
      refine hK.out _ _ ⟨⟨ka0, ka1, ka3, kd0, kd1, kd2, kd3, kd4, kd5, kd6, kd7, kd8, kd9⟩, by omega, by omega⟩ (fun hHeld => ?_)
      clear hK K ka0 ka1 ka3 kd0 kd1 kd2 kd3 kd4 kd5 kd6 kd7 kd8 kd9
      simp only [Act.put, List.getElem_toArray, List.getElem_cons_succ, List.getElem_cons_zero, List.setIfInBounds_toArray, List.set_cons_zero, List.set_cons_succ]
      refine wpAnyH_take (i := 14) (v := ?_) rfl (by kernel_rfl) (by kernel_rfl) (by kernel_rfl) (fun _ _ _ h => h) (Or.inl ⟨by rfl, ?_⟩) (by assumption) ?_
      rotate_left
      · intro w hSw
        (try dsimp only at hSw)
        go_simp
        first | done | with_reducible rfl
      simp only [Act.put, List.getElem_toArray, List.getElem_cons_succ, List.getElem_cons_zero, List.setIfInBounds_toArray, List.set_cons_zero, List.set_cons_succ]
      refine wpAnyH_done (by kernel_rfl) ?_ _
      refine NoPanic.normal ?_
      clear a0 a1 a3 d0 d1 d2 d3 d4 d5 d6 d7 d8 d9 hHeld
      go_wp2_with fail
      go_roundw
      case rel => exact ⟨j + 1, _, by omega, by go_num, HS9.out⟩
      case measure => simp [intOf]; omega
    · have hje : C = j := by omega
      subst hje
      clear hlt hj
      have htw : tb < W3.heap.size := by rw [HZ3.out]; omega
      have hwt : w.heap.size < tb := Nat.lt_of_lt_of_le HZ1.out HZ2.out
      have hww : W3.heap.size ≤ wr.heap.size := hS.be.size
      have hlt1 : w.heap.size < wr.heap.size := by omega
      obtain ⟨W5, hW5⟩ : ∃ W5, W5 = wr.alloc (.cells #[.slice none 0 0, .slice none 0 0] 47) := ⟨_, rfl⟩
      have hb5 : Below wr.heap.size wr W5 := by rw [hW5]; exact al1 _ _
      have hb35 : Below W3.heap.size W3 W5 := hS.be.trans (hb5.mono hww)
      have hbt5 : Below tb W3 W5 := hb35.mono (Nat.le_of_lt htw)
      have hz5 : wr.heap.size < W5.heap.size := by rw [hW5]; simp
      have HM := Lib.hid (show MSt ⟨src, dst, app, ttl, src, iv, seq⟩ (.slice A l.length c) w W5 w.heap.size tb wr.heap.size (.slice A2 1 c2) (.slice A3 0 c3) (.slice none 0 0) (.slice none 0 0) [outK ⟨src, dst, app, ttl, src, iv, seq⟩ l 0 20 1] [] from
        ⟨HT3.out.on hb35, by rw [hW5]; exact Box.new _ _ _, HX3.out.on hb35, (HO3.out.below hbt5).toP fun b _ h => ⟨by omega, by omega, by omega⟩, (HI3.out.below hbt5).toP fun b _ h => ⟨by omega, by omega, by omega⟩, (RowV2.nil W5 0 0).toP fun b _ h => absurd h (Nat.not_lt_zero _), (RowV2.nil W5 0 0).toP fun b _ h => absurd h (Nat.not_lt_zero _), HA3.out.trans (hb35.mono HA3.out.size), ⟨Nat.le_refl _, by omega, by omega, by omega, by omega, by omega⟩⟩)
      have HW := Lib.hid (show ManyP owF 13 (fun p => p.2) W5 (Av tb wr.heap.size W5) (.slice A8 C c8) (wayL ⟨src, dst, app, ttl, src, iv, seq⟩ l C) from hS.away hb5 htw rfl hww)
      go_wp2_with fail
      rw [← hW5]
      clear hW5 hb5 hb35 hbt5 hz5 hlt1 hww htw hwt HX3 HT3 HL3 HO3 HI3 hS
      generalize wr.heap.size = ub at *
      go_loopw [14, 8, 11, 12, 13] (fun i wy n dl an wq => ∃ (t : Nat) (s : List Bool) (os : List OutS) (is : List InS) (way : List Outw) (vt ut vu uu : Value) (nn : Nat) (ab : Bool), 1 ≤ t ∧ t ≤ 200 ∧ i = .int .i64 t ∧ n = .int .i64 nn ∧ nn ≤ 33 * (t - 1) ∧ dl = .int .i64 ((dlv s : Nat) : Int) ∧ an = .bool ab ∧ s.length = C ∧ WRel ⟨src, dst, app, ttl, src, iv, seq⟩ l s is ∧ WfIs is ∧ ORel ⟨src, dst, app, ttl, src, iv, seq⟩ l s os ∧ WayR ⟨src, dst, app, ttl, src, iv, seq⟩ l way ∧ MSt ⟨src, dst, app, ttl, src, iv, seq⟩ (.slice A l.length c) w wq w.heap.size tb ub vt ut vu uu os is ∧ ManyP owF 13 (fun p => p.2) wq (Av tb ub wq) wy way ∧ (ab = true ∨ (os = [] ∧ s.all id = true) ∨ (t = 1 ∧ way = wayL ⟨src, dst, app, ttl, src, iv, seq⟩ l C ∧ s = List.replicate C false))) (fun i _ _ _ _ _ => 200 - (intOf i).toNat)
      case atStart =>
        refine ⟨1, List.replicate C false, [outK ⟨src, dst, app, ttl, src, iv, seq⟩ l 0 20 1], [], wayL ⟨src, dst, app, ttl, src, iv, seq⟩ l C, _, _, _, _, 0, false, Nat.le_refl _, by omega, rfl, rfl, by omega, ?_, rfl, List.length_replicate .., .inl ⟨by simp, rfl⟩, ⟨by simp, fun _ h => by simp at h⟩, .inr ⟨0, 20, 1, rfl, Sub.zero _, by omega, by omega⟩, ⟨by rw [wayL_len]; exact hC1, fun p hp => ?_⟩, HM.out, HW.out, .inr (.inr ⟨rfl, rfl, rfl⟩)⟩
        · have h0 : dlv (List.replicate C false) = 0 := by
            unfold dlv
            rw [if_neg]
            rw [List.all_replicate, if_neg (by omega)]
            simp
          rw [h0]
          rfl
        · unfold wayL at hp
          obtain ⟨k, hk, rfl⟩ := List.mem_map.1 hp
          exact ⟨k, by rw [← HC.out]; exact List.mem_range.1 hk, rfl⟩
      clear HM HW
      case round =>
        obtain ⟨t, s, os, is, way, vt, ut, vu, uu, nn, ab, ht1, ht2, rfl, rfl, hnn, rfl, rfl, hsC, hwr, hwf, hor, hway, hM, hW, hfin⟩ := hrel
        obtain ⟨A6, c6, rfl⟩ := hW.form
        by_cases hlt : t < 200
        · have hlt' : (t : Int) < 200 := by omega
          go_wp2_with fail
          go_loopw [15, 11, 12, 13] (fun i n dl an wq => ∃ (j : Nat) (s : List Bool) (is : List InS) (vu uu : Value) (nn : Nat) (ab : Bool), j ≤ way.length ∧ i = .int .i64 j ∧ n = .int .i64 nn ∧ nn ≤ 33 * (t - 1) + j ∧ dl = .int .i64 ((dlv s : Nat) : Int) ∧ an = .bool ab ∧ s.length = C ∧ WRel ⟨src, dst, app, ttl, src, iv, seq⟩ l s is ∧ WfIs is ∧ ORel ⟨src, dst, app, ttl, src, iv, seq⟩ l s os ∧ MSt ⟨src, dst, app, ttl, src, iv, seq⟩ (.slice A l.length c) w wq w.heap.size tb ub vt ut vu uu os is ∧ ManyP owF 13 (fun p => p.2) wq (Av tb ub wq) (.slice A6 way.length c6) way ∧ Fin3 ⟨src, dst, app, ttl, src, iv, seq⟩ l C t way ab os s is j) (fun i _ _ _ _ => way.length - (intOf i).toNat)
          case atStart => exact ⟨0, s, is, _, _, nn, ab, Nat.zero_le _, rfl, rfl, by omega, rfl, rfl, hsC, hwr, hwf, hor, hM, hW, by
            rcases hfin with h | h | ⟨_, h1, h2⟩
            · exact .inl h
            · exact .inr (.inl h)
            · exact .inr (.inr ⟨h1, by rw [h2]; simp, fun h => by omega⟩)⟩
          clear hsC hwr hwf hor hM hW hfin hnn
          case round =>
            obtain ⟨j, s, is, vu, uu, nn, ab, hj, rfl, rfl, hnn, rfl, rfl, hsC, hwr, hwf, hor, hM, hW, hfin⟩ := hrel
            by_cases hlj : j < way.length
            · obtain ⟨g, hg⟩ : ∃ g, g = lostAt lo nn := ⟨_, rfl⟩
              have HG := Lib.hid hg
              clear hg
              have HLO := Lib.hid (HO.out.on hM.be)
              obtain ⟨wo, rfl⟩ : ∃ wo : World, wo = wr := ⟨_, rfl⟩
              have HM := Lib.hid hM
              have HW := Lib.hid hW
              clear hM hW
              have hw32 := hway.1
              obtain ⟨n1, hn1⟩ : ∃ n1, n1 = nn + 1 := ⟨_, rfl⟩
              have hn1b : n1 ≤ 33 * (t - 1) + (j + 1) := by omega
              have hn1c : n1 < 8192 := by omega
              have hw1 : IntKind.i64.wrap ((nn : Int) + 1) = (n1 : Int) := by rw [IntWalk.i64_in _ (by omega)]; omega
              have HN1 := Lib.hid hn1b
              have HN1c := Lib.hid hn1c
              clear hn1 hn1b hn1c
              go_upto_region 19 with fail
              go_cut [16] from 92 to 101 (fun t wx => t = .bool g ∧ wx = wo)
              case first =>
                by_cases hnl : nn < lo.length
                · obtain ⟨bo, oo, cc, hfo, hbo, _, _, hco⟩ := HLO.out.at_ (show (lo.map fun b => Value.bool b)[nn]? = some (.bool g) by rw [List.getElem?_map, HG.out]; unfold lostAt; rw [List.getD_eq_getElem?_getD, List.getElem?_eq_getElem hnl]; rfl)
                  injection hfo with hfo1 _ hfo3
                  subst hfo1 hfo3
                  have qn : (nn : Int) < (lo.length : Int) := by omega
                  have qn0 : (0 : Int) ≤ (nn : Int) := by omega
                  clear hnl HG
                  go_wp2_with fail
                  refine Met.intro ?_
                  go_step
                  (repeat (first | apply ex64 | apply ex16 | apply ex4 | apply Exists.intro))
                  refine ⟨?_, rfl⟩
                  exact ⟨rfl, rfl⟩
                · have hg0 : g = false := by rw [HG.out]; unfold lostAt; rw [List.getD_eq_getElem?_getD, List.getElem?_eq_none (by omega)]; rfl
                  have qn : decide ((nn : Int) < (lo.length : Int)) = false := decide_eq_false (by omega)
                  clear HG
                  subst hg0
                  go_wp2_with fail
                  refine Met.intro ?_
                  go_step
                  (repeat (first | apply ex64 | apply ex16 | apply ex4 | apply Exists.intro))
                  refine ⟨?_, rfl⟩
                  exact ⟨rfl, rfl⟩
              case rest =>
                obtain ⟨rfl, rfl⟩ := hcut
                obtain ⟨wp, rfl⟩ : ∃ wp : World, wp = wc := ⟨_, rfl⟩
                obtain ⟨ab2, hab2⟩ : ∃ ab2, ab2 = (ab || g) := ⟨_, rfl⟩
                have HAB := Lib.hid hab2
                clear hab2
                go_upto_region 20 with fail
                go_cut [13] from 102 to 105 (fun t wx => t = .bool ab2 ∧ wx = wp)
                case first =>
                  rcases ab with _ | _
                  all_goals
                    go_wp2_with fail
                    refine Met.intro ?_
                    go_step
                    (repeat (first | apply ex64 | apply ex16 | apply ex4 | apply Exists.intro))
                    refine ⟨?_, rfl⟩
                    exact ⟨by rw [HAB.out]; cases g <;> rfl, rfl⟩
                case rest =>
                  obtain ⟨rfl, rfl⟩ := hcut
                  rcases g with _ | _
                  · skip
                    obtain ⟨Wq, rfl⟩ : ∃ Wq : World, Wq = wc := ⟨_, rfl⟩
                    have hn1c := HN1c.out
                    obtain ⟨kk, hkk, hwk⟩ := hway.2 _ (List.getElem_mem hlj)
                    have hat : way[j]? = some (wayE ⟨src, dst, app, ttl, src, iv, seq⟩ l kk) := by rw [List.getElem?_eq_getElem hlj, hwk]
                    obtain ⟨b4, o4, c4', ul, hf4, hb4, hc4, hs4⟩ := outws_at (many_reads HW.out) hat
                    injection hf4 with hf41 _ hf43
                    subst hf41 hf43
                    obtain ⟨Al, cl, rfl, _⟩ := id hs4
                    have hkc : kk < s.length := by rw [hsC, HC.out]; exact hkk
                    have hcl : (chunk l kk).length ≤ 12 := chunk_le l kk
                    have hchk := HCK.out kk hkk
                    have hrs := recv_step2 (now := (t : Int)) hwr (by rw [hsC]; exact HC.out) hkc (show n1 < 8192 by omega) hchk
                    have hwf2 := wf_recv (src := src) (dst := dst) (isrc := src) (iv := iv) (seq := seq + n1) (ttl := ttl) (p := segL (mOut ⟨src, dst, app, ttl, src, iv, seq⟩ l 5) kk) (now := (t : Int)) hwf (show (chunk l kk).length ≤ 65536 by omega)
                    obtain ⟨Aw, cv, rfl⟩ := HM.out.ou.form
                    obtain ⟨Ax, cu, rfl⟩ := HM.out.iu.form
                    have CR := Lib.hid (fun (W : World) (hW : Below Wq.heap.size Wq W) => recv_any [] is src dst src iv (seq + n1) ttl (segL (mOut ⟨src, dst, app, ttl, src, iv, seq⟩ l 5) kk) (chunk l kk) (t : Int) (by omega) (by omega) (.slice Aw ([] : List OutS).length cv) (.slice Ax is.length cu) (.slice Al (chunk l kk).length cl) W ((row_reads HM.out.ou).on hW) ((row_reads HM.out.iu).on hW) (hs4.on hW) ⟨by simp, fun _ h => by simp at h⟩ hwf (by omega) (by omega))
                    have HRS := Lib.hid hrs
                    have HWF2 := Lib.hid hwf2
                    have HKC := Lib.hid hkc
                    have HAT := Lib.hid hat
                    have HSC := Lib.hid hsC
                    have HOR := Lib.hid hor
                    have HFIN := Lib.hid hfin
                    unfold RecvPost at CR
                    generalize recvT is src dst src iv (seq + n1) ttl (segL (mOut ⟨src, dst, app, ttl, src, iv, seq⟩ l 5) kk) (chunk l kk) (t : Int) = rr at *
                    obtain ⟨is2, got, ak⟩ := rr
                    dsimp only at CR
                    have d0 : Wq.cell? ⟨b4, o4 + j * 13, none⟩ = some (.int .u16 (src : Int)) := hc4 0 _ rfl
                    have d1 : Wq.cell? ⟨b4, o4 + j * 13 + 1, none⟩ = some (.int .u16 (dst : Int)) := hc4 1 _ rfl
                    have d2 : Wq.cell? ⟨b4, o4 + j * 13 + 2, none⟩ = some (.int .i64 ttl) := hc4 2 _ rfl
                    have d3 : Wq.cell? ⟨b4, o4 + j * 13 + 3, none⟩ = some (.bool (segL (mOut ⟨src, dst, app, ttl, src, iv, seq⟩ l 5) kk).ctl) := hc4 3 _ rfl
                    have d4 : Wq.cell? ⟨b4, o4 + j * 13 + 4, none⟩ = some (.bool (segL (mOut ⟨src, dst, app, ttl, src, iv, seq⟩ l 5) kk).seg) := hc4 4 _ rfl
                    have d5 : Wq.cell? ⟨b4, o4 + j * 13 + 5, none⟩ = some (.bool (segL (mOut ⟨src, dst, app, ttl, src, iv, seq⟩ l 5) kk).app) := hc4 5 _ rfl
                    have d6 : Wq.cell? ⟨b4, o4 + j * 13 + 6, none⟩ = some (.int .i64 (segL (mOut ⟨src, dst, app, ttl, src, iv, seq⟩ l 5) kk).zero) := hc4 6 _ rfl
                    have d7 : Wq.cell? ⟨b4, o4 + j * 13 + 7, none⟩ = some (.int .i64 (segL (mOut ⟨src, dst, app, ttl, src, iv, seq⟩ l 5) kk).idx) := hc4 7 _ rfl
                    have d8 : Wq.cell? ⟨b4, o4 + j * 13 + 8, none⟩ = some (.int .i64 (segL (mOut ⟨src, dst, app, ttl, src, iv, seq⟩ l 5) kk).last) := hc4 8 _ rfl
                    have d9 : Wq.cell? ⟨b4, o4 + j * 13 + 9, none⟩ = some (.int .i64 (segL (mOut ⟨src, dst, app, ttl, src, iv, seq⟩ l 5) kk).op) := hc4 9 _ rfl
                    have d10 : Wq.cell? ⟨b4, o4 + j * 13 + 10, none⟩ = some (.int .u32 ((segL (mOut ⟨src, dst, app, ttl, src, iv, seq⟩ l 5) kk).blk : Int)) := hc4 10 _ rfl
                    have d11 : Wq.cell? ⟨b4, o4 + j * 13 + 11, none⟩ = some (.bool (segL (mOut ⟨src, dst, app, ttl, src, iv, seq⟩ l 5) kk).fr) := hc4 11 _ rfl
                    have d12 : Wq.cell? ⟨b4, o4 + j * 13 + 12, none⟩ = some (.slice Al (chunk l kk).length cl) := hc4 12 _ rfl
                    generalize segL (mOut ⟨src, dst, app, ttl, src, iv, seq⟩ l 5) kk = sp at *
                    obtain ⟨s0, s1, s2, s3, s4, s5, s6, s7, s8⟩ := sp
                    dsimp only at d3 d4 d5 d6 d7 d8 d9 d10 d11
                    generalize (chunk l kk).length = cn at *
                    have e0 := HM.out.bu.cell (j := 0) rfl
                    have e1 := HM.out.bu.cell (j := 1) rfl
                    have a0 := HM.out.ba.cell (j := 0) rfl
                    have a5 := HM.out.ba.cell (j := 5) rfl
                    have a6 := HM.out.ba.cell (j := 6) rfl
                    have zu : ub < Wq.heap.size := HM.out.bu.lt
                    have zt : tb < Wq.heap.size := HM.out.bt.lt
                    have za : w.heap.size < Wq.heap.size := HM.out.ba.lt
                    dsimp only at a0 a5 a6
                    have hwk : IntKind.u32.wrap (n1 : Int) = (n1 : Int) := IntWalk.u32_in _ (by omega)
                    have hws : IntKind.u32.wrap ((seq : Int) + (n1 : Int)) = (seq : Int) + (n1 : Int) := IntWalk.u32_in _ (by omega)
                    have ij : (j : Int) < (way.length : Int) := by omega
                    have i0 : (0 : Int) ≤ (j : Int) := by omega
                    clear hn1c hc4 hs4 hchk hrs hwf2 hwr hwf hat hor hfin hkc hsC
                    go_upto_region 23 with fail
                    go_cut [17, 18, 19] from 106 to 147 (fun t17 t18 t19 wx => ∃ (bt : Nat) (v u x : Value), t17 = .pointer (some ⟨bt, 0, none⟩) ∧ t18 = x ∧ t19 = .bool ak ∧ Box wx bt [v, u] ∧ RowP outCs 10 OutS.parts wx (Av tb ub wx) v [] ∧ RowP inCs 11 InS.parts wx (Av tb ub wx) u is2 ∧ ManyP accF 8 (fun a => a.2) wx (Av tb ub wx) x got ∧ Below Wq.heap.size Wq wx)
                    case first =>
                      go_region_held3 (fun w' => w'.cell? ⟨ub, 0, none⟩ = some (.slice Aw ([] : List OutS).length cv) ∧ w'.cell? ⟨ub, 1, none⟩ = some (.slice Ax is.length cu) ∧ w'.cell? ⟨w.heap.size, 0, none⟩ = some (.int .u16 (src : Int)) ∧ w'.cell? ⟨w.heap.size, 5, none⟩ = some (.int .u32 (iv : Int)) ∧ w'.cell? ⟨w.heap.size, 6, none⟩ = some (.int .u32 (seq : Int)) ∧ w'.cell? ⟨b4, o4 + j * 13, none⟩ = some (.int .u16 (src : Int)) ∧ w'.cell? ⟨b4, o4 + j * 13 + 1, none⟩ = some (.int .u16 (dst : Int)) ∧ w'.cell? ⟨b4, o4 + j * 13 + 2, none⟩ = some (.int .i64 ttl) ∧ w'.cell? ⟨b4, o4 + j * 13 + 3, none⟩ = some (.bool s0) ∧ w'.cell? ⟨b4, o4 + j * 13 + 4, none⟩ = some (.bool s1) ∧ w'.cell? ⟨b4, o4 + j * 13 + 5, none⟩ = some (.bool s2) ∧ w'.cell? ⟨b4, o4 + j * 13 + 6, none⟩ = some (.int .i64 s3) ∧ w'.cell? ⟨b4, o4 + j * 13 + 7, none⟩ = some (.int .i64 s4) ∧ w'.cell? ⟨b4, o4 + j * 13 + 8, none⟩ = some (.int .i64 s5) ∧ w'.cell? ⟨b4, o4 + j * 13 + 9, none⟩ = some (.int .i64 s6) ∧ w'.cell? ⟨b4, o4 + j * 13 + 10, none⟩ = some (.int .u32 (s7 : Int)) ∧ w'.cell? ⟨b4, o4 + j * 13 + 11, none⟩ = some (.bool s8) ∧ w'.cell? ⟨b4, o4 + j * 13 + 12, none⟩ = some (.slice Al cn cl)) (go_keep)
                        (first
                          | (go_at_call 23; refine (CR.out Wq.drew ((Below.refl _ _).drew)).mono ?_; rintro e w6 ⟨hb6', v', u', x', rfl, hO', hI', hG'⟩
                             have hb6 : Below Wq.heap.size Wq w6 := ((Below.refl _ _).drew).trans hb6'
                             have hc6 := bfar Wq.heap.size hb6 (Nat.le_refl _)
                             have hz6 : Wq.heap.size ≤ w6.heap.size := hb6.size
                             have y8 : ub < w6.heap.size := Nat.lt_of_lt_of_le zu hz6
                             have ya : w.heap.size < w6.heap.size := Nat.lt_of_lt_of_le za hz6
                             have yb : b4 < w6.heap.size := Nat.lt_of_lt_of_le hb4 hz6
                             have hO6 := hO'.mono (show Wq.heap.size ≤ Wq.drew.heap.size from Nat.le_refl _) (Nat.le_refl _)
                             have hI6 := hI'.mono (show Wq.heap.size ≤ Wq.drew.heap.size from Nat.le_refl _) (Nat.le_refl _)
                             have hG6 := hG'.mono (show Wq.heap.size ≤ Wq.drew.heap.size from Nat.le_refl _) (Nat.le_refl _)
                             obtain ⟨Av2, cv2, rfl⟩ := rowV_form hO'.weak
                             obtain ⟨Au2, cu2, rfl⟩ := rowV_form hI'.weak
                             obtain ⟨Ag, cg, rfl⟩ := hG'.form)
                          | (go_at_call 23; refine (CR.out (Wq.alloc (.cells #[.slice none 0 0, .slice none 0 0] 47)).drew ((al1 _ _).drew)).mono ?_; rintro e w6 ⟨hb6', v', u', x', rfl, hO', hI', hG'⟩
                             have hb6 : Below Wq.heap.size Wq w6 := ((al1 Wq _).drew).trans (hb6'.mono (by simp))
                             have hc6 := bfar Wq.heap.size hb6 (Nat.le_refl _)
                             have hz6 : Wq.heap.size < w6.heap.size := Nat.lt_of_lt_of_le (by simp) hb6'.size
                             have y8 : ub < w6.heap.size := Nat.lt_trans zu hz6
                             have ya : w.heap.size < w6.heap.size := Nat.lt_trans za hz6
                             have yb : b4 < w6.heap.size := Nat.lt_trans hb4 hz6
                             have n8 : Wq.heap.size ≠ ub := Nat.ne_of_gt zu
                             have na : Wq.heap.size ≠ w.heap.size := Nat.ne_of_gt za
                             have nb : Wq.heap.size ≠ b4 := Nat.ne_of_gt hb4
                             have hbz : Box w6 Wq.heap.size [.slice none 0 0, .slice none 0 0] := (Box.new Wq _ _).on ((Below.refl _ _).drew.trans hb6')
                             have y0 := hbz.cell (j := 0) rfl
                             have y1 := hbz.cell (j := 1) rfl
                             have yf0 := hbz.free 0
                             have yf1 := hbz.free 1
                             have hO6 := hO'.mono (show Wq.heap.size + 1 ≤ _ by simp) (Nat.le_refl _)
                             have hI6 := hI'.mono (show Wq.heap.size + 1 ≤ _ by simp) (Nat.le_refl _)
                             have hG6 := hG'.mono (show Wq.heap.size + 1 ≤ _ by simp) (Nat.le_refl _)
                             obtain ⟨Av2, cv2, rfl⟩ := rowV_form hO'.weak
                             obtain ⟨Au2, cu2, rfl⟩ := rowV_form hI'.weak
                             obtain ⟨Ag, cg, rfl⟩ := hG'.form))
                      all_goals
                        clear e0 e1 a0 a5 a6 d0 d1 d2 d3 d4 d5 d6 d7 d8 d9 d10 d11 d12
                        go_wp2_with fail
                        refine Met.intro ?_
                        go_step
                        (repeat (first | apply ex64 | apply ex16 | apply ex4 | apply Exists.intro))
                        refine ⟨?_, rfl⟩
                      all_goals
                        first
                          | (refine ⟨w6.heap.size, .slice Av2 ([] : List OutS).length cv2, .slice Au2 is2.length cu2, .slice Ag got.length cg, rfl, rfl, rfl, ?_, row_new (hO6.on (al1 _ _)) zt zu, row_new (hI6.on (al1 _ _)) zt zu, many_new (hG6.on (al1 _ _)) zt zu, hb6.alloc hb6.size _⟩
                             exact Box.new w6 _ _)
                          | (refine ⟨Wq.heap.size, .slice Av2 ([] : List OutS).length cv2, .slice Au2 is2.length cu2, .slice Ag got.length cg, rfl, rfl, rfl, ?_, ?_, ?_, ?_, (hb6.setCell (Nat.le_refl _) _).setCell (Nat.le_refl _) _⟩
                             · exact hbz.put [.slice Av2 ([] : List OutS).length cv2, .slice Au2 is2.length cu2] rfl
                             · exact row_new (((hO6.far (Nat.lt_succ_self _) 0 _).far (Nat.lt_succ_self _) 1 _).mono (Nat.le_refl _) (by simp)) (by omega) (by omega)
                             · exact row_new (((hI6.far (Nat.lt_succ_self _) 0 _).far (Nat.lt_succ_self _) 1 _).mono (Nat.le_refl _) (by simp)) (by omega) (by omega)
                             · exact many_new (((hG6.far (Nat.lt_succ_self _) 0 _).far (Nat.lt_succ_self _) 1 _).mono (Nat.le_refl _) (by simp)) (by omega) (by omega))
                          | fail
                    case rest =>
                      obtain ⟨bt, v2, u2, x2, rfl, rfl, rfl, hbt, hO2, hI2, hG2, hbx⟩ := hcut
                      obtain ⟨Aw2, cv2, rfl⟩ := hO2.form
                      obtain ⟨Ax2, cu2, rfl⟩ := hI2.form
                      obtain ⟨Ag, cg, rfl⟩ := hG2.form
                      have hm := HM.out.on hbx
                      have hw' := many_on HW.out hbx
                      clear e0 e1 a0 a5 a6 d0 d1 d2 d3 d4 d5 d6 d7 d8 d9 d10 d11 d12 zu zt za hwk hws hb4 CR
                      have g0 := hbt.cell (j := 0) rfl
                      have g1 := hbt.cell (j := 1) rfl
                      have e0 := hm.bu.cell (j := 0) rfl
                      have e1 := hm.bu.cell (j := 1) rfl
                      have f0 := hm.bu.free 0
                      have f1 := hm.bu.free 1
                      have zz := hm.bu.lt
                      go_upto_region 25 with fail
                      obtain ⟨V, hV⟩ : ∃ V, V = wc.setCells ub 0 [.slice Aw2 0 cv2, .slice Ax2 is2.length cu2] := ⟨_, rfl⟩
                      have HM2 := Lib.hid (show MSt ⟨src, dst, app, ttl, src, iv, seq⟩ (.slice A l.length c) w V w.heap.size tb ub vt ut (.slice Aw2 0 cv2) (.slice Ax2 is2.length cu2) os is2 by rw [hV]; exact hm.putU hO2 hI2)
                      have HW2 := Lib.hid (show ManyP owF 13 (fun p => p.2) V (Av tb ub V) (.slice (some ⟨b4, o4, none⟩) way.length c6) way by rw [hV]; exact many_putU hw')
                      have HG2 := Lib.hid (show ManyP accF 8 (fun a => a.2) V (Av tb ub V) (.slice Ag got.length cg) got by rw [hV]; exact many_putU hG2)
                      rw [show (wc.setCell ⟨ub, 0, none⟩ (.slice Aw2 0 cv2)).setCell ⟨ub, 1, none⟩ (.slice Ax2 is2.length cu2) = V from hV.symm]
                      clear hV hbt hO2 hI2 hG2 hbx hm hw' g0 g1 e0 e1 f0 f1 zz HM HW
                      have hdl := dlv_step HRS.out.2 HKC.out
                      have hdl1 := dlv_le (s.set kk true)
                      have HGOT := Lib.hid (show got = [] ∨ got = [whole ⟨src, dst, app, ttl, src, iv, seq⟩ l] by
                        have h : got = if s.all id = false ∧ (s.set kk true).all id = true then [whole ⟨src, dst, app, ttl, src, iv, seq⟩ l] else [] := HRS.out.2
                        rw [h]
                        split
                        · exact .inr rfl
                        · exact .inl rfl)
                      generalize hgl : got.length = gl at *
                      have HGL := Lib.hid hgl
                      have hwd : IntKind.i64.wrap (((dlv s : Nat) : Int) + (gl : Int)) = ((dlv (s.set kk true) : Nat) : Int) := by rw [IntWalk.i64_in _ (by omega)]; omega
                      clear hgl hdl hdl1
                      obtain ⟨⟨due, hdu1, hdu2⟩, hgot⟩ := HRS.out
                      have HD1 := Lib.hid hdu1
                      have HD2 := Lib.hid hdu2
                      clear hdu1 hdu2 hgot
                      obtain ⟨Vo, rfl⟩ : ∃ Vo : World, Vo = V := ⟨_, rfl⟩
                      go_upto_region 26 with fail
                      go_cut [165] from 153 to 165 (fun t wx => t = .bool false ∧ Below Vo.heap.size Vo wx)
                      case first =>
                        rcases HGOT.out with hg | hg
                        · obtain rfl : gl = 0 := by rw [← HGL.out, hg]; rfl
                          clear hg
                          refine wp_region_noPanic ?_
                          refine wp_region_held_drew (S := fun _ => True) (by kernel_rfl) (by trivial) (fun hHeld => ?_)
                          refine wpAnyH_take (i := 0) (v := ?_) rfl (by kernel_rfl) (by kernel_rfl) (by kernel_rfl) (fun _ _ _ h => h) (Or.inl ⟨by rfl, ?_⟩) (by assumption) ?_
                          rotate_left
                          · intro w hSw
                            (try dsimp only at hSw)
                            go_simp
                            first | done | with_reducible rfl
                          simp only [Act.put, List.getElem_toArray, List.getElem_cons_zero, List.setIfInBounds_toArray, List.set_cons_zero, List.set_cons_succ]
                          refine wpAnyH_take (i := 1) (v := ?_) rfl (by kernel_rfl) (by kernel_rfl) (by kernel_rfl) (fun _ _ _ h => h) (Or.inl ⟨by rfl, ?_⟩) (by assumption) ?_
                          rotate_left
                          · intro w hSw
                            (try dsimp only at hSw)
                            go_simp
                            first | done | with_reducible rfl
                          simp only [Act.put, List.getElem_toArray, List.getElem_cons_succ, List.getElem_cons_zero, List.setIfInBounds_toArray, List.set_cons_zero, List.set_cons_succ]
                          refine wpAnyH_take (i := 2) (v := ?_) rfl (by kernel_rfl) (by kernel_rfl) (by kernel_rfl) (fun _ _ _ h => h) (Or.inl ⟨by rfl, ?_⟩) (by assumption) ?_
                          rotate_left
                          · intro w hSw
                            (try dsimp only at hSw)
                            go_simp
                            first | done | with_reducible rfl
                          simp only [Act.put, List.getElem_toArray, List.getElem_cons_succ, List.getElem_cons_zero, List.setIfInBounds_toArray, List.set_cons_zero, List.set_cons_succ]
                          refine wpAnyH_take (i := 3) (v := ?_) rfl (by kernel_rfl) (by kernel_rfl) (by kernel_rfl) (fun _ _ _ h => h) (Or.inl ⟨by rfl, ?_⟩) (by assumption) ?_
                          rotate_left
                          · intro w hSw
                            (try dsimp only at hSw)
                            go_simp
                            first | done | with_reducible rfl
                          simp only [Act.put, List.getElem_toArray, List.getElem_cons_succ, List.getElem_cons_zero, List.setIfInBounds_toArray, List.set_cons_zero, List.set_cons_succ]
                          refine wpAnyH_take (i := 4) (v := undef) rfl (by kernel_rfl) (by kernel_rfl) (by kernel_rfl) (fun _ _ _ h => h) (Or.inr ⟨by rfl, rfl⟩) (by assumption) ?_
                          simp only [Act.put, List.getElem_toArray, List.getElem_cons_succ, List.getElem_cons_zero, List.setIfInBounds_toArray, List.set_cons_zero, List.set_cons_succ]
                          refine wpAnyH_take (i := 5) (v := undef) rfl (by kernel_rfl) (by kernel_rfl) (by kernel_rfl) (fun _ _ _ h => h) (Or.inr ⟨by rfl, rfl⟩) (by assumption) ?_
                          simp only [Act.put, List.getElem_toArray, List.getElem_cons_succ, List.getElem_cons_zero, List.setIfInBounds_toArray, List.set_cons_zero, List.set_cons_succ]
                          refine wpAnyH_take (i := 6) (v := undef) rfl (by kernel_rfl) (by kernel_rfl) (by kernel_rfl) (fun _ _ _ h => h) (Or.inr ⟨by rfl, rfl⟩) (by assumption) ?_
                          simp only [Act.put, List.getElem_toArray, List.getElem_cons_succ, List.getElem_cons_zero, List.setIfInBounds_toArray, List.set_cons_zero, List.set_cons_succ]
                          refine wpAnyH_take (i := 7) (v := undef) rfl (by kernel_rfl) (by kernel_rfl) (by kernel_rfl) (fun _ _ _ h => h) (Or.inr ⟨by rfl, rfl⟩) (by assumption) ?_
                          simp only [Act.put, List.getElem_toArray, List.getElem_cons_succ, List.getElem_cons_zero, List.setIfInBounds_toArray, List.set_cons_zero, List.set_cons_succ]
                          refine wpAnyH_take (i := 8) (v := undef) rfl (by kernel_rfl) (by kernel_rfl) (by kernel_rfl) (fun _ _ _ h => h) (Or.inr ⟨by rfl, rfl⟩) (by assumption) ?_
                          simp only [Act.put, List.getElem_toArray, List.getElem_cons_succ, List.getElem_cons_zero, List.setIfInBounds_toArray, List.set_cons_zero, List.set_cons_succ]
                          refine wpAnyH_take (i := 9) (v := undef) rfl (by kernel_rfl) (by kernel_rfl) (by kernel_rfl) (fun _ _ _ h => h) (Or.inr ⟨by rfl, rfl⟩) (by assumption) ?_
                          simp only [Act.put, List.getElem_toArray, List.getElem_cons_succ, List.getElem_cons_zero, List.setIfInBounds_toArray, List.set_cons_zero, List.set_cons_succ]
                          refine wpAnyH_take (i := 10) (v := undef) rfl (by kernel_rfl) (by kernel_rfl) (by kernel_rfl) (fun _ _ _ h => h) (Or.inr ⟨by rfl, rfl⟩) (by assumption) ?_
                          simp only [Act.put, List.getElem_toArray, List.getElem_cons_succ, List.getElem_cons_zero, List.setIfInBounds_toArray, List.set_cons_zero, List.set_cons_succ]
                          refine wpAnyH_take (i := 11) (v := undef) rfl (by kernel_rfl) (by kernel_rfl) (by kernel_rfl) (fun _ _ _ h => h) (Or.inr ⟨by rfl, rfl⟩) (by assumption) ?_
                          simp only [Act.put, List.getElem_toArray, List.getElem_cons_succ, List.getElem_cons_zero, List.setIfInBounds_toArray, List.set_cons_zero, List.set_cons_succ]
                          refine wpAnyH_take (i := 12) (v := ?_) rfl (by kernel_rfl) (by kernel_rfl) (by kernel_rfl) (fun _ _ _ h => h) (Or.inl ⟨by rfl, ?_⟩) (by assumption) ?_
                          rotate_left
                          · intro w hSw
                            (try dsimp only at hSw)
                            go_simp
                            first | done | with_reducible rfl
                          simp only [Act.put, List.getElem_toArray, List.getElem_cons_succ, List.getElem_cons_zero, List.setIfInBounds_toArray, List.set_cons_zero, List.set_cons_succ]
                          refine wpAnyH_done (by kernel_rfl) ?_ _
                          refine NoPanic.normal ?_
                          clear hHeld
                          go_wp2_with fail
                          refine Met.intro ?_
                          go_step
                          (repeat (first | apply ex64 | apply ex16 | apply ex4 | apply Exists.intro))
                          refine ⟨?_, rfl⟩
                          exact ⟨rfl, (Below.refl _ _).drew⟩
                        · obtain rfl : gl = 1 := by rw [← HGL.out, hg]; rfl
                          have hgr := many_reads HG2.out
                          rw [hg] at hgr
                          obtain ⟨b1, o1, x1, A1, c1, hf1, hB1, k1, s1⟩ := acc_cells hgr (i := 0) (a := whole ⟨src, dst, app, ttl, src, iv, seq⟩ l) rfl
                          injection hf1 with hf1 hf2 hf3
                          clear hf2
                          subst hf1 hf3
                          have HS1 := Lib.hid s1
                          have CS := Lib.hid (show ∀ W, Below Vo.heap.size Vo W → Calls Try.prog 18 #[.slice A1 l.length c1, .slice A l.length c] W fun e w'' => e = .returned (.bool true) ∧ W = w'' from fun W hW => by
                            have h := same_any _ _ l l W (HS1.out.on hW) ((HB.out.on HM2.out.be).on hW)
                            rwa [decide_eq_true rfl] at h)
                          have d7 : Vo.cell? ⟨b1, o1 + 7, none⟩ = some (.slice A1 l.length c1) := by
                            have h := k1 7 _ rfl
                            rwa [Nat.zero_mul, Nat.add_zero] at h
                          have a7 := HM2.out.ba.cell (j := 7) rfl
                          (try dsimp only at a7)
                          clear hg k1 s1 hgr hB1 hwd
                          refine wp_region_noPanic ?_
                          refine wp_region_held_drew (S := fun w' => w'.cell? ⟨b1, o1 + 7, none⟩ = some (.slice A1 l.length c1) ∧ w'.cell? ⟨w.heap.size, 7, none⟩ = some (.slice A l.length c)) (by kernel_rfl) (by (go_keep; try omega)) (fun hHeld => ?_)
                          refine wpAnyH_take (i := 0) (v := ?_) rfl (by kernel_rfl) (by kernel_rfl) (by kernel_rfl) (fun _ _ _ h => h) (Or.inl ⟨by rfl, ?_⟩) (by assumption) ?_
                          rotate_left
                          · intro w hSw
                            (try dsimp only at hSw)
                            go_simp
                            first | done | with_reducible rfl
                          simp only [Act.put, List.getElem_toArray, List.getElem_cons_zero, List.setIfInBounds_toArray, List.set_cons_zero, List.set_cons_succ]
                          refine wpAnyH_take (i := 1) (v := ?_) rfl (by kernel_rfl) (by kernel_rfl) (by kernel_rfl) (fun _ _ _ h => h) (Or.inl ⟨by rfl, ?_⟩) (by assumption) ?_
                          rotate_left
                          · intro w hSw
                            (try dsimp only at hSw)
                            go_simp
                            first | done | with_reducible rfl
                          simp only [Act.put, List.getElem_toArray, List.getElem_cons_succ, List.getElem_cons_zero, List.setIfInBounds_toArray, List.set_cons_zero, List.set_cons_succ]
                          refine wpAnyH_take (i := 2) (v := ?_) rfl (by kernel_rfl) (by kernel_rfl) (by kernel_rfl) (fun _ _ _ h => h) (Or.inl ⟨by rfl, ?_⟩) (by assumption) ?_
                          rotate_left
                          · intro w hSw
                            (try dsimp only at hSw)
                            go_simp
                            first | done | with_reducible rfl
                          simp only [Act.put, List.getElem_toArray, List.getElem_cons_succ, List.getElem_cons_zero, List.setIfInBounds_toArray, List.set_cons_zero, List.set_cons_succ]
                          refine wpAnyH_take (i := 3) (v := ?_) rfl (by kernel_rfl) (by kernel_rfl) (by kernel_rfl) (fun _ _ _ h => h) (Or.inl ⟨by rfl, ?_⟩) (by assumption) ?_
                          rotate_left
                          · intro w hSw
                            (try dsimp only at hSw)
                            go_simp
                            first | done | with_reducible rfl
                          simp only [Act.put, List.getElem_toArray, List.getElem_cons_succ, List.getElem_cons_zero, List.setIfInBounds_toArray, List.set_cons_zero, List.set_cons_succ]
                          refine wpAnyH_take (i := 4) (v := ?_) rfl (by kernel_rfl) (by kernel_rfl) (by kernel_rfl) (fun _ _ _ h => h) (Or.inl ⟨by rfl, ?_⟩) (by assumption) ?_
                          rotate_left
                          · intro w hSw
                            (try dsimp only at hSw)
                            go_simp
                            first | done | with_reducible rfl
                          simp only [Act.put, List.getElem_toArray, List.getElem_cons_succ, List.getElem_cons_zero, List.setIfInBounds_toArray, List.set_cons_zero, List.set_cons_succ]
                          refine wpAnyH_take (i := 5) (v := ?_) rfl (by kernel_rfl) (by kernel_rfl) (by kernel_rfl) (fun _ _ _ h => h) (Or.inl ⟨by rfl, ?_⟩) (by assumption) ?_
                          rotate_left
                          · intro w hSw
                            (try dsimp only at hSw)
                            go_simp
                            first | done | with_reducible rfl
                          simp only [Act.put, List.getElem_toArray, List.getElem_cons_succ, List.getElem_cons_zero, List.setIfInBounds_toArray, List.set_cons_zero, List.set_cons_succ]
                          refine wpAnyH_take (i := 6) (v := ?_) rfl (by kernel_rfl) (by kernel_rfl) (by kernel_rfl) (fun _ _ _ h => h) (Or.inl ⟨by rfl, ?_⟩) (by assumption) ?_
                          rotate_left
                          · intro w hSw
                            (try dsimp only at hSw)
                            go_simp
                            first | done | with_reducible rfl
                          simp only [Act.put, List.getElem_toArray, List.getElem_cons_succ, List.getElem_cons_zero, List.setIfInBounds_toArray, List.set_cons_zero, List.set_cons_succ]
                          refine wpAnyH_take (i := 7) (v := ?_) rfl (by kernel_rfl) (by kernel_rfl) (by kernel_rfl) (fun _ _ _ h => h) (Or.inl ⟨by rfl, ?_⟩) (by assumption) ?_
                          rotate_left
                          · intro w hSw
                            (try dsimp only at hSw)
                            go_simp
                            first | done | with_reducible rfl
                          simp only [Act.put, List.getElem_toArray, List.getElem_cons_succ, List.getElem_cons_zero, List.setIfInBounds_toArray, List.set_cons_zero, List.set_cons_succ]
                          refine wpAnyH_take (i := 8) (v := ?_) rfl (by kernel_rfl) (by kernel_rfl) (by kernel_rfl) (fun _ _ _ h => h) (Or.inl ⟨by rfl, ?_⟩) (by assumption) ?_
                          rotate_left
                          · intro w hSw
                            (try dsimp only at hSw)
                            go_simp
                            first | done | with_reducible rfl
                          simp only [Act.put, List.getElem_toArray, List.getElem_cons_succ, List.getElem_cons_zero, List.setIfInBounds_toArray, List.set_cons_zero, List.set_cons_succ]
                          refine wpAnyH_take (i := 9) (v := ?_) rfl (by kernel_rfl) (by kernel_rfl) (by kernel_rfl) (fun _ _ _ h => h) (Or.inl ⟨by rfl, ?_⟩) (by assumption) ?_
                          rotate_left
                          · intro w hSw
                            (try dsimp only at hSw)
                            go_simp
                            first | done | with_reducible rfl
                          simp only [Act.put, List.getElem_toArray, List.getElem_cons_succ, List.getElem_cons_zero, List.setIfInBounds_toArray, List.set_cons_zero, List.set_cons_succ]
                          refine wpAnyH_ready (rs := [10]) (by kernel_rfl) (by simp) ?_
                          refine AllReadyH.cons rfl (fun K hK => ?_) AllReadyH.nil
                          go_simp
                          refine (CS.out _ ((Below.refl _ _).drew)).mono ?_
                          rintro e w6 ⟨rfl, rfl⟩
                          first | (refine hK.out _ _ ?_ (fun hHeld => ?_)) | (go_wp2_with fail; refine hK.out _ _ ?_ (fun hHeld => ?_))
                          · (go_keep; try omega)
                          clear hK K
                          try simp only [Act.put, List.getElem_toArray, List.getElem_cons_succ, List.getElem_cons_zero, List.setIfInBounds_toArray, List.set_cons_zero, List.set_cons_succ]
                          refine wpAnyH_take (i := 11) (v := ?_) rfl (by kernel_rfl) (by kernel_rfl) (by kernel_rfl) (fun _ _ _ h => h) (Or.inl ⟨by rfl, ?_⟩) (by assumption) ?_
                          rotate_left
                          · intro w hSw
                            (try dsimp only at hSw)
                            go_simp
                            first | done | with_reducible rfl
                          simp only [Act.put, List.getElem_toArray, List.getElem_cons_succ, List.getElem_cons_zero, List.setIfInBounds_toArray, List.set_cons_zero, List.set_cons_succ]
                          refine wpAnyH_take (i := 12) (v := ?_) rfl (by kernel_rfl) (by kernel_rfl) (by kernel_rfl) (fun _ _ _ h => h) (Or.inl ⟨by rfl, ?_⟩) (by assumption) ?_
                          rotate_left
                          · intro w hSw
                            (try dsimp only at hSw)
                            go_simp
                            first | done | with_reducible rfl
                          simp only [Act.put, List.getElem_toArray, List.getElem_cons_succ, List.getElem_cons_zero, List.setIfInBounds_toArray, List.set_cons_zero, List.set_cons_succ]
                          refine wpAnyH_done (by kernel_rfl) ?_ _
                          refine NoPanic.normal ?_
                          clear hHeld d7 a7 CS
                          go_wp2_with fail
                          refine Met.intro ?_
                          go_step
                          (repeat (first | apply ex64 | apply ex16 | apply ex4 | apply Exists.intro))
                          refine ⟨?_, rfl⟩
                          exact ⟨rfl, (Below.refl _ _).drew⟩
                      case rest =>
                        obtain ⟨rfl, hbv⟩ := hcut
                        have HM3 := Lib.hid (HM2.out.on hbv)
                        have HW3 := Lib.hid (many_on HW2.out hbv)
                        clear hbv
                        go_wp2_with fail
                        go_roundw
                        case rel => exact ⟨j + 1, s.set kk true, is2, _, _, n1, ab2, by omega, by go_num, rfl, HN1.out, rfl, rfl, by rw [List.length_set]; exact HSC.out, .inr ⟨due, HD1.out⟩, HWF2.out, HOR.out.set kk, HM3.out, HW3.out, by rw [HAB.out]; exact HFIN.out.step HSC.out HAT.out HKC.out HD1.out (fun h => HD2.out h HND.out)⟩
                        case measure => simp [intOf]; omega
                  · go_wp2_with fail
                    go_roundw
                    case rel => exact ⟨j + 1, s, is, _, _, n1, ab2, by omega, by go_num, rfl, HN1.out, rfl, rfl, hsC, hwr, hwf, hor, HM.out, HW.out, by rw [HAB.out]; exact Fin3.lost⟩
                    case measure => simp [intOf]; omega
            · skip
              have hje : j = way.length := by omega
              have HM := Lib.hid hM
              have hz1 := hM.bt.lt
              have hz2 := hM.bu.lt
              have HFIN := Lib.hid (show Fin4 ab os s (acksO is (t : Int)) 0 from Fin3.acks (by rw [hje] at hfin; exact hfin) (by omega))
              obtain ⟨hwr3, hako⟩ := acks_step (t : Int) hwr
              have HAKO := Lib.hid hako
              have HWR3 := Lib.hid hwr3
              have HWF3 := Lib.hid (wf_acks hwf (t : Int))
              have HOR := Lib.hid hor
              have HSC := Lib.hid hsC
              have hnn2 : nn ≤ 33 * (t - 1) + 32 := by have := hway.1; omega
              obtain ⟨Aw, cv, rfl⟩ := hM.ou.form
              obtain ⟨Ax, cu, rfl⟩ := hM.iu.form
              have CA := Lib.hid (acks_any [] is (t : Int) (.slice Aw ([] : List OutS).length cv) (.slice Ax is.length cu) wr (row_reads hM.ou) (row_reads hM.iu) ⟨by simp, fun _ h => by simp at h⟩ hwf.sized)
              have e0 := hM.bu.cell (j := 0) rfl
              have e1 := hM.bu.cell (j := 1) rfl
              unfold AcksPost at CA
              generalize acksO is (t : Int) = ak at *
              generalize acksI is (t : Int) = is3 at *
              have hak1 : ak.length ≤ 1 := by
                rcases HAKO.out with h | ⟨_, h⟩
                · rw [h]; simp
                · rw [h]; simp
              clear hM hW hfin hwr hwf hor hsC hje hako hwr3 hj hnn
              go_wp2_with fail
              refine CA.out.mono ?_
              rintro e w6 ⟨hb6, v6, u6, x6, rfl, hO6, hI6, hX6⟩
              obtain ⟨Aw2, cv2, rfl⟩ := rowV_form hO6.weak
              obtain ⟨Ax2, cu2, rfl⟩ := rowV_form hI6.weak
              obtain ⟨Ak, ck, rfl⟩ := hX6.form
              have hm := HM.out.on hb6
              have hO7 := row_new hO6 hz1 hz2
              have hI7 := row_new hI6 hz1 hz2
              have hX7 := many_new hX6 hz1 hz2
              have x0 := hm.bu.cell (j := 0) rfl
              have x1 := hm.bu.cell (j := 1) rfl
              have f0 := hm.bu.free 0
              have f1 := hm.bu.free 1
              have zz := hm.bu.lt
              clear e0 e1 hO6 hI6 hX6 CA hz1 hz2
              go_upto_region 30 with fail
              obtain ⟨V, hV⟩ : ∃ V, V = (w6.setCells ub 0 [.slice Aw2 0 cv2, .slice Ax2 is3.length cu2]).alloc (.cells #[.slice Aw2 0 cv2, .slice Ax2 is3.length cu2] 47) := ⟨_, rfl⟩
              have HM2 := Lib.hid (show MSt ⟨src, dst, app, ttl, src, iv, seq⟩ (.slice A l.length c) w V w.heap.size tb ub vt ut (.slice Aw2 0 cv2) (.slice Ax2 is3.length cu2) os is3 by rw [hV]; exact (hm.putU hO7 hI7).on (al1 _ _))
              have HX2 := Lib.hid (show ManyP owF 13 (fun p => p.2) V (Av tb ub V) (.slice Ak ak.length ck) ak by rw [hV]; exact many_on (many_putU hX7) (al1 _ _))
              rw [show ((w6.setCell ⟨ub, 0, none⟩ (.slice Aw2 0 cv2)).setCell ⟨ub, 1, none⟩ (.slice Ax2 is3.length cu2)).alloc (.cells #[.slice Aw2 0 cv2, .slice Ax2 is3.length cu2] 47) = V from hV.symm]
              clear hV hO7 hI7 hX7 hm x0 x1 f0 f1 zz HM hb6
              go_wp2_with fail
              go_loopw [22, 11, 13] (fun i n an wq => ∃ (j : Nat) (os : List OutS) (vt ut : Value) (nn : Nat) (ab : Bool), j ≤ ak.length ∧ i = .int .i64 j ∧ n = .int .i64 nn ∧ nn ≤ 33 * (t - 1) + 32 + j ∧ an = .bool ab ∧ ORel ⟨src, dst, app, ttl, src, iv, seq⟩ l s os ∧ MSt ⟨src, dst, app, ttl, src, iv, seq⟩ (.slice A l.length c) w wq w.heap.size tb ub vt ut (.slice Aw2 0 cv2) (.slice Ax2 is3.length cu2) os is3 ∧ ManyP owF 13 (fun p => p.2) wq (Av tb ub wq) (.slice Ak ak.length ck) ak ∧ Fin4 ab os s ak j) (fun i _ _ _ => ak.length - (intOf i).toNat)
              case atStart => exact ⟨0, os, _, _, nn, ab, Nat.zero_le _, rfl, rfl, by omega, rfl, HOR.out, HM2.out, HX2.out, HFIN.out⟩
              clear HM2 HX2 HOR HFIN hnn2
              case round =>
                obtain ⟨j, os, vt, ut, nn, ab, hj, rfl, rfl, hnn, rfl, hor, hM, hX, hfin⟩ := hrel
                by_cases hlj : j < ak.length
                · obtain ⟨g, hg⟩ : ∃ g, g = lostAt lo nn := ⟨_, rfl⟩
                  have HG := Lib.hid hg
                  clear hg
                  have HLO := Lib.hid (HO.out.on hM.be)
                  obtain ⟨wo, rfl⟩ : ∃ wo : World, wo = wr := ⟨_, rfl⟩
                  have HM := Lib.hid hM
                  have HX := Lib.hid hX
                  clear hM hX
                  obtain ⟨n1, hn1⟩ : ∃ n1, n1 = nn + 1 := ⟨_, rfl⟩
                  have hn1b : n1 ≤ 33 * (t - 1) + 32 + (j + 1) := by omega
                  have hw1 : IntKind.i64.wrap ((nn : Int) + 1) = (n1 : Int) := by rw [IntWalk.i64_in _ (by omega)]; omega
                  have HN1 := Lib.hid hn1b
                  clear hn1 hn1b
                  go_upto_region 33 with fail
                  go_cut [23] from 179 to 188 (fun t wx => t = .bool g ∧ wx = wo)
                  case first =>
                    by_cases hnl : nn < lo.length
                    · obtain ⟨bo, oo, cc, hfo, hbo, _, _, hco⟩ := HLO.out.at_ (show (lo.map fun b => Value.bool b)[nn]? = some (.bool g) by rw [List.getElem?_map, HG.out]; unfold lostAt; rw [List.getD_eq_getElem?_getD, List.getElem?_eq_getElem hnl]; rfl)
                      injection hfo with hfo1 _ hfo3
                      subst hfo1 hfo3
                      have qn : (nn : Int) < (lo.length : Int) := by omega
                      have qn0 : (0 : Int) ≤ (nn : Int) := by omega
                      clear hnl HG
                      go_wp2_with fail
                      refine Met.intro ?_
                      go_step
                      (repeat (first | apply ex64 | apply ex16 | apply ex4 | apply Exists.intro))
                      refine ⟨?_, rfl⟩
                      exact ⟨rfl, rfl⟩
                    · have hg0 : g = false := by rw [HG.out]; unfold lostAt; rw [List.getD_eq_getElem?_getD, List.getElem?_eq_none (by omega)]; rfl
                      have qn : decide ((nn : Int) < (lo.length : Int)) = false := decide_eq_false (by omega)
                      clear HG
                      subst hg0
                      go_wp2_with fail
                      refine Met.intro ?_
                      go_step
                      (repeat (first | apply ex64 | apply ex16 | apply ex4 | apply Exists.intro))
                      refine ⟨?_, rfl⟩
                      exact ⟨rfl, rfl⟩
                  case rest =>
                    obtain ⟨rfl, rfl⟩ := hcut
                    obtain ⟨wp, rfl⟩ : ∃ wp : World, wp = wc := ⟨_, rfl⟩
                    obtain ⟨ab2, hab2⟩ : ∃ ab2, ab2 = (ab || g) := ⟨_, rfl⟩
                    have HAB := Lib.hid hab2
                    clear hab2
                    go_upto_region 34 with fail
                    go_cut [13] from 189 to 192 (fun t wx => t = .bool ab2 ∧ wx = wp)
                    case first =>
                      rcases ab with _ | _
                      all_goals
                        go_wp2_with fail
                        refine Met.intro ?_
                        go_step
                        (repeat (first | apply ex64 | apply ex16 | apply ex4 | apply Exists.intro))
                        refine ⟨?_, rfl⟩
                        exact ⟨by rw [HAB.out]; cases g <;> rfl, rfl⟩
                    case rest =>
                      obtain ⟨rfl, rfl⟩ := hcut
                      rcases g with _ | _
                      · skip
                        obtain ⟨Wq, rfl⟩ : ∃ Wq : World, Wq = wc := ⟨_, rfl⟩
                        obtain ⟨tl, hak⟩ : ∃ tl, ak[j]? = some (ackP ⟨src, dst, app, ttl, src, iv, seq⟩ s tl) := by
                          rcases HAKO.out with h | ⟨tl, h⟩
                          · rw [h] at hlj; simp at hlj
                          · refine ⟨tl, ?_⟩
                            rw [h] at hlj ⊢
                            have : j = 0 := by simpa using hlj
                            subst this
                            rfl
                        obtain ⟨b4, o4, c4', ul, hf4, hb4, hc4, hs4⟩ := outws_at (many_reads HX.out) hak
                        injection hf4 with hf41 _ hf43
                        subst hf41 hf43
                        obtain ⟨Al, cl, rfl, _⟩ := id hs4
                        obtain ⟨Aw, cv, rfl⟩ := HM.out.ot.form
                        obtain ⟨Ax, cu, rfl⟩ := HM.out.it.form
                        obtain ⟨_, hso, hwo⟩ := hor.wf (HSC.out.trans HC.out) (by rw [← HC.out]; exact hC1) hs
                        have hst := acked_step tl hor (HSC.out.trans HC.out) HND.out
                        have hbk := blk_small HSC.out hC1
                        have CR := Lib.hid (fun (W : World) (hW : Below Wq.heap.size Wq W) => acked_any os [] dst (ackP ⟨src, dst, app, ttl, src, iv, seq⟩ s tl).1.low [] hbk (.slice Aw os.length cv) (.slice Ax ([] : List InS).length cu) (.slice Al 0 cl) W ((row_reads HM.out.ot).on hW) ((row_reads HM.out.it).on hW) (hs4.on hW) hso ⟨by simp, fun _ h => by simp at h⟩ (fun o ho => ⟨(hwo o ho).1, (hwo o ho).2.1⟩))
                        have HST := Lib.hid hst
                        have HFIN := Lib.hid hfin
                        unfold AckedPost at CR
                        rw [show ([] : List UInt8).length = 0 from rfl] at CR
                        generalize ackedT os dst (ackP ⟨src, dst, app, ttl, src, iv, seq⟩ s tl).1.low 0 = rr at *
                        have d0 : Wq.cell? ⟨b4, o4 + j * 13, none⟩ = some (.int .u16 (dst : Int)) := hc4 0 _ rfl
                        have d3 : Wq.cell? ⟨b4, o4 + j * 13 + 3, none⟩ = some (.bool true) := hc4 3 _ rfl
                        have d4 : Wq.cell? ⟨b4, o4 + j * 13 + 4, none⟩ = some (.bool false) := hc4 4 _ rfl
                        have d5 : Wq.cell? ⟨b4, o4 + j * 13 + 5, none⟩ = some (.bool false) := hc4 5 _ rfl
                        have d6 : Wq.cell? ⟨b4, o4 + j * 13 + 6, none⟩ = some (.int .i64 ((seq % 8192 : Nat) : Int)) := hc4 6 _ rfl
                        have d7 : Wq.cell? ⟨b4, o4 + j * 13 + 7, none⟩ = some (.int .i64 0) := hc4 7 _ rfl
                        have d8 : Wq.cell? ⟨b4, o4 + j * 13 + 8, none⟩ = some (.int .i64 0) := hc4 8 _ rfl
                        have d9 : Wq.cell? ⟨b4, o4 + j * 13 + 9, none⟩ = some (.int .i64 0) := hc4 9 _ rfl
                        have d10 : Wq.cell? ⟨b4, o4 + j * 13 + 10, none⟩ = some (.int .u32 (blkOf s : Int)) := hc4 10 _ rfl
                        have d11 : Wq.cell? ⟨b4, o4 + j * 13 + 11, none⟩ = some (.bool false) := hc4 11 _ rfl
                        have d12 : Wq.cell? ⟨b4, o4 + j * 13 + 12, none⟩ = some (.slice Al 0 cl) := hc4 12 _ rfl
                        unfold ackP at CR
                        dsimp only at CR
                        generalize ((seq % 8192 : Nat) : Int) = zq at *
                        generalize blkOf s = bk at *
                        obtain ⟨os2, dn⟩ := rr
                        dsimp only at CR
                        have e0 := HM.out.bt.cell (j := 0) rfl
                        have e1 := HM.out.bt.cell (j := 1) rfl
                        have zu : ub < Wq.heap.size := HM.out.bu.lt
                        have zt : tb < Wq.heap.size := HM.out.bt.lt
                        have ij : (j : Int) < (ak.length : Int) := by omega
                        have i0 : (0 : Int) ≤ (j : Int) := by omega
                        clear hc4 hs4 hst hfin hor hak hso hwo hbk
                        go_upto_region 37 with fail
                        go_cut [24, 25] from 193 to 210 (fun t24 t25 wx => ∃ (bt : Nat) (v u : Value), t24 = .pointer (some ⟨bt, 0, none⟩) ∧ t25 = .bool dn ∧ Box wx bt [v, u] ∧ RowP outCs 10 OutS.parts wx (Av tb ub wx) v os2 ∧ RowP inCs 11 InS.parts wx (Av tb ub wx) u [] ∧ Below Wq.heap.size Wq wx)
                        case first =>
                          go_region_held3 (fun w' => w'.cell? ⟨tb, 0, none⟩ = some (.slice Aw os.length cv) ∧ w'.cell? ⟨tb, 1, none⟩ = some (.slice Ax ([] : List InS).length cu) ∧ w'.cell? ⟨b4, o4 + j * 13, none⟩ = some (.int .u16 (dst : Int)) ∧ w'.cell? ⟨b4, o4 + j * 13 + 3, none⟩ = some (.bool true) ∧ w'.cell? ⟨b4, o4 + j * 13 + 4, none⟩ = some (.bool false) ∧ w'.cell? ⟨b4, o4 + j * 13 + 5, none⟩ = some (.bool false) ∧ w'.cell? ⟨b4, o4 + j * 13 + 6, none⟩ = some (.int .i64 zq) ∧ w'.cell? ⟨b4, o4 + j * 13 + 7, none⟩ = some (.int .i64 0) ∧ w'.cell? ⟨b4, o4 + j * 13 + 8, none⟩ = some (.int .i64 0) ∧ w'.cell? ⟨b4, o4 + j * 13 + 9, none⟩ = some (.int .i64 0) ∧ w'.cell? ⟨b4, o4 + j * 13 + 10, none⟩ = some (.int .u32 (bk : Int)) ∧ w'.cell? ⟨b4, o4 + j * 13 + 11, none⟩ = some (.bool false) ∧ w'.cell? ⟨b4, o4 + j * 13 + 12, none⟩ = some (.slice Al 0 cl)) (go_keep)
                            (first
                              | (go_at_call 27; refine (CR.out Wq.drew ((Below.refl _ _).drew)).mono ?_; rintro e w6 ⟨hb6', v', u', rfl, hO', hI'⟩
                                 have hb6 : Below Wq.heap.size Wq w6 := ((Below.refl _ _).drew).trans hb6'
                                 have hc6 := bfar Wq.heap.size hb6 (Nat.le_refl _)
                                 have hz6 : Wq.heap.size ≤ w6.heap.size := hb6.size
                                 have y8 : tb < w6.heap.size := Nat.lt_of_lt_of_le zt hz6
                                 have yb : b4 < w6.heap.size := Nat.lt_of_lt_of_le hb4 hz6
                                 have hO6 := hO'.mono (show Wq.heap.size ≤ Wq.drew.heap.size from Nat.le_refl _) (Nat.le_refl _)
                                 have hI6 := hI'.mono (show Wq.heap.size ≤ Wq.drew.heap.size from Nat.le_refl _) (Nat.le_refl _)
                                 obtain ⟨Aw2, cv2, rfl⟩ := rowV_form hO'.weak
                                 obtain ⟨Ax2, cu2, rfl⟩ := rowV_form hI'.weak)
                              | (go_at_call 27; refine (CR.out (Wq.alloc (.cells #[.slice none 0 0, .slice none 0 0] 47)).drew ((al1 _ _).drew)).mono ?_; rintro e w6 ⟨hb6', v', u', rfl, hO', hI'⟩
                                 have hb6 : Below Wq.heap.size Wq w6 := ((al1 Wq _).drew).trans (hb6'.mono (by simp))
                                 have hc6 := bfar Wq.heap.size hb6 (Nat.le_refl _)
                                 have hz6 : Wq.heap.size < w6.heap.size := Nat.lt_of_lt_of_le (by simp) hb6'.size
                                 have y8 : tb < w6.heap.size := Nat.lt_trans zt hz6
                                 have yb : b4 < w6.heap.size := Nat.lt_trans hb4 hz6
                                 have n8 : Wq.heap.size ≠ tb := Nat.ne_of_gt zt
                                 have nb : Wq.heap.size ≠ b4 := Nat.ne_of_gt hb4
                                 have hbz : Box w6 Wq.heap.size [.slice none 0 0, .slice none 0 0] := (Box.new Wq _ _).on ((Below.refl _ _).drew.trans hb6')
                                 have y0 := hbz.cell (j := 0) rfl
                                 have y1 := hbz.cell (j := 1) rfl
                                 have yf0 := hbz.free 0
                                 have yf1 := hbz.free 1
                                 have hO6 := hO'.mono (show Wq.heap.size + 1 ≤ _ by simp) (Nat.le_refl _)
                                 have hI6 := hI'.mono (show Wq.heap.size + 1 ≤ _ by simp) (Nat.le_refl _)
                                 obtain ⟨Aw2, cv2, rfl⟩ := rowV_form hO'.weak
                                 obtain ⟨Ax2, cu2, rfl⟩ := rowV_form hI'.weak))
                          all_goals
                            clear e0 e1 d0 d3 d4 d5 d6 d7 d8 d9 d10 d11 d12
                            go_wp2_with fail
                            refine Met.intro ?_
                            go_step
                            (repeat (first | apply ex64 | apply ex16 | apply ex4 | apply Exists.intro))
                            refine ⟨?_, rfl⟩
                          all_goals
                            first
                              | (refine ⟨w6.heap.size, .slice Aw2 os2.length cv2, .slice Ax2 ([] : List InS).length cu2, rfl, rfl, ?_, row_new (hO6.on (al1 _ _)) zt zu, row_new (hI6.on (al1 _ _)) zt zu, hb6.alloc hb6.size _⟩
                                 exact Box.new w6 _ _)
                              | (refine ⟨Wq.heap.size, .slice Aw2 os2.length cv2, .slice Ax2 ([] : List InS).length cu2, rfl, rfl, ?_, ?_, ?_, (hb6.setCell (Nat.le_refl _) _).setCell (Nat.le_refl _) _⟩
                                 · exact hbz.put [.slice Aw2 os2.length cv2, .slice Ax2 ([] : List InS).length cu2] rfl
                                 · exact row_new (((hO6.far (Nat.lt_succ_self _) 0 _).far (Nat.lt_succ_self _) 1 _).mono (Nat.le_refl _) (by simp)) (by omega) (by omega)
                                 · exact row_new (((hI6.far (Nat.lt_succ_self _) 0 _).far (Nat.lt_succ_self _) 1 _).mono (Nat.le_refl _) (by simp)) (by omega) (by omega))
                              | fail
                        case rest =>
                          obtain ⟨bt, v2, u2, rfl, rfl, hbt, hO2, hI2, hbx⟩ := hcut
                          obtain ⟨Aw2, cv2, rfl⟩ := hO2.form
                          obtain ⟨Ax2, cu2, rfl⟩ := hI2.form
                          have hm := HM.out.on hbx
                          have hx' := many_on HX.out hbx
                          clear e0 e1 d0 d3 d4 d5 d6 d7 d8 d9 d10 d11 d12 zu zt hb4 CR
                          have g0 := hbt.cell (j := 0) rfl
                          have g1 := hbt.cell (j := 1) rfl
                          have x0 := hm.bt.cell (j := 0) rfl
                          have x1 := hm.bt.cell (j := 1) rfl
                          have f0 := hm.bt.free 0
                          have f1 := hm.bt.free 1
                          have zz := hm.bt.lt
                          go_upto_region 39 with fail
                          obtain ⟨V, hV⟩ : ∃ V, V = wc.setCells tb 0 [.slice Aw2 os2.length cv2, .slice Ax2 0 cu2] := ⟨_, rfl⟩
                          have HM2 := Lib.hid (show MSt ⟨src, dst, app, ttl, src, iv, seq⟩ (.slice A l.length c) w V w.heap.size tb ub (.slice Aw2 os2.length cv2) (.slice Ax2 0 cu2) _ _ os2 is3 by rw [hV]; exact hm.putT hO2 hI2)
                          have HX2 := Lib.hid (show ManyP owF 13 (fun p => p.2) V (Av tb ub V) (.slice (some ⟨b4, o4, none⟩) ak.length ck) ak by rw [hV]; exact many_putT hx')
                          rw [show (wc.setCell ⟨tb, 0, none⟩ (.slice Aw2 os2.length cv2)).setCell ⟨tb, 1, none⟩ (.slice Ax2 0 cu2) = V from hV.symm]
                          clear hV hbt hO2 hI2 hbx hm hx' g0 g1 x0 x1 f0 f1 zz HM HX
                          obtain ⟨Vo, rfl⟩ : ∃ Vo : World, Vo = V := ⟨_, rfl⟩
                          go_upto_region 39 with fail
                          go_cut [216] from 212 to 216 (fun t wx => t = .bool false ∧ wx = Vo)
                          case first =>
                            rcases dn with _ | _
                            · go_wp2_with fail
                              refine Met.intro ?_
                              go_step
                              (repeat (first | apply ex64 | apply ex16 | apply ex4 | apply Exists.intro))
                              refine ⟨?_, rfl⟩
                              exact ⟨rfl, rfl⟩
                            · have hq1 : dlv s = 1 := if_pos (HST.out.2.1 rfl)
                              have hq2 : (((dlv s : Nat) : Int) != 1) = false := by rw [hq1]; rfl
                              clear hq1
                              go_wp2_with fail
                              refine Met.intro ?_
                              go_step
                              (repeat (first | apply ex64 | apply ex16 | apply ex4 | apply Exists.intro))
                              refine ⟨?_, rfl⟩
                              exact ⟨rfl, rfl⟩
                          case rest =>
                            obtain ⟨rfl, rfl⟩ := hcut
                            go_wp2_with fail
                            go_roundw
                            case rel => exact ⟨j + 1, os2, _, _, n1, ab2, by omega, by go_num, rfl, HN1.out, rfl, HST.out.1, HM2.out, HX2.out, by rw [HAB.out]; exact HFIN.out.step HST.out.2.2⟩
                            case measure => simp [intOf]; omega
                      · go_wp2_with fail
                        go_roundw
                        case rel => exact ⟨j + 1, os, _, _, n1, ab2, by omega, by go_num, rfl, HN1.out, rfl, hor, HM.out, HX.out, by rw [HAB.out]; exact Fin4.lost⟩
                        case measure => simp [intOf]; omega
                · skip
                  have hje : j = ak.length := by omega
                  have hfd := hfin.done hje
                  have HFD := Lib.hid hfd
                  have HM := Lib.hid hM
                  have hz1 := hM.bt.lt
                  have hz2 := hM.bu.lt
                  obtain ⟨hol, hso, hwo⟩ := hor.wf (HSC.out.trans HC.out) (by rw [← HC.out]; exact hC1) hs
                  obtain ⟨hor2, hway2, hnil2⟩ := again_step (t : Int) hor (HSC.out.trans HC.out) (by rw [← HC.out]; exact hC1) HND.out
                  have HOR2 := Lib.hid hor2
                  have HWAY2 := Lib.hid hway2
                  have HNIL2 := Lib.hid hnil2
                  have hnn3 : nn ≤ 33 * (t + 1 - 1) := by omega
                  obtain ⟨Aw, cv, rfl⟩ := hM.ot.form
                  obtain ⟨Ax, cu, rfl⟩ := hM.it.form
                  have CA := Lib.hid (again_any os [] (t : Int) (.slice Aw os.length cv) (.slice Ax ([] : List InS).length cu) wr (row_reads hM.ot) (row_reads hM.it) hso ⟨by simp, fun _ h => by simp at h⟩ hwo (by omega) (by omega))
                  have e0 := hM.bt.cell (j := 0) rfl
                  have e1 := hM.bt.cell (j := 1) rfl
                  unfold AgainPost at CA
                  generalize againO os (t : Int) = os3 at *
                  generalize againA os (t : Int) = way3 at *
                  generalize againL os (t : Int) = lost3 at *
                  clear hM hX hfin hor hje hj hnn hfd hor2 hway2 hnil2 hso hwo hol
                  go_wp2_with fail
                  refine CA.out.mono ?_
                  rintro e w6 ⟨hb6, v6, u6, x6, y6, rfl, hO6, hI6, hX6, hY6⟩
                  obtain ⟨Aw2, cv2, rfl⟩ := rowV_form hO6.weak
                  obtain ⟨Ax2, cu2, rfl⟩ := rowV_form hI6.weak
                  obtain ⟨Ak2, ck2, rfl⟩ := hX6.form
                  have hm := HM.out.on hb6
                  have hO7 := row_new hO6 hz1 hz2
                  have hI7 := row_new hI6 hz1 hz2
                  have hX7 := many_new hX6 hz1 hz2
                  have x0 := hm.bt.cell (j := 0) rfl
                  have x1 := hm.bt.cell (j := 1) rfl
                  have f0 := hm.bt.free 0
                  have f1 := hm.bt.free 1
                  have zz := hm.bt.lt
                  clear e0 e1 hO6 hI6 hX6 hY6 CA hz1 hz2
                  go_upto_region 43 with fail
                  obtain ⟨V, hV⟩ : ∃ V, V = (w6.setCells tb 0 [.slice Aw2 os3.length cv2, .slice Ax2 0 cu2]).alloc (.cells #[.slice Aw2 os3.length cv2, .slice Ax2 0 cu2] 47) := ⟨_, rfl⟩
                  have HM2 := Lib.hid (show MSt ⟨src, dst, app, ttl, src, iv, seq⟩ (.slice A l.length c) w V w.heap.size tb ub (.slice Aw2 os3.length cv2) (.slice Ax2 0 cu2) _ _ os3 is3 by rw [hV]; exact (hm.putT hO7 hI7).on (al1 _ _))
                  have HX2 := Lib.hid (show ManyP owF 13 (fun p => p.2) V (Av tb ub V) (.slice Ak2 way3.length ck2) way3 by rw [hV]; exact many_on (many_putT hX7) (al1 _ _))
                  rw [show ((w6.setCell ⟨tb, 0, none⟩ (.slice Aw2 os3.length cv2)).setCell ⟨tb, 1, none⟩ (.slice Ax2 0 cu2)).alloc (.cells #[.slice Aw2 os3.length cv2, .slice Ax2 0 cu2] 47) = V from hV.symm]
                  clear hV hO7 hI7 hX7 hm x0 x1 f0 f1 zz HM hb6
                  have hwt : IntKind.i64.wrap ((t : Int) + 1) = ((t + 1 : Nat) : Int) := by rw [IntWalk.i64_in _ (by omega)]; push_cast; rfl
                  go_wp2_with fail
                  go_roundw
                  case rel => exact ⟨t + 1, s, os3, is3, way3, _, _, _, _, nn, ab, by omega, by omega, by go_num, rfl, hnn3, rfl, rfl, HSC.out, HWR3.out, HWF3.out, HOR2.out, HWAY2.out, HM2.out, HX2.out, by
                    rcases HFD.out with h | ⟨h1, h2⟩
                    · exact .inl h
                    · exact .inr (.inl ⟨HNIL2.out h1, h2⟩)⟩
                  case measure => simp [intOf]; omega
        · skip
          have htt : t = 200 := by omega
          have hfd : ab = true ∨ (os = [] ∧ s.all id = true) := by
            rcases hfin with h | h | ⟨h, _, _⟩
            · exact .inl h
            · exact .inr h
            · omega
          have hdl := dlv_le s
          have HM := Lib.hid hM
          have HFD := Lib.hid hfd
          obtain ⟨Aw, cv, rfl⟩ := hM.ot.form
          clear hM hW hfin hfd hwr hwf hor hway hnn
          go_wp2_with fail
          refine (lives_any _).mono ?_
          rintro e w4 ⟨rfl, hb4⟩
          have HA4 := Lib.hid (bthen HM.out.be hb4)
          have k0 := (HM.out.bt.on hb4).cell (j := 0) rfl
          clear hb4
          have qd : ((dlv s : Nat) : Int) ≤ 1 := by omega
          rcases ab with _ | _
          · rcases HFD.out with h | ⟨h1, h2⟩
            · cases h
            · subst h1
              have hd1 : dlv s = 1 := if_pos h2
              rw [hd1]
              go_wp2
              go_ret
              exact ⟨rfl, HA4.out⟩
          · go_wp2
            go_ret
            exact ⟨rfl, HA4.out⟩

theorem transportAcknowledges_walk (a : AccS) (l : List UInt8) (lo : List Bool) (hl : l.length ≤ 9223372036854775807) (hs : a.seq < 4294967296) (bv lv : Value) (w : World) (hb : BS w w.heap.size bv l) (hlo : Sl w w.heap.size 1 lv lo.length (lo.map fun b => .bool b)) : Calls Try.prog 9 #[accV a bv, lv] w fun e w' => e = .returned (.bool true) ∧ Below w.heap.size w w' := by
  by_cases h1 : l.length ≤ 15
  · exact ack_early a l lo hl hs bv lv w hb hlo (.inl h1)
  by_cases h2 : 300 < lo.length
  · exact ack_early a l lo hl hs bv lv w hb hlo (.inr (.inl h2))
  by_cases h3 : 32768 ≤ a.dst
  · exact ack_early a l lo hl hs bv lv w hb hlo (.inr (.inr (.inl h3)))
  by_cases h4 : a.ssrc = a.src
  case neg => exact ack_early a l lo hl hs bv lv w hb hlo (.inr (.inr (.inr (.inl h4))))
  by_cases h5 : refuseN [] a l.length = 0
  case neg => exact ack_early a l lo hl hs bv lv w hb hlo (.inr (.inr (.inr (.inr h5))))
  exact ack_main a l lo hl hs bv lv w hb hlo h1 h2 h3 h4 h5
end Go.Proofs.Ytkpjinkkjbljkaa
