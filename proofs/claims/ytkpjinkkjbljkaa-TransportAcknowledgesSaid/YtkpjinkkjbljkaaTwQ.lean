/- The plain law of segments that arrive in any order: one arrival. No condition. -/
import Derived.Test.YtkpjinkkjbljkaaTwP
namespace Go.Proofs.Ytkpjinkkjbljkaa
open Go.RowKit

/-- The message of which these parts have come, whole or not. -/
def inB (a : AccS) (l : List UInt8) (s : List Bool) (due ttl : Int) : InS := ⟨a.src, a.dst, a.app, a.seq, a.iv, (s.length : Int) - 1, partsOf l s, blkOf s, due, ttl, false⟩
def inW (a : AccS) (l : List UInt8) (s : List Bool) (due : Int) : InS := if s.all id = true then { inB a l s due a.ttl with fin := true, parts := [] } else inB a l s due a.ttl
/-- The state when these have come. -/
def WRel (a : AccS) (l : List UInt8) (s : List Bool) (is : List InS) : Prop := (s = List.replicate s.length false ∧ is = []) ∨ ∃ due, is = [inW a l s due]
theorem set_seen {s : List Bool} {k : Nat} (h : s.getD k false = true) : s.set k true = s := by
  apply List.ext_getElem?
  intro j
  by_cases hjk : k = j
  · subst hjk
    by_cases hk : k < s.length
    · rw [List.getElem?_set_self hk]
      rw [List.getD_eq_getElem?_getD, List.getElem?_eq_getElem hk] at h
      rw [List.getElem?_eq_getElem hk]
      simpa using h.symm
    · rw [List.getElem?_eq_none (by simp; omega), List.getElem?_eq_none (by omega)]
  · rw [List.getElem?_set_ne hjk]
theorem all_seen {s : List Bool} {k : Nat} (h : s.all id = true) (hk : k < s.length) : s.getD k false = true := by
  rw [List.getD_eq_getElem?_getD, List.getElem?_eq_getElem hk]
  have := List.all_eq_true.1 h _ (List.getElem_mem hk)
  simpa using this
theorem put_seen (a : AccS) (l : List UInt8) (s : List Bool) (due ttl : Int) (k : Nat) (hk : k < s.length) : putIn (inB a l s due ttl) k (chunk l k) a.ttl = inB a l (s.set k true) due a.ttl := by
  have hb := blkOf_bit s k
  by_cases h : s.getD k false = true
  · rw [if_pos h] at hb
    rw [set_seen h]
    unfold putIn
    rw [if_neg (by show ¬ blkOf s / 2 ^ k % 2 = 0; omega)]
    rfl
  · rw [if_neg h] at hb
    unfold putIn
    rw [if_pos (by show blkOf s / 2 ^ k % 2 = 0; omega)]
    show InS.mk a.src a.dst a.app a.seq a.iv ((s.length : Int) - 1) ((partsOf l s).set k (chunk l k)) (blkOf s + 2 ^ k) due a.ttl false = _
    rw [partsOf_set, ← blkOf_set s k hk (by simpa using h)]
    unfold inB
    rw [List.length_set]
theorem end_seen (a : AccS) (l : List UInt8) (s : List Bool) (due now : Int) (nd : Bool) : (∃ due', (endIn (inB a l s due a.ttl) nd now).1 = inW a l s due') ∧ (endIn (inB a l s due a.ttl) nd now).2 = s.all id := by
  have hf := blkOf_full s
  have hl : (((s.length : Int) - 1) + 1).toNat = s.length := by omega
  unfold endIn
  by_cases h : s.all id = true
  · rw [if_pos (by show blkOf s = full (((s.length : Int) - 1) + 1).toNat; rw [hl]; exact hf.2 h)]
    refine ⟨⟨due, ?_⟩, h.symm⟩
    unfold inW
    rw [if_pos h]
  · rw [if_neg (by show ¬ blkOf s = full (((s.length : Int) - 1) + 1).toNat; rw [hl]; exact fun e => h (hf.1 e))]
    have h' : s.all id = false := by simpa using h
    have hw : ∀ d, inW a l s d = inB a l s d a.ttl := fun d => by unfold inW; rw [if_neg h]
    refine ⟨?_, h'.symm⟩
    split
    · exact ⟨now + 10, by rw [hw]; rfl⟩
    · exact ⟨due, by rw [hw]⟩
theorem ack_seen (a : AccS) (l : List UInt8) (s : List Bool) (due now : Int) (nd : Bool) : ∃ due', ackIn (inW a l s due) nd now = inW a l s due' ∧ (s.all id = true → nd = true → due' = max now 1) := by
  unfold ackIn
  split
  · refine ⟨max now 1, ?_, fun _ _ => rfl⟩
    unfold inW inB
    split <;> rfl
  · rename_i h
    refine ⟨due, rfl, fun h1 h2 => absurd ⟨?_, h2⟩ h⟩
    unfold inW
    rw [if_pos h1]
/-- One more part of a message that is not whole. -/
theorem mid_part (a : AccS) (l : List UInt8) (s : List Bool) (due ttl now : Int) (nd : Bool) (k : Nat) (hk : k < s.length) :
    (∃ due', ackIn (midIn (inB a l s due ttl) k (chunk l k) a.ttl now nd).1 nd now = inW a l (s.set k true) due' ∧ ((s.set k true).all id = true → nd = true → due' = max now 1)) ∧ (midIn (inB a l s due ttl) k (chunk l k) a.ttl now nd).2 = (s.set k true).all id := by
  unfold midIn
  rw [if_neg (by show ¬ false = true; simp), put_seen a l s due ttl k hk]
  obtain ⟨⟨d1, h1⟩, h2⟩ := end_seen a l (s.set k true) due now nd
  rw [h1]
  exact ⟨ack_seen a l _ d1 now nd, h2⟩
/-- What is delivered. -/
abbrev whole (a : AccS) (l : List UInt8) : Msg := (⟨a.src, a.dst, a.app, a.ttl, a.src, a.iv, a.seq⟩, l)
theorem got_part (a : AccS) (l : List UInt8) (s : List Bool) (due ttl now : Int) (nd : Bool) (k : Nat) (hk : k < s.length) (hl : s.length = cntP l) :
    gotIn a.src a.dst a.iv a.seq (inB a l s due ttl) k (chunk l k) a.ttl now nd = if (s.set k true).all id = true then [whole a l] else [] := by
  unfold gotIn
  rw [(mid_part a l s due ttl now nd k hk).2, put_seen a l s due ttl k hk]
  by_cases h : (s.set k true).all id = true
  · rw [if_pos h, if_pos h]
    show [(_, (partsOf l (s.set k true)).flatten)] = _
    rw [partsOf_all h, List.length_set, hl, chunks_whole]
    rfl
  · rw [if_neg h, if_neg h]
theorem keep8_one (x : InS) : keep8 ([] ++ [x]) = [x] := rfl

/-- One arrival. -/
theorem recv_step2 {a : AccS} {l : List UInt8} {s : List Bool} {is : List InS} {k i : Nat} {now : Int} (h : WRel a l s is) (hl : s.length = cntP l) (hk : k < s.length) (hi : i < 8192)
    (hok : chkL (segL (mOut a l 5) k) (chunk l k).length = 0) :
    (∃ due, (recvT is a.src a.dst a.src a.iv (a.seq + i) a.ttl (segL (mOut a l 5) k) (chunk l k) now).1 = [inW a l (s.set k true) due] ∧ ((s.set k true).all id = true → isNode a.dst = true → due = max now 1)) ∧
    (recvT is a.src a.dst a.src a.iv (a.seq + i) a.ttl (segL (mOut a l 5) k) (chunk l k) now).2.1 = if s.all id = false ∧ (s.set k true).all id = true then [whole a l] else [] := by
  have hlast : (segL (mOut a l 5) k).last = (s.length : Int) - 1 := by
    show ((chunks l (cntP l)).length : Int) - 1 = _
    rw [chunks_len, hl]
  have hback : backN (a.seq + i) (segL (mOut a l 5) k) = i := by
    unfold backN
    show (a.seq + i + 8192 - ((a.seq % 8192 : Nat) : Int).toNat) % 8192 = i
    rw [Int.toNat_natCast]
    omega
  have hidx : (segL (mOut a l 5) k).idx.toNat = k := by
    show ((k : Nat) : Int).toNat = k
    omega
  have hze : a.seq + i - backN (a.seq + i) (segL (mOut a l 5) k) = a.seq := by rw [hback]; omega
  have hnew : newIn a.src a.dst a.seq a.iv (segL (mOut a l 5) k) = inB a l (List.replicate s.length false) 0 0 := by
    unfold newIn inB
    rw [hlast, partsOf_none, blkOf_none, List.length_replicate, show ((s.length : Int) - 1 + 1).toNat = s.length by omega]
    rfl
  have hpick : ∀ due, pickIn [inW a l s due] a.src a.dst a.seq a.iv (segL (mOut a l 5) k) = (inW a l s due, []) ∧ (placeR [inW a l s due] a.src a.dst a.iv a.seq (segL (mOut a l 5) k)).2 = true := by
    intro due
    have hf : [inW a l s due].findIdx? (sameIn a.src a.dst a.iv a.seq) = some 0 := by
      rw [List.findIdx?_cons, if_pos]
      unfold inW inB sameIn
      split <;> simp
    unfold pickIn placeR
    refine ⟨by rw [hf]; rfl, ?_⟩
    have ho : otherIn (segL (mOut a l 5) k) ([inW a l s due].getD 0 ⟨0, 0, false, 0, 0, 0, [], 0, 0, 0, false⟩) = false := by
      rw [List.getD_cons_zero]
      unfold otherIn
      rw [hlast]
      unfold inW inB
      split <;> simp [segL, mOut]
    rw [hf]
    show (if otherIn (segL (mOut a l 5) k) ([inW a l s due].getD 0 ⟨0, 0, false, 0, 0, 0, [], 0, 0, 0, false⟩) = true then ((0 : Int), false) else (((0 : Nat) : Int), true)).2 = true
    rw [ho]
    rfl
  have hnil : pickIn [] a.src a.dst a.seq a.iv (segL (mOut a l 5) k) = (newIn a.src a.dst a.seq a.iv (segL (mOut a l 5) k), []) ∧ (placeR [] a.src a.dst a.iv a.seq (segL (mOut a l 5) k)).2 = true := ⟨rfl, rfl⟩
  unfold recvT
  rw [if_neg (by rw [hok]; simp [segL]), if_neg (by simp [segL]), if_neg (by rw [hback]; omega)]
  rw [hze]
  simp only [hidx]
  rcases h with ⟨hs, rfl⟩ | ⟨due, rfl⟩
  · rw [if_neg (by rw [hnil.2]; simp), hnil.1, hnew]
    have hk' : k < (List.replicate s.length false).length := by rw [List.length_replicate]; exact hk
    obtain ⟨⟨d, h1, hdu⟩, _⟩ := mid_part a l (List.replicate s.length false) 0 0 now (isNode a.dst) k hk'
    have h2 := got_part a l (List.replicate s.length false) 0 0 now (isNode a.dst) k hk' (by rw [List.length_replicate]; exact hl)
    rw [← hs] at h1 h2 hdu ⊢
    refine ⟨⟨d, ?_, hdu⟩, ?_⟩
    · rw [h1, keep8_one]
    · rw [h2]
      have h0 : s.all id = false := by
        rw [hs]
        rw [List.all_replicate]
        have : s.length ≠ 0 := by omega
        simp [this]
      simp [h0]
  · obtain ⟨e1, e2⟩ := hpick due
    rw [if_neg (by rw [e2]; simp), e1]
    by_cases ha : s.all id = true
    · have hw : inW a l s due = { inB a l s due a.ttl with fin := true, parts := [] } := by unfold inW; rw [if_pos ha]
      have hm : ∀ nd, midIn (inW a l s due) k (chunk l k) a.ttl now nd = (inW a l s due, false) := by
        intro nd
        unfold midIn
        rw [if_pos (by rw [hw])]
      rw [set_seen (all_seen ha hk)]
      obtain ⟨d, h1, hdu⟩ := ack_seen a l s due now (isNode a.dst)
      refine ⟨⟨d, ?_, hdu⟩, ?_⟩
      · simp only [hm]
        rw [h1, keep8_one]
      · unfold gotIn
        rw [hm]
        simp [ha]
    · have hw : inW a l s due = inB a l s due a.ttl := by unfold inW; rw [if_neg ha]
      rw [hw]
      obtain ⟨⟨d, h1, hdu⟩, _⟩ := mid_part a l s due a.ttl now (isNode a.dst) k hk
      have h2 := got_part a l s due a.ttl now (isNode a.dst) k hk hl
      refine ⟨⟨d, ?_, hdu⟩, ?_⟩
      · simp only [h1]
        rw [keep8_one]
      · simp only [h2]
        have ha' : s.all id = false := by simpa using ha
        simp [ha']
theorem recv_step {a : AccS} {l : List UInt8} {s : List Bool} {is : List InS} {k i : Nat} {now : Int} (h : WRel a l s is) (hl : s.length = cntP l) (hk : k < s.length) (hi : i < 8192)
    (hok : chkL (segL (mOut a l 5) k) (chunk l k).length = 0) :
    WRel a l (s.set k true) (recvT is a.src a.dst a.src a.iv (a.seq + i) a.ttl (segL (mOut a l 5) k) (chunk l k) now).1 ∧
    (recvT is a.src a.dst a.src a.iv (a.seq + i) a.ttl (segL (mOut a l 5) k) (chunk l k) now).2.1 = if s.all id = false ∧ (s.set k true).all id = true then [whole a l] else [] := by
  obtain ⟨⟨d, h1, _⟩, h2⟩ := recv_step2 (now := now) h hl hk hi hok
  exact ⟨.inr ⟨d, h1⟩, h2⟩
/-- A segment is a valid PDU. -/
theorem chunk_len (l : List UInt8) (k : Nat) : (chunk l k).length = min 12 (l.length - 12 * k) := by unfold chunk; rw [List.length_take, List.length_drop]
theorem chk_seg_ok (app : Bool) (z i l : Int) (n : Nat) (h1 : 0 ≤ z) (h2 : z ≤ 8191) (h3 : 0 ≤ i) (h4 : i ≤ l) (h5 : l ≤ 31) (h6 : 1 ≤ n) (h7 : n ≤ 12) (h8 : i < l → n = 12) : chkL ⟨false, true, app, z, i, l, 0, 0, false⟩ n = 0 := by
  have hr : restP ⟨false, true, app, z, i, l, 0, 0, false⟩ n = true := rfl
  unfold chkL
  rw [hr]
  unfold chkB
  dsimp only
  rw [if_neg (by simp), if_neg (by simp), if_neg (by omega), if_neg, if_neg]
  · rw [if_pos ⟨rfl, rfl⟩]
    omega
  · rw [if_neg (by simp)]
    split
    · omega
    · omega
theorem chk_part {a : AccS} {l : List UInt8} {k : Nat} (h1 : 15 < l.length) (h2 : l.length ≤ 384) (hk : k < cntP l) : chkL (segL (mOut a l 5) k) (chunk l k).length = 0 := by
  have hc := hk
  unfold cntP at hc
  have hlast : (segL (mOut a l 5) k).last = (cntP l : Int) - 1 := by
    show ((chunks l (cntP l)).length : Int) - 1 = _
    rw [chunks_len]
  have hcnt : cntP l = (l.length + 11) / 12 := rfl
  have hcl := chunk_len l k
  exact chk_seg_ok a.app _ _ _ _ (by omega) (by show ((a.seq % 8192 : Nat) : Int) ≤ 8191; omega) (by omega) (by rw [show ((mOut a l 5).parts.length : Int) - 1 = (cntP l : Int) - 1 from hlast]; omega) (by rw [show ((mOut a l 5).parts.length : Int) - 1 = (cntP l : Int) - 1 from hlast]; omega) (by omega) (by omega)
    (fun h => by rw [show ((mOut a l 5).parts.length : Int) - 1 = (cntP l : Int) - 1 from hlast] at h; omega)
theorem refuse_ok {os : List OutS} {a : AccS} {n : Nat} (h : refuseN os a n = 0) : n ≤ 384 ∧ (a.seq : Int) + cntN n - 1 ≤ 16777215 := by
  unfold refuseN at h
  split at h
  · omega
  · split at h
    · omega
    · split at h
      · omega
      · omega
/-- How many have not come. -/
theorem left_none (s : List Bool) : s.count false = 0 ↔ s.all id = true := by
  rw [List.count_eq_zero, List.all_eq_true]
  constructor
  · intro h x hx
    cases x
    · exact absurd hx h
    · rfl
  · intro h hx
    have := h _ hx
    simp at this
theorem left_set {s : List Bool} {k : Nat} (hk : k < s.length) (h : s.getD k false = false) : (s.set k true).count false + 1 = s.count false := by
  rw [List.getD_eq_getElem?_getD, List.getElem?_eq_getElem hk] at h
  rw [List.count_set hk]
  have hh : s[k] = false := by simpa using h
  have : 0 < s.count false := by
    rw [List.count_pos_iff, ← hh]
    exact List.getElem_mem hk
  rw [hh]
  simp
  omega
end Go.Proofs.Ytkpjinkkjbljkaa
