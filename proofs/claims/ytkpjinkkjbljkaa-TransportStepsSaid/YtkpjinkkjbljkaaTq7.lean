/- The walk of transport.Receive at every state and every PDU; what it keeps. No condition but the sizes. -/
import Derived.Test.YtkpjinkkjbljkaaTq5
import Derived.Test.YtkpjinkkjbljkaaTq6
namespace Go.Proofs.Ytkpjinkkjbljkaa
open Go.RowKit

/-- The state stays well formed. -/
theorem keep8_mem {l : List InS} {x : InS} (h : x ∈ keep8 l) : x ∈ l := List.mem_of_mem_drop h
theorem keep8_len (l : List InS) : (keep8 l).length ≤ 8 := by unfold keep8; rw [List.length_drop]; omega
theorem wf_mid {x : InS} {k : Nat} {bl : List UInt8} {ttl now : Int} {nd : Bool} (h : WfIn x) (hb : bl.length ≤ 65536) (hk : k ≤ 31) : WfIn (ackIn (midIn x k bl ttl now nd).1 nd now) := by
  have hack : ∀ y : InS, WfIn y → WfIn (ackIn y nd now) := fun y hy => by
    unfold ackIn
    split
    · exact hy
    · exact hy
  refine hack _ ?_
  unfold midIn
  split
  · exact h
  · obtain ⟨h1, h2, h3, h4, h5, h6⟩ := h
    have hp : WfIn (putIn x k bl ttl) := by
      by_cases h0 : x.blk / 2 ^ k % 2 = 0
      · rw [putIn_yes h0]
        refine ⟨h1, h2, fun hf => by simpa using h3 hf, by simpa using h4, ?_, ?_⟩
        · intro p hp
          rcases List.mem_or_eq_of_mem_set hp with hp | rfl
          · exact h5 p hp
          · exact hb
        · exact or_lt (n := 32) h6 (by omega) h0
      · rw [putIn_no h0]
        exact ⟨h1, h2, h3, h4, h5, h6⟩
    unfold endIn
    split
    · exact ⟨hp.1, hp.2.1, fun h => by simp at h, by simp, by simp, hp.2.2.2.2.2⟩
    · split
      · exact hp
      · exact hp
theorem wf_recv {is : List InS} {src dst isrc iv seq : Nat} {ttl : Int} {p : Low} {bl : List UInt8} {now : Int} (hi : WfIs is) (hb : bl.length ≤ 65536) : WfIs (recvT is src dst isrc iv seq ttl p bl now).1 := by
  unfold recvT
  split
  · exact hi
  · rename_i hbad
    have hok : chkL p bl.length = 0 := Classical.byContradiction fun h => hbad (.inl h)
    have hc : p.ctl = false := by cases h : p.ctl with
      | true => exact absurd (.inr h) hbad
      | false => rfl
    split
    · exact hi
    · rename_i hs
      have hs' : p.seg = true := by simpa using hs
      split
      · exact hi
      · split
        · exact hi
        · rename_i hp
          obtain ⟨c1, c2, c3, c4, c5, c6, _⟩ := chk_seg hok hc hs'
          have hpp := pick_place (is := is) (src := src) (dst := dst) (iv := iv) (ze := seq - backN seq p) (p := p) (by simpa using hp)
          refine ⟨keep8_len _, fun x hx => ?_⟩
          replace hx : x ∈ (pickIn is src dst (seq - backN seq p) iv p).2 ++ [ackIn (midIn (pickIn is src dst (seq - backN seq p) iv p).1 p.idx.toNat bl ttl now (isNode dst)).1 (isNode dst) now] := keep8_mem hx
          generalize hpi : pickIn is src dst (seq - backN seq p) iv p = pk at *
          obtain ⟨x1, js1⟩ := pk
          have hw := pick_wf hi c3 c4 hpp
          rcases List.mem_append.1 hx with hx | hx
          · rcases hpp with ⟨_, h⟩ | ⟨i, y, _, _, h, _⟩
            · obtain ⟨rfl, rfl⟩ := Prod.mk.inj h
              exact hi.2 x hx
            · obtain ⟨rfl, rfl⟩ := Prod.mk.inj h
              exact hi.2 x (List.mem_of_mem_eraseIdx hx)
          · simp only [List.mem_singleton] at hx
            subst hx
            exact wf_mid hw.1 hb (by omega)

theorem recv_any (os : List OutS) (is : List InS) (src dst isrc iv seq : Nat) (ttl : Int) (p : Low) (bl : List UInt8) (now : Int) (hbl : bl.length ≤ 65536) (hseq : seq < 4294967296) (v u bv : Value) (w : World)
    (hv : RowV outCs 10 OutS.parts w w.heap.size v os) (hu : RowV inCs 11 InS.parts w w.heap.size u is) (hbv : BS w w.heap.size bv bl) (ho : Sized (os.map OutS.parts)) (hi : WfIs is) (hnow : 0 ≤ now) (hnow2 : now ≤ 4611686018427387904) :
    Calls Try.prog 23 #[.agg #[v, u], .int .u16 (src : Int), .int .u16 (dst : Int), .agg #[.int .u16 (isrc : Int), .int .u32 (iv : Int), .int .u32 (seq : Int)], .int .i64 ttl, lowV p bv, .int .i64 now] w (RecvPost os (recvT is src dst isrc iv seq ttl p bl now) w) := by
  by_cases hbad : chkL p bl.length ≠ 0 ∨ p.ctl = true
  · exact recv_bad os is src dst isrc iv seq ttl p bl now hbl hseq v u bv w hv hu hbv ho hi hbad
  have hok : chkL p bl.length = 0 := Classical.byContradiction fun h => hbad (.inl h)
  have hc : p.ctl = false := by cases h : p.ctl with
    | true => exact absurd (.inr h) hbad
    | false => rfl
  by_cases hs : p.seg = false
  · exact recv_whole os is src dst isrc iv seq ttl p bl now hbl hseq v u bv w hv hu hbv ho hi hok hc hs
  have hs' : p.seg = true := by simpa using hs
  by_cases hb : seq < backN seq p
  · exact recv_old os is src dst isrc iv seq ttl p bl now hbl hseq v u bv w hv hu hbv ho hi hok hc hs' hb
  by_cases hp : (placeR is src dst iv (seq - backN seq p) p).2 = false
  · exact recv_not os is src dst isrc iv seq ttl p bl now hbl hseq v u bv w hv hu hbv ho hi hok hc hs' hb hp
  · exact recv_seg os is src dst isrc iv seq ttl p bl now hbl hseq v u bv w hv hu hbv ho hi hnow hnow2 hok hc hs' hb (by simpa using hp)
end Go.Proofs.Ytkpjinkkjbljkaa
