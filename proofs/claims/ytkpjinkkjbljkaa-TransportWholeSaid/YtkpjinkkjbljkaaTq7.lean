/- The walk of transport.Receive at every state and every PDU. No condition but the sizes. -/
import Derived.Test.YtkpjinkkjbljkaaTq6
import Derived.Test.YtkpjinkkjbljkaaTqW
namespace Go.Proofs.Ytkpjinkkjbljkaa
open Go.RowKit

theorem recv_any (os : List OutS) (is : List InS) (src dst isrc iv seq : Nat) (ttl : Int) (p : Low) (bl : List UInt8) (now : Int) (hbl : bl.length ≤ 65536) (hseq : seq < 4294967296) (v u bv : Value) (w : World)
    (hv : RowV outCs 10 OutS.parts w w.heap.size v os) (hu : RowV inCs 11 InS.parts w w.heap.size u is) (hbv : BS w w.heap.size bv bl) (ho : Sized (os.map OutS.parts)) (hi : WfIs is) (hnow : 0 ≤ now) (hnow2 : now ≤ 4611686018427387904) :
    Calls Try.prog 23 #[.agg #[v, u], .int .u16 (src : Int), .int .u16 (dst : Int), .agg #[.int .u16 (isrc : Int), .int .u32 (iv : Int), .int .u32 (seq : Int)], .int .i64 ttl, lowV p bv, .int .i64 now] w (RecvPost os (recvT is src dst isrc iv seq ttl p bl now) w) := by
  by_cases hbad : chkL p bl.length ≠ 0 ∨ p.ctl = true
  · exact recv_bad os is src dst isrc iv seq ttl p bl now hbl hseq v u bv w hv hu hbv ho hi hbad
  have hok : chkL p bl.length = 0 := Classical.byContradiction fun h => hbad (.inl h)
  have hc : p.ctl = false := by cases h : p.ctl with
    | true => exact absurd (.inr h) hbad
    | false => rfl
  by_cases hs : p.seg = false
  · exact recv_whole os is src dst isrc iv seq ttl p bl now hbl hseq v u bv w hv hu hbv ho hi hok hc hs
  have hs' : p.seg = true := by simpa using hs
  by_cases hb : seq < backN seq p
  · exact recv_old os is src dst isrc iv seq ttl p bl now hbl hseq v u bv w hv hu hbv ho hi hok hc hs' hb
  by_cases hp : (placeR is src dst iv (seq - backN seq p) p).2 = false
  · exact recv_not os is src dst isrc iv seq ttl p bl now hbl hseq v u bv w hv hu hbv ho hi hok hc hs' hb hp
  · exact recv_seg os is src dst isrc iv seq ttl p bl now hbl hseq v u bv w hv hu hbv ho hi hnow hnow2 hok hc hs' hb (by simpa using hp)
end Go.Proofs.Ytkpjinkkjbljkaa
