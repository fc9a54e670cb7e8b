/- Events as they lie in memory, and what they say. -/
import Derived.Test.YtebpacmhdkgfeaaDoorSto4
import Derived.Test.YtebpacmhdkgfeaaDoorPly
import Derived.Test.YtebpacmhdkgfeaaDoorMkZ
namespace Go.Proofs.YtebpacmhdkgfeaaDoor
open Go.ChangeShapes Go.WideShapes Go.RowKit Go.Deep

def Evt.sta (e : Evt) : Sta := ⟨e.seen, ⟨e.na, e.nn, e.nc⟩, ⟨e.la, e.ln, e.lc⟩⟩
/-- What chapter 29 lets in. -/
structure StaD.small (d : StaD) : Prop where
  nodes : d.nodes.length ≤ 1000
  links : d.links.length ≤ 1000
  ps : ∀ n ∈ d.nodes, n.ps.length ≤ 1000
  xs : ∀ n ∈ d.nodes, n.xs.length ≤ 1000
structure Evt.Ok (w : World) (B : Nat) (e : Evt) (d : StaD) : Prop where
  sta : e.sta.Ok w d
  wf : d.wf B
  at_ : e.at_.I
  vol : I64 e.vol
  knew : e.knew.I
theorem Evt.Ok.below {w w1 : World} {B : Nat} {e : Evt} {d : StaD} (h : e.Ok w B d) (hb : Below w.heap.size w w1) : e.Ok w1 B d := ⟨h.sta.below hb, h.wf, h.at_, h.vol, h.knew⟩
/-- An event as it lies there, and what it wrote. -/
structure Ep where
  e : Evt
  d : StaD
def encEp : Enc Ep := ⟨21, by decide, fun p => p.e.cells, fun _ => rfl, fun _ => ones_of rfl⟩
instance : SizeT Tryd.prog 31 encEp.sz := inferInstanceAs (SizeT Tryd.prog 31 21)
def Ep.Ok (w : World) (B : Nat) (p : Ep) : Prop := p.e.Ok w B p.d
def Lnk.about (id : Mk) (l : Lnk) : Bool := decide (l.id = id) || (decide (l.node = id) && !decide (l.at_ = Mk.zero))
def StaD.about (id : Mk) (d : StaD) : Bool := d.nodes.any (fun n => decide (n.hd.id = id)) || d.links.any (Lnk.about id)
theorem legs_e : legs Tryd.prog 8 31 = some [.int .i64, .int .i64, .int .i64, .int .i64, .int .i64, .int .i64, .int .i64, .int .i64, .int .i64, .int .i64, .int .i64, .int .i64, .int .i64, .int .i64, .int .i64, .int .i64, .int .i64, .int .i64, .int .i64, .sl 26, .sl 27] := by kernel_rfl
section
variable {H : Type} {enc : TypeId × Value → H} {w : World} {base : Nat} {spare : Nat → Bool} {held : Bool} {K : DataW H → Prop} {B : Nat}
theorem open_e (hK : Keep K B) {fuel : Nat} {cs : List Value} {x : DataW H × List MemPlace} (h : DataW.trod enc Tryd.prog w base spare held fuel 31 cs = some x) (hx : K x.1) : ∃ p : Ep, cs = encEp.cells p ∧ p.Ok w B := by
  have hf := legs_fits hK 8 _ _ _ _ _ legs_e h hx
  have hl := hf.length
  match cs, hl with
  | [c0, c1, c2, c3, c4, c5, c6, c7, c8, c9, c10, c11, c12, c13, c14, c15, c16, c17, c18, c19, c20], _ =>
    obtain ⟨⟨a0, rfl, u0⟩, ⟨a1, rfl, u1⟩, ⟨a2, rfl, u2⟩, ⟨b0, rfl, v0⟩, ⟨b1, rfl, v1⟩, ⟨b2, rfl, v2⟩, ⟨b3, rfl, v3⟩, ⟨b4, rfl, v4⟩, ⟨b5, rfl, v5⟩, ⟨b6, rfl, v6⟩, ⟨b7, rfl, v7⟩, ⟨n0, rfl, w0⟩, ⟨n1, rfl, w1⟩, ⟨n2, rfl, w2⟩, ⟨n3, rfl, w3⟩, ⟨n4, rfl, w4⟩, ⟨n5, rfl, w5⟩, ⟨n6, rfl, w6⟩, ⟨n7, rfl, w7⟩, hp, hq, -⟩ := hf
    replace hp : TrodS K enc Tryd.prog w base spare held 26 c19 := hp
    replace hq : TrodS K enc Tryd.prog w base spare held 27 c20 := hq
    obtain ⟨p, rfl⟩ := slice_val Tryd.underlying26 hp
    obtain ⟨q, rfl⟩ := slice_val Tryd.underlying27 hq
    obtain ⟨ns, hns, wns⟩ := open_row encN Tryd.underlying26 (by kernel_rfl) hK (fun _ _ _ h hx => open_n hK h hx) hp
    obtain ⟨ls, hls, wls⟩ := open_row encK Tryd.underlying27 (by kernel_rfl) hK (fun _ _ _ h hx => open_k hK h hx) hq
    exact ⟨⟨⟨⟨a0, a1⟩, a2, ⟨b0, b1, b2, b3, b4, b5, b6, b7⟩, ⟨n0, n1, n2, n3, n4, n5, n6, n7⟩, p.a, p.n, p.c, q.a, q.n, q.c⟩, ⟨⟨n0, n1, n2, n3, n4, n5, n6, n7⟩, ns.map (·.d), ls⟩⟩, rfl, ⟨⟨rfl, ⟨ns, hns, fun n hn => (wns n hn).1, rfl⟩, hls⟩,
      ⟨v8_i (i64_lit w0) (i64_lit w1) (i64_lit w2) (i64_lit w3) (i64_lit w4) (i64_lit w5) (i64_lit w6) (i64_lit w7), fun d hd => by obtain ⟨n, hn, rfl⟩ := List.mem_map.1 hd; exact (wns n hn).2, wls⟩,
      ⟨i64_lit u0, i64_lit u1⟩, i64_lit u2, v8_i (i64_lit v0) (i64_lit v1) (i64_lit v2) (i64_lit v3) (i64_lit v4) (i64_lit v5) (i64_lit v6) (i64_lit v7)⟩⟩
theorem legs_mk : legs Tryd.prog 8 23 = some [.int .i64, .int .i64] := by kernel_rfl
theorem open_mk (hK : Keep K B) {fuel : Nat} {cs : List Value} {x : DataW H × List MemPlace} (h : DataW.trod enc Tryd.prog w base spare held fuel 23 cs = some x) (hx : K x.1) : ∃ m : Mk, cs = [.int .i64 m.boot, .int .i64 m.n] ∧ m.I := by
  have hf := legs_fits hK 8 _ _ _ _ _ legs_mk h hx
  have hl := hf.length
  match cs, hl with
  | [c0, c1], _ =>
    obtain ⟨⟨a0, rfl, u0⟩, ⟨a1, rfl, u1⟩, -⟩ := hf
    exact ⟨⟨a0, a1⟩, rfl, ⟨i64_lit u0, i64_lit u1⟩⟩
end
end Go.Proofs.YtebpacmhdkgfeaaDoor
