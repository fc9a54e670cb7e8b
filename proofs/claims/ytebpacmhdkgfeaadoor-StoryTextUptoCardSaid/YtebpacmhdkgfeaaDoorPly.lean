/- States as they lie in memory, and what they say. -/
import Derived.Test.YtebpacmhdkgfeaaDoorLeg
import Derived.Test.YtebpacmhdkgfeaaDoorMk
import Derived.Test.YtebpacmhdkgfeaaDoorGrow
import Derived.Test.YtebpacmhdkgfeaaDoorV8
import Derived.Test.YtebpacmhdkgfeaaDoorTab
namespace Go.Proofs.YtebpacmhdkgfeaaDoor
open Go.ChangeShapes Go.WideShapes Go.RowKit Go.Deep

structure Atr where
  at_ : Mk
  (mode time : Int)
  deriving DecidableEq
structure Siz where
  at_ : Mk
  n : Int
  deriving DecidableEq
structure Pce where
  idx : Int
  at_ : Mk
  data : ByteArray
  deriving DecidableEq
structure Xat where
  name : ByteArray
  at_ : Mk
  val : ByteArray
  gone : Bool
  deriving DecidableEq
structure IHd where
  id : Mk
  kind : Int
  text : ByteArray
  attr : Atr
  size : Siz
  deriving DecidableEq
structure Ino where
  hd : IHd
  (p x : Sl)
structure Lnk where
  (id node at_ parent : Mk)
  name : ByteArray
  (alive dead : V8)
  deriving DecidableEq
structure Sta where
  seen : V8
  (nodes links : Sl)
structure InoD where
  hd : IHd
  ps : List Pce
  xs : List Xat
  deriving DecidableEq
/-- An inode as it lies there, and what it says. -/
structure Nd where
  s : Ino
  d : InoD
structure StaD where
  seen : V8
  nodes : List InoD
  links : List Lnk
  deriving DecidableEq
def Pce.cells (p : Pce) : List Value := [.int .i64 p.idx, .int .i64 p.at_.boot, .int .i64 p.at_.n, .string p.data]
def Xat.cells (x : Xat) : List Value := [.string x.name, .int .i64 x.at_.boot, .int .i64 x.at_.n, .string x.val, .bool x.gone]
def Ino.cells (i : Ino) : List Value := [.int .i64 i.hd.id.boot, .int .i64 i.hd.id.n, .int .i64 i.hd.kind, .string i.hd.text, .int .i64 i.hd.attr.at_.boot, .int .i64 i.hd.attr.at_.n, .int .i64 i.hd.attr.mode, .int .u64 i.hd.attr.time,
  .int .i64 i.hd.size.at_.boot, .int .i64 i.hd.size.at_.n, .int .i64 i.hd.size.n, .slice i.p.a i.p.n i.p.c, .slice i.x.a i.x.n i.x.c]
def Lnk.cells (l : Lnk) : List Value := [.int .i64 l.id.boot, .int .i64 l.id.n, .int .i64 l.node.boot, .int .i64 l.node.n, .int .i64 l.at_.boot, .int .i64 l.at_.n, .int .i64 l.parent.boot, .int .i64 l.parent.n, .string l.name,
  .int .i64 l.alive.a0, .int .i64 l.alive.a1, .int .i64 l.alive.a2, .int .i64 l.alive.a3, .int .i64 l.alive.a4, .int .i64 l.alive.a5, .int .i64 l.alive.a6, .int .i64 l.alive.a7,
  .int .i64 l.dead.a0, .int .i64 l.dead.a1, .int .i64 l.dead.a2, .int .i64 l.dead.a3, .int .i64 l.dead.a4, .int .i64 l.dead.a5, .int .i64 l.dead.a6, .int .i64 l.dead.a7]
def Sta.cells (s : Sta) : List Value := [.int .i64 s.seen.a0, .int .i64 s.seen.a1, .int .i64 s.seen.a2, .int .i64 s.seen.a3, .int .i64 s.seen.a4, .int .i64 s.seen.a5, .int .i64 s.seen.a6, .int .i64 s.seen.a7, .slice s.nodes.a s.nodes.n s.nodes.c, .slice s.links.a s.links.n s.links.c]
theorem ones_of {cs : List Value} (h : cs.all (·.oneCell') = true) : ∀ u ∈ cs, u.oneCell' = true := fun u hu => List.all_eq_true.1 h u hu
def encPc : Enc Pce := ⟨4, by decide, Pce.cells, fun _ => rfl, fun _ => ones_of rfl⟩
def encXt : Enc Xat := ⟨5, by decide, Xat.cells, fun _ => rfl, fun _ => ones_of rfl⟩
def encN : Enc Nd := ⟨13, by decide, fun n => n.s.cells, fun _ => rfl, fun _ => ones_of rfl⟩
def encK : Enc Lnk := ⟨25, by decide, Lnk.cells, fun _ => rfl, fun _ => ones_of rfl⟩
instance : SizeT Tryd.prog 80 encPc.sz := inferInstanceAs (SizeT Tryd.prog 80 4)
instance : SizeT Tryd.prog 82 encXt.sz := inferInstanceAs (SizeT Tryd.prog 82 5)
instance : SizeT Tryd.prog 62 encN.sz := inferInstanceAs (SizeT Tryd.prog 62 13)
instance : SizeT Tryd.prog 65 encK.sz := inferInstanceAs (SizeT Tryd.prog 65 25)

/-! ### What may lie there -/
structure Mk.I (m : Mk) : Prop where
  b : I64 m.boot
  n : I64 m.n
structure V8.I (v : V8) : Prop where
  all : ∀ k, k < 8 → I64 (v.list.getD k 0)
structure Pce.wf (B : Nat) (p : Pce) : Prop where
  idx : I64 p.idx
  at_ : p.at_.I
  data : p.data.size ≤ B
structure Xat.wf (B : Nat) (x : Xat) : Prop where
  name : x.name.size ≤ B
  at_ : x.at_.I
  val : x.val.size ≤ B
structure IHd.wf (B : Nat) (h : IHd) : Prop where
  id : h.id.I
  kind : I64 h.kind
  text : h.text.size ≤ B
  attr : h.attr.at_.I
  mode : I64 h.attr.mode
  time : 0 ≤ h.attr.time ∧ h.attr.time ≤ 18446744073709551615
  size : h.size.at_.I
  n : I64 h.size.n
structure Lnk.wf (B : Nat) (l : Lnk) : Prop where
  id : l.id.I
  node : l.node.I
  at_ : l.at_.I
  parent : l.parent.I
  name : l.name.size ≤ B
  alive : l.alive.I
  dead : l.dead.I
structure InoD.wf (B : Nat) (d : InoD) : Prop where
  hd : d.hd.wf B
  ps : ∀ p ∈ d.ps, p.wf B
  xs : ∀ x ∈ d.xs, x.wf B
structure StaD.wf (B : Nat) (d : StaD) : Prop where
  seen : d.seen.I
  nodes : ∀ n ∈ d.nodes, n.wf B
  links : ∀ l ∈ d.links, l.wf B

theorem StaD.wf.mono {B B' : Nat} {d : StaD} (h : d.wf B) (hB : B ≤ B') : d.wf B' :=
  ⟨h.seen, fun n hn => ⟨{ (h.nodes n hn).hd with text := Nat.le_trans (h.nodes n hn).hd.text hB }, fun p hp => { (h.nodes n hn).ps p hp with data := Nat.le_trans ((h.nodes n hn).ps p hp).data hB }, fun x hx => { (h.nodes n hn).xs x hx with name := Nat.le_trans ((h.nodes n hn).xs x hx).name hB, val := Nat.le_trans ((h.nodes n hn).xs x hx).val hB }⟩,
    fun l hl => { h.links l hl with name := Nat.le_trans (h.links l hl).name hB }⟩

/-! ### What memory says -/
structure Ino.Ok (w : World) (i : Ino) (d : InoD) : Prop where
  hd : i.hd = d.hd
  ps : encPc.R w i.p.val d.ps
  xs : encXt.R w i.x.val d.xs
structure Sta.Ok (w : World) (s : Sta) (d : StaD) : Prop where
  seen : s.seen = d.seen
  nodes : ∃ ns : List Nd, encN.R w s.nodes.val ns ∧ (∀ n ∈ ns, n.s.Ok w n.d) ∧ ns.map (·.d) = d.nodes
  links : encK.R w s.links.val d.links
theorem Ino.Ok.below {w w1 : World} {i : Ino} {d : InoD} (h : i.Ok w d) (hb : Below w.heap.size w w1) : i.Ok w1 d := ⟨h.hd, h.ps.below hb, h.xs.below hb⟩
theorem Sta.Ok.below {w w1 : World} {s : Sta} {d : StaD} (h : s.Ok w d) (hb : Below w.heap.size w w1) : s.Ok w1 d := by
  obtain ⟨ns, h1, h2, h3⟩ := h.nodes
  exact ⟨h.seen, ⟨ns, h1.below hb, fun n hn => (h2 n hn).below hb, h3⟩, h.links.below hb⟩

/-! ### Opened -/
theorem legs_pc : legs Tryd.prog 6 80 = some [.int .i64, .int .i64, .int .i64, .str] := by kernel_rfl
theorem legs_xt : legs Tryd.prog 6 82 = some [.str, .int .i64, .int .i64, .str, .bool] := by kernel_rfl
theorem legs_n : legs Tryd.prog 6 62 = some [.int .i64, .int .i64, .int .i64, .str, .int .i64, .int .i64, .int .i64, .int .u64, .int .i64, .int .i64, .int .i64, .sl 59, .sl 60] := by kernel_rfl
theorem legs_k : legs Tryd.prog 6 65 = some [.int .i64, .int .i64, .int .i64, .int .i64, .int .i64, .int .i64, .int .i64, .int .i64, .str, .int .i64, .int .i64, .int .i64, .int .i64, .int .i64, .int .i64, .int .i64, .int .i64, .int .i64, .int .i64, .int .i64, .int .i64, .int .i64, .int .i64, .int .i64, .int .i64] := by kernel_rfl
theorem legs_s : legs Tryd.prog 6 29 = some [.int .i64, .int .i64, .int .i64, .int .i64, .int .i64, .int .i64, .int .i64, .int .i64, .sl 26, .sl 27] := by kernel_rfl
theorem i64_lit {n : Int} (h : (Lit.int .i64 n).wf = true) : I64 n := by
  have h1 : IntKind.i64.min ≤ n ∧ n ≤ IntKind.i64.max := by simpa [Lit.wf] using h
  exact h1
theorem u64_lit {n : Int} (h : (Lit.int .u64 n).wf = true) : 0 ≤ n ∧ n ≤ 18446744073709551615 := by
  have h1 : IntKind.u64.min ≤ n ∧ n ≤ IntKind.u64.max := by simpa [Lit.wf] using h
  exact h1
theorem v8_i {v : V8} (h0 : I64 v.a0) (h1 : I64 v.a1) (h2 : I64 v.a2) (h3 : I64 v.a3) (h4 : I64 v.a4) (h5 : I64 v.a5) (h6 : I64 v.a6) (h7 : I64 v.a7) : v.I := ⟨fun k hk => by
  have e : k = 0 ∨ k = 1 ∨ k = 2 ∨ k = 3 ∨ k = 4 ∨ k = 5 ∨ k = 6 ∨ k = 7 := by omega
  rcases e with rfl | rfl | rfl | rfl | rfl | rfl | rfl | rfl <;> assumption⟩
section
variable {H : Type} {enc : TypeId × Value → H} {w : World} {base : Nat} {spare : Nat → Bool} {held : Bool} {K : DataW H → Prop} {B : Nat}
theorem open_pc (hK : Keep K B) {fuel : Nat} {cs : List Value} {x : DataW H × List MemPlace} (h : DataW.trod enc Tryd.prog w base spare held fuel 80 cs = some x) (hx : K x.1) : ∃ d : Pce, cs = encPc.cells d ∧ d.wf B := by
  have hf := legs_fits hK 6 _ _ _ _ _ legs_pc h hx
  have hl := hf.length
  match cs, hl with
  | [c0, c1, c2, c3], _ =>
    obtain ⟨⟨n0, rfl, w0⟩, ⟨n1, rfl, w1⟩, ⟨n2, rfl, w2⟩, ⟨s, rfl, ws⟩, -⟩ := hf
    exact ⟨⟨n0, ⟨n1, n2⟩, s⟩, rfl, i64_lit w0, ⟨i64_lit w1, i64_lit w2⟩, ws⟩
theorem open_xt (hK : Keep K B) {fuel : Nat} {cs : List Value} {x : DataW H × List MemPlace} (h : DataW.trod enc Tryd.prog w base spare held fuel 82 cs = some x) (hx : K x.1) : ∃ d : Xat, cs = encXt.cells d ∧ d.wf B := by
  have hf := legs_fits hK 6 _ _ _ _ _ legs_xt h hx
  have hl := hf.length
  match cs, hl with
  | [c0, c1, c2, c3, c4], _ =>
    obtain ⟨⟨s, rfl, ws⟩, ⟨n1, rfl, w1⟩, ⟨n2, rfl, w2⟩, ⟨s2, rfl, ws2⟩, ⟨b, rfl⟩, -⟩ := hf
    exact ⟨⟨s, ⟨n1, n2⟩, s2, b⟩, rfl, ws, ⟨i64_lit w1, i64_lit w2⟩, ws2⟩
theorem open_k (hK : Keep K B) {fuel : Nat} {cs : List Value} {x : DataW H × List MemPlace} (h : DataW.trod enc Tryd.prog w base spare held fuel 65 cs = some x) (hx : K x.1) : ∃ d : Lnk, cs = encK.cells d ∧ d.wf B := by
  have hf := legs_fits hK 6 _ _ _ _ _ legs_k h hx
  have hl := hf.length
  match cs, hl with
  | [c0, c1, c2, c3, c4, c5, c6, c7, c8, c9, c10, c11, c12, c13, c14, c15, c16, c17, c18, c19, c20, c21, c22, c23, c24], _ =>
    obtain ⟨⟨n0, rfl, w0⟩, ⟨n1, rfl, w1⟩, ⟨n2, rfl, w2⟩, ⟨n3, rfl, w3⟩, ⟨n4, rfl, w4⟩, ⟨n5, rfl, w5⟩, ⟨n6, rfl, w6⟩, ⟨n7, rfl, w7⟩, ⟨s, rfl, ws⟩, ⟨m0, rfl, v0⟩, ⟨m1, rfl, v1⟩, ⟨m2, rfl, v2⟩, ⟨m3, rfl, v3⟩, ⟨m4, rfl, v4⟩, ⟨m5, rfl, v5⟩, ⟨m6, rfl, v6⟩, ⟨m7, rfl, v7⟩,
      ⟨k0, rfl, u0⟩, ⟨k1, rfl, u1⟩, ⟨k2, rfl, u2⟩, ⟨k3, rfl, u3⟩, ⟨k4, rfl, u4⟩, ⟨k5, rfl, u5⟩, ⟨k6, rfl, u6⟩, ⟨k7, rfl, u7⟩, -⟩ := hf
    exact ⟨⟨⟨n0, n1⟩, ⟨n2, n3⟩, ⟨n4, n5⟩, ⟨n6, n7⟩, s, ⟨m0, m1, m2, m3, m4, m5, m6, m7⟩, ⟨k0, k1, k2, k3, k4, k5, k6, k7⟩⟩, rfl, ⟨i64_lit w0, i64_lit w1⟩, ⟨i64_lit w2, i64_lit w3⟩, ⟨i64_lit w4, i64_lit w5⟩, ⟨i64_lit w6, i64_lit w7⟩, ws,
      v8_i (i64_lit v0) (i64_lit v1) (i64_lit v2) (i64_lit v3) (i64_lit v4) (i64_lit v5) (i64_lit v6) (i64_lit v7), v8_i (i64_lit u0) (i64_lit u1) (i64_lit u2) (i64_lit u3) (i64_lit u4) (i64_lit u5) (i64_lit u6) (i64_lit u7)⟩
theorem slice_val {t e : TypeId} (hu : Tryd.prog.underlying t = some (.slice e)) {v : Value} (h : TrodS K enc Tryd.prog w base spare held t v) : ∃ s : Sl, v = .slice s.a s.n s.c := by
  obtain ⟨fuel, x, h, -⟩ := h
  rcases open_slice hu h with ⟨h0, -⟩ | ⟨a, len, cap, m, n, D, Pl, hcs, -⟩
  · injection h0 with h0 _; exact ⟨⟨none, 0, 0⟩, h0⟩
  · injection hcs with hcs _; exact ⟨⟨some a, len, cap⟩, hcs⟩
theorem open_n (hK : Keep K B) {fuel : Nat} {cs : List Value} {x : DataW H × List MemPlace} (h : DataW.trod enc Tryd.prog w base spare held fuel 62 cs = some x) (hx : K x.1) : ∃ n : Nd, cs = encN.cells n ∧ n.s.Ok w n.d ∧ n.d.wf B := by
  have hf := legs_fits hK 6 _ _ _ _ _ legs_n h hx
  have hl := hf.length
  match cs, hl with
  | [c0, c1, c2, c3, c4, c5, c6, c7, c8, c9, c10, c11, c12], _ =>
    obtain ⟨⟨n0, rfl, w0⟩, ⟨n1, rfl, w1⟩, ⟨n2, rfl, w2⟩, ⟨s, rfl, ws⟩, ⟨n4, rfl, w4⟩, ⟨n5, rfl, w5⟩, ⟨n6, rfl, w6⟩, ⟨n7, rfl, w7⟩, ⟨n8, rfl, w8⟩, ⟨n9, rfl, w9⟩, ⟨n10, rfl, w10⟩, hp, hq, -⟩ := hf
    replace hp : TrodS K enc Tryd.prog w base spare held 59 c11 := hp
    replace hq : TrodS K enc Tryd.prog w base spare held 60 c12 := hq
    obtain ⟨p, rfl⟩ := slice_val Tryd.underlying59 hp
    obtain ⟨q, rfl⟩ := slice_val Tryd.underlying60 hq
    obtain ⟨ps, hps, wps⟩ := open_row encPc Tryd.underlying59 (by kernel_rfl) hK (fun _ _ _ h hx => open_pc hK h hx) hp
    obtain ⟨xs, hxs, wxs⟩ := open_row encXt Tryd.underlying60 (by kernel_rfl) hK (fun _ _ _ h hx => open_xt hK h hx) hq
    exact ⟨⟨⟨⟨⟨n0, n1⟩, n2, s, ⟨⟨n4, n5⟩, n6, n7⟩, ⟨⟨n8, n9⟩, n10⟩⟩, p, q⟩, ⟨⟨⟨n0, n1⟩, n2, s, ⟨⟨n4, n5⟩, n6, n7⟩, ⟨⟨n8, n9⟩, n10⟩⟩, ps, xs⟩⟩, rfl, ⟨rfl, hps, hxs⟩,
      ⟨⟨i64_lit w0, i64_lit w1⟩, i64_lit w2, ws, ⟨i64_lit w4, i64_lit w5⟩, i64_lit w6, u64_lit w7, ⟨i64_lit w8, i64_lit w9⟩, i64_lit w10⟩, wps, wxs⟩
theorem open_s (hK : Keep K B) {fuel : Nat} {cs : List Value} {x : DataW H × List MemPlace} (h : DataW.trod enc Tryd.prog w base spare held fuel 29 cs = some x) (hx : K x.1) : ∃ s : Sta, cs = s.cells ∧ ∃ d, s.Ok w d ∧ d.wf B := by
  have hf := legs_fits hK 6 _ _ _ _ _ legs_s h hx
  have hl := hf.length
  match cs, hl with
  | [c0, c1, c2, c3, c4, c5, c6, c7, c8, c9], _ =>
    obtain ⟨⟨n0, rfl, w0⟩, ⟨n1, rfl, w1⟩, ⟨n2, rfl, w2⟩, ⟨n3, rfl, w3⟩, ⟨n4, rfl, w4⟩, ⟨n5, rfl, w5⟩, ⟨n6, rfl, w6⟩, ⟨n7, rfl, w7⟩, hp, hq, -⟩ := hf
    replace hp : TrodS K enc Tryd.prog w base spare held 26 c8 := hp
    replace hq : TrodS K enc Tryd.prog w base spare held 27 c9 := hq
    obtain ⟨p, rfl⟩ := slice_val Tryd.underlying26 hp
    obtain ⟨q, rfl⟩ := slice_val Tryd.underlying27 hq
    obtain ⟨ns, hns, wns⟩ := open_row encN Tryd.underlying26 (by kernel_rfl) hK (fun _ _ _ h hx => open_n hK h hx) hp
    obtain ⟨ls, hls, wls⟩ := open_row encK Tryd.underlying27 (by kernel_rfl) hK (fun _ _ _ h hx => open_k hK h hx) hq
    exact ⟨⟨⟨n0, n1, n2, n3, n4, n5, n6, n7⟩, p, q⟩, rfl, ⟨⟨n0, n1, n2, n3, n4, n5, n6, n7⟩, ns.map (·.d), ls⟩, ⟨rfl, ⟨ns, hns, fun n hn => (wns n hn).1, rfl⟩, hls⟩,
      v8_i (i64_lit w0) (i64_lit w1) (i64_lit w2) (i64_lit w3) (i64_lit w4) (i64_lit w5) (i64_lit w6) (i64_lit w7), fun d hd => by obtain ⟨n, hn, rfl⟩ := List.mem_map.1 hd; exact (wns n hn).2, wls⟩
end
end Go.Proofs.YtebpacmhdkgfeaaDoor
