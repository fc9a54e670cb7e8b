/- Texts laid together: Leg, Mk, V8, Ply, SamE, Jo1, Jo2, Stab, Stab2, Stab3, Stab4, Stab5, Stab7, Stab8, MkZ, JoP, JoV, Held. -/
import Derived.Test.YtebpacmhdkgfeaaGreatJm1
import Derived.OpenShut
import Derived.Deep.Slices
import Derived.Deep.Fields
import Derived.Test.YtebpacmhdkgfeaaGreatProg
import Derived.OrdersHeld
set_option linter.unusedSimpArgs false
set_option linter.unusedVariables false
namespace Go.Proofs.YtebpacmhdkgfeaaGreat
open Go.ChangeShapes Go.WideShapes Go.RowKit Go.Deep
inductive Leg where
 | int (k : IntKind)
 | str
 | bool
 | sl (t : TypeId)
def Leg.is (S : TypeId → Value → Prop) (B : Nat) : Leg → Value → Prop
 | .int k, v => ∃ n, v = .int k n ∧ (Lit.int k n).wf = true
 | .str, v => ∃ s : ByteArray, v = .string s ∧ s.size ≤ B
 | .bool, v => ∃ b, v = .bool b
 | .sl t, v => S t v
def FitsR (S : TypeId → Value → Prop) (B : Nat) : List Leg → List Value → Prop
 | [], [] => True
 | l :: ls, v :: vs => l.is S B v ∧ FitsR S B ls vs
 | _, _ => False
theorem FitsR.length {S : TypeId → Value → Prop} {B : Nat} : ∀ {ls : List Leg} {vs : List Value}, FitsR S B ls vs → vs.length = ls.length
 | [], [], _ => rfl
 | _ :: _, _ :: _, h => by simp [FitsR.length h.2]
theorem FitsR.append {S : TypeId → Value → Prop} {B : Nat} : ∀ {a b : List Leg} {x y : List Value}, FitsR S B a x → FitsR S B b y → FitsR S B (a ++ b) (x ++ y)
 | [], _, [], _, _, h => h
 | _ :: _, _, _ :: _, _, h1, h2 => ⟨h1.1, FitsR.append h1.2 h2⟩
def legsF (P : Program) (rec : TypeId → Option (List Leg)) : List Field → Nat → Option (List Leg)
 | [], _ => some []
 | f :: fs, off => if f.offset = off then (match rec f.type with
  | some l => if P.cellsOf f.type = l.length then (match legsF P rec fs (off + l.length) with | some r => some (l ++ r) | none => none) else none
  | none => none) else none
def legsA (l : List Leg) : Nat → List Leg
 | 0 => []
 | n + 1 => l ++ legsA l n
def legs (P : Program) : Nat → TypeId → Option (List Leg)
 | 0, _ => none
 | n + 1, t => match P.underlying t with
  | some (.int k) => some [.int k]
  | some .string => some [.str]
  | some .bool => some [.bool]
  | some (.slice _) => some [.sl t]
  | some (.struct fs) => match legsF P (legs P n) fs.toList 0 with | some ls => if P.cellsOf t = ls.length then some ls else none | none => none
  | some (.array m e) => match legs P n e with | some l => if P.cellsOf e = l.length ∧ P.cellsOf t = m * l.length then some (legsA l m) else none | none => none
  | _ => none
theorem legsF_fits {P : Program} {rec : TypeId → Option (List Leg)} {R : TypeId → List Value → Prop} {S : TypeId → Value → Prop} {B : Nat} (hrec : ∀ t l cs, rec t = some l → R t cs → FitsR S B l cs) (cs : List Value) :
  ∀ (fs : List Field) (off : Nat) (ls : List Leg), legsF P rec fs off = some ls → (∀ (i : Nat) f, fs[i]? = some f → R f.type ((cs.drop f.offset).take (P.cellsOf f.type))) → FitsR S B ls ((cs.drop off).take ls.length) := by
 intro fs
 induction fs with
 | nil =>
  intro off ls h _
  simp only [legsF, Option.some.injEq] at h
  subst h
  simp [FitsR]
 | cons f fs ih =>
  intro off ls h hf
  simp only [legsF] at h
  split at h
  ·rename_i ho
   split at h
   ·rename_i l hl
    split at h
    ·rename_i hc
     split at h
     ·rename_i r hr
      injection h with h
      subst h
      have h1 := hrec _ _ _ hl (hf 0 f rfl)
      have h2 := ih _ _ hr (fun i g hg => hf (i + 1) g (by simpa using hg))
      rw [ho, hc] at h1
      have e : (cs.drop off).take (l ++ r).length = (cs.drop off).take l.length ++ (cs.drop (off + l.length)).take r.length := by
       rw [List.length_append, List.take_add, List.drop_drop]
      rw [e]
      exact h1.append h2
     ·cases h
    ·cases h
   ·cases h
  ·cases h
structure Keep {H : Type} (K : DataW H → Prop) (B : Nat) : Prop where
 agg : ∀ l, K (.agg l) → ∀ d ∈ l, K d
 slice : ∀ l r, K (.slice l r) → ∀ d ∈ l, K d
 str : ∀ b : List UInt8, b.length ≤ maxLen → K (.lit (.string b)) → b.length ≤ B
theorem Keep.all {H : Type} : Keep (H := H) (fun _ => True) maxLen := ⟨fun _ _ _ _ => trivial, fun _ _ _ _ _ => trivial, fun _ h _ => h⟩
def TrodS {H : Type} (K : DataW H → Prop) (enc : TypeId × Value → H) (P : Program) (w : World) (base : Nat) (spare : Nat → Bool) (held : Bool) (t : TypeId) (v : Value) : Prop := ∃ (fuel : Nat) (x : DataW H × List MemPlace), DataW.trod enc P w base spare held fuel t [v] = some x ∧ K x.1
section
variable {H : Type} {enc : TypeId × Value → H} {P : Program} {w : World} {base : Nat} {spare : Nat → Bool} {held : Bool} {K : DataW H → Prop} {B : Nat}
theorem legs_fits (hK : Keep K B) : ∀ (n : Nat) (t : TypeId) (ls : List Leg) (fuel : Nat) (cs : List Value) (x : DataW H × List MemPlace), legs P n t = some ls → DataW.trod enc P w base spare held fuel t cs = some x → K x.1 → FitsR (TrodS K enc P w base spare held) B ls cs := by
 intro n
 induction n with
 | zero => intro t ls fuel cs x h; simp [legs] at h
 | succ n ih =>
  intro t ls fuel cs x h ht hx
  simp only [legs] at h
  split at h
  ·rename_i k hu
   injection h with h; subst h
   obtain ⟨m, rfl, _, hw⟩ := DataW.trod_int hu ht
   exact ⟨⟨m, rfl, hw⟩, trivial⟩
  ·rename_i hu
   injection h with h; subst h
   obtain ⟨s, rfl, rfl, hw⟩ := DataW.trod_string hu ht
   have e : s.data.toList.length = s.size := Array.length_toList
   exact ⟨⟨s, rfl, by rw [← e] at hw ⊢; exact hK.str _ hw hx⟩, trivial⟩
  ·rename_i hu
   injection h with h; subst h
   obtain ⟨s, rfl, _⟩ := DataW.trod_bool hu ht
   exact ⟨⟨s, rfl⟩, trivial⟩
  ·rename_i e hu
   injection h with h; subst h
   rcases open_slice hu ht with ⟨rfl, -⟩ | ⟨a, len, cap, m, n, D, Pl, rfl, -⟩
   ·exact ⟨⟨fuel, x, ht, hx⟩, trivial⟩
   ·exact ⟨⟨fuel, x, ht, hx⟩, trivial⟩
  ·rename_i fs hu
   split at h
   ·rename_i l hl
    split at h
    ·rename_i hc
     injection h with h; subst h
     obtain ⟨xs, m, _, rfl, hlen, hxl, hf⟩ := DataW.trod_struct hu ht
     have h1 := legsF_fits (P := P) (R := fun t cs => ∃ x, DataW.trod enc P w base spare held m t cs = some x ∧ K x.1) (fun t l cs h1 h2 => h2.elim fun x hx => ih t l m cs x h1 hx.1 hx.2) cs fs.toList 0 l hl (fun i f hi => by
      have hi' : fs[i]? = some f := by simpa using hi
      have hlt : i < xs.length := by rw [hxl]; exact (Array.getElem?_eq_some_iff.1 hi').1
      exact ⟨xs[i], (hf i f hi').trans (List.getElem?_eq_getElem hlt), hK.agg _ hx _ (List.mem_map.2 ⟨_, List.getElem_mem hlt, rfl⟩)⟩)
     rw [List.drop_zero, List.take_of_length_le (by omega)] at h1
     exact h1
    ·cases h
   ·cases h
  ·rename_i m e hu
   split at h
   ·rename_i l hl
    split at h
    ·rename_i hc
     injection h with h; subst h
     obtain ⟨xs, k, _, rfl, hlen, hxl, hf⟩ := DataW.trod_array hu ht
     have key : ∀ (q : Nat) (i : Nat), i + q = m → FitsR (TrodS K enc P w base spare held) B (legsA l q) ((cs.drop (i * l.length)).take (q * l.length)) := by
      intro q
      induction q with
      | zero => intro i _; simp [legsA, FitsR]
      | succ q ihq =>
       intro i hi
       have hlt : i < xs.length := by omega
       have h1 := ih e l k _ _ hl ((hf i (by omega)).trans (List.getElem?_eq_getElem hlt)) (hK.agg _ hx _ (List.mem_map.2 ⟨_, List.getElem_mem hlt, rfl⟩))
       rw [hc.1] at h1
       have h2 := ihq (i + 1) (by omega)
       have e2 : (cs.drop (i * l.length)).take ((q + 1) * l.length) = (cs.drop (i * l.length)).take l.length ++ (cs.drop ((i + 1) * l.length)).take (q * l.length) := by
        rw [Nat.add_mul, Nat.one_mul, Nat.add_comm (q * l.length), List.take_add, List.drop_drop, Nat.add_mul, Nat.one_mul]
       rw [e2]
       exact h1.append h2
     have h3 := key m 0 (by omega)
     rw [Nat.zero_mul, List.drop_zero, List.take_of_length_le (by omega)] at h3
     exact h3
    ·cases h
   ·cases h
  ·cases h
theorem open_row {α : Type} (E : Enc α) {Good : α → Prop} {t e : TypeId} {v : Value} (hu : P.underlying t = some (.slice e)) (hC : P.cellsOf e = E.sz) (hK : Keep K B) (hel : ∀ fuel cs x, DataW.trod enc P w base spare held fuel e cs = some x → K x.1 → ∃ d, cs = E.cells d ∧ Good d)
  (h : TrodS K enc P w base spare held t v) : ∃ ds : List α, E.R w v ds ∧ ∀ d ∈ ds, Good d := by
 obtain ⟨fuel, x, h, hxK⟩ := h
 rcases open_slice hu h with ⟨h0, -⟩ | ⟨a, len, cap, m, n, D, Pl, hcs, hb, hl, hm, hmm, rfl, hi⟩
 ·injection h0 with h0 _
  subst h0
  exact ⟨[], Enc.R.none w, by simp⟩
 ·injection hcs with hcs _
  subst hcs
  have hlm : len ≤ m := by rw [hmm]; split <;> omega
  have key : ∀ q, q ≤ len → ∃ ds : List α, ds.length = q ∧ (∀ d ∈ ds, Good d) ∧ ∀ i, (hi : i < ds.length) → ∀ j, j < E.sz → w.cell? (a.add (i * E.sz + j)) = (E.cells ds[i])[j]? := by
   intro q
   induction q with
   | zero => intro _; exact ⟨[], rfl, by simp, fun i hi => by simp at hi⟩
   | succ q ih =>
    intro hq
    obtain ⟨ds, hds, hg, hd⟩ := ih (by omega)
    obtain ⟨cs', hc, ht⟩ := hi q (by omega)
    rw [hC] at hc
    obtain ⟨d, rfl, hgd⟩ := hel _ _ _ ht (hK.slice _ _ hxK _ (List.mem_map.2 ⟨q, List.mem_range.2 (by omega), rfl⟩))
    obtain ⟨_, h1, h2⟩ := World.cells?_some hc
    refine ⟨ds ++ [d], by simp [hds], fun d' hd' => ?_, fun i hi' j hj => ?_⟩
    ·rcases List.mem_append.1 hd' with h | h
     ·exact hg d' h
     ·rw [List.mem_singleton.1 h]; exact hgd
    by_cases h3 : i < ds.length
    ·rw [List.getElem_append_left h3]; exact hd i h3 j hj
    ·have h4 : i = q := by simp at hi'; omega
     subst h4
     rw [← Go.Deep.add_add, h2 j hj]
     simp [hds]
  obtain ⟨ds, hds, hg, hd⟩ := key len (Nat.le_refl _)
  refine ⟨ds, ⟨by rw [Enc.all_length], some a, cap, by rw [hds], by omega, by simp only [maxLen] at hm; omega, .inr ⟨a, rfl, fun k u hu => ?_⟩⟩, hg⟩
  have hk : k < ds.length * E.sz := by have := (List.getElem?_eq_some_iff.1 hu).1; rw [Enc.all_length] at this; exact this
  have hp := E.pos
  have h1 : k / E.sz < ds.length := (Nat.div_lt_iff_lt_mul hp).2 hk
  have h2 := hd (k / E.sz) h1 (k % E.sz) (Nat.mod_lt _ hp)
  have h3 := E.all_get ds (k / E.sz) (k % E.sz) h1 (Nat.mod_lt _ hp)
  have e : k / E.sz * E.sz + k % E.sz = k := by rw [Nat.mul_comm]; exact Nat.div_add_mod k E.sz
  rw [e] at h2 h3
  rw [h2, ← hu, h3]
end
end Go.Proofs.YtebpacmhdkgfeaaGreat

namespace Go.Proofs.YtebpacmhdkgfeaaGreat
open Go.RowKit
structure Mk where
 (boot n : Int)
 deriving DecidableEq
abbrev Mk.val (m : Mk) : Value := .agg #[.int .i64 m.boot, .int .i64 m.n]
def I64 (n : Int) : Prop := -9223372036854775808 ≤ n ∧ n ≤ 9223372036854775807
theorem ret_b {a b : Bool} (h : a = b) : Ending.returned (.bool a) = .returned (.bool b) := by rw [h]
end Go.Proofs.YtebpacmhdkgfeaaGreat

namespace Go.Proofs.YtebpacmhdkgfeaaGreat
open Go.RowKit
structure V8 where
 (a0 a1 a2 a3 a4 a5 a6 a7 : Int)
 deriving DecidableEq
namespace V8
def list (v : V8) : List Int := [v.a0, v.a1, v.a2, v.a3, v.a4, v.a5, v.a6, v.a7]
def get (v : V8) (j : Nat) : Int := v.list.getD j 0
abbrev val (v : V8) : Value := .agg #[.int .i64 v.a0, .int .i64 v.a1, .int .i64 v.a2, .int .i64 v.a3, .int .i64 v.a4, .int .i64 v.a5, .int .i64 v.a6, .int .i64 v.a7]
end V8
theorem idx8 (v : V8) (j : Nat) (hj : j < 8) : ∀ w, (Instr.index 23 v.val (.int .i64 (j : Int))).run Tryz.prog w = .ok (.int .i64 (v.get j)) w := by
 have h : j = 0 ∨ j = 1 ∨ j = 2 ∨ j = 3 ∨ j = 4 ∨ j = 5 ∨ j = 6 ∨ j = 7 := by omega
 rcases h with rfl | rfl | rfl | rfl | rfl | rfl | rfl | rfl <;> intro w <;> kernel_rfl
def V8.zero : V8 := ⟨0, 0, 0, 0, 0, 0, 0, 0⟩
def V8.cells (v : V8) : List Value := [.int .i64 v.a0, .int .i64 v.a1, .int .i64 v.a2, .int .i64 v.a3, .int .i64 v.a4, .int .i64 v.a5, .int .i64 v.a6, .int .i64 v.a7]
end Go.Proofs.YtebpacmhdkgfeaaGreat

namespace Go.Proofs.YtebpacmhdkgfeaaGreat
open Go.ChangeShapes Go.WideShapes Go.RowKit Go.Deep
structure Atr where
 at_ : Mk
 (mode time : Int)
 deriving DecidableEq
structure Siz where
 at_ : Mk
 n : Int
 deriving DecidableEq
structure Pce where
 idx : Int
 at_ : Mk
 data : ByteArray
 deriving DecidableEq
structure Xat where
 name : ByteArray
 at_ : Mk
 val : ByteArray
 gone : Bool
 deriving DecidableEq
structure IHd where
 id : Mk
 kind : Int
 text : ByteArray
 attr : Atr
 size : Siz
 deriving DecidableEq
structure Ino where
 hd : IHd
 (p x : Sl)
structure Lnk where
 (id node at_ parent : Mk)
 name : ByteArray
 (alive dead : V8)
 deriving DecidableEq
structure Sta where
 seen : V8
 (nodes links : Sl)
structure InoD where
 hd : IHd
 ps : List Pce
 xs : List Xat
 deriving DecidableEq
structure Nd where
 s : Ino
 d : InoD
structure StaD where
 seen : V8
 nodes : List InoD
 links : List Lnk
 deriving DecidableEq
def Pce.cells (p : Pce) : List Value := [.int .i64 p.idx, .int .i64 p.at_.boot, .int .i64 p.at_.n, .string p.data]
def Xat.cells (x : Xat) : List Value := [.string x.name, .int .i64 x.at_.boot, .int .i64 x.at_.n, .string x.val, .bool x.gone]
def Ino.cells (i : Ino) : List Value := [.int .i64 i.hd.id.boot, .int .i64 i.hd.id.n, .int .i64 i.hd.kind, .string i.hd.text, .int .i64 i.hd.attr.at_.boot, .int .i64 i.hd.attr.at_.n, .int .i64 i.hd.attr.mode, .int .u64 i.hd.attr.time,
 .int .i64 i.hd.size.at_.boot, .int .i64 i.hd.size.at_.n, .int .i64 i.hd.size.n, .slice i.p.a i.p.n i.p.c, .slice i.x.a i.x.n i.x.c]
def Lnk.cells (l : Lnk) : List Value := [.int .i64 l.id.boot, .int .i64 l.id.n, .int .i64 l.node.boot, .int .i64 l.node.n, .int .i64 l.at_.boot, .int .i64 l.at_.n, .int .i64 l.parent.boot, .int .i64 l.parent.n, .string l.name,
 .int .i64 l.alive.a0, .int .i64 l.alive.a1, .int .i64 l.alive.a2, .int .i64 l.alive.a3, .int .i64 l.alive.a4, .int .i64 l.alive.a5, .int .i64 l.alive.a6, .int .i64 l.alive.a7,
 .int .i64 l.dead.a0, .int .i64 l.dead.a1, .int .i64 l.dead.a2, .int .i64 l.dead.a3, .int .i64 l.dead.a4, .int .i64 l.dead.a5, .int .i64 l.dead.a6, .int .i64 l.dead.a7]
def Sta.cells (s : Sta) : List Value := [.int .i64 s.seen.a0, .int .i64 s.seen.a1, .int .i64 s.seen.a2, .int .i64 s.seen.a3, .int .i64 s.seen.a4, .int .i64 s.seen.a5, .int .i64 s.seen.a6, .int .i64 s.seen.a7, .slice s.nodes.a s.nodes.n s.nodes.c, .slice s.links.a s.links.n s.links.c]
theorem ones_of {cs : List Value} (h : cs.all (·.oneCell') = true) : ∀ u ∈ cs, u.oneCell' = true := fun u hu => List.all_eq_true.1 h u hu
def encPc : Enc Pce := ⟨4, by decide, Pce.cells, fun _ => rfl, fun _ => ones_of rfl⟩
def encXt : Enc Xat := ⟨5, by decide, Xat.cells, fun _ => rfl, fun _ => ones_of rfl⟩
def encN : Enc Nd := ⟨13, by decide, fun n => n.s.cells, fun _ => rfl, fun _ => ones_of rfl⟩
def encK : Enc Lnk := ⟨25, by decide, Lnk.cells, fun _ => rfl, fun _ => ones_of rfl⟩
instance : SizeT Tryz.prog 61 encPc.sz := inferInstanceAs (SizeT Tryz.prog 61 4)
instance : SizeT Tryz.prog 64 encXt.sz := inferInstanceAs (SizeT Tryz.prog 64 5)
instance : SizeT Tryz.prog 58 encN.sz := inferInstanceAs (SizeT Tryz.prog 58 13)
instance : SizeT Tryz.prog 46 encK.sz := inferInstanceAs (SizeT Tryz.prog 46 25)
structure Mk.I (m : Mk) : Prop where
 b : I64 m.boot
 n : I64 m.n
structure V8.I (v : V8) : Prop where
 all : ∀ k, k < 8 → I64 (v.list.getD k 0)
structure Pce.wf (B : Nat) (p : Pce) : Prop where
 idx : I64 p.idx
 at_ : p.at_.I
 data : p.data.size ≤ B
structure Xat.wf (B : Nat) (x : Xat) : Prop where
 name : x.name.size ≤ B
 at_ : x.at_.I
 val : x.val.size ≤ B
structure IHd.wf (B : Nat) (h : IHd) : Prop where
 id : h.id.I
 kind : I64 h.kind
 text : h.text.size ≤ B
 attr : h.attr.at_.I
 mode : I64 h.attr.mode
 time : 0 ≤ h.attr.time ∧ h.attr.time ≤ 18446744073709551615
 size : h.size.at_.I
 n : I64 h.size.n
structure Lnk.wf (B : Nat) (l : Lnk) : Prop where
 id : l.id.I
 node : l.node.I
 at_ : l.at_.I
 parent : l.parent.I
 name : l.name.size ≤ B
 alive : l.alive.I
 dead : l.dead.I
structure InoD.wf (B : Nat) (d : InoD) : Prop where
 hd : d.hd.wf B
 ps : ∀ p ∈ d.ps, p.wf B
 xs : ∀ x ∈ d.xs, x.wf B
structure StaD.wf (B : Nat) (d : StaD) : Prop where
 seen : d.seen.I
 nodes : ∀ n ∈ d.nodes, n.wf B
 links : ∀ l ∈ d.links, l.wf B
theorem StaD.wf.mono {B B' : Nat} {d : StaD} (h : d.wf B) (hB : B ≤ B') : d.wf B' :=
 ⟨h.seen, fun n hn => ⟨{ (h.nodes n hn).hd with text := Nat.le_trans (h.nodes n hn).hd.text hB }, fun p hp => { (h.nodes n hn).ps p hp with data := Nat.le_trans ((h.nodes n hn).ps p hp).data hB }, fun x hx => { (h.nodes n hn).xs x hx with name := Nat.le_trans ((h.nodes n hn).xs x hx).name hB, val := Nat.le_trans ((h.nodes n hn).xs x hx).val hB }⟩,
  fun l hl => { h.links l hl with name := Nat.le_trans (h.links l hl).name hB }⟩
structure Ino.Ok (w : World) (i : Ino) (d : InoD) : Prop where
 hd : i.hd = d.hd
 ps : encPc.R w i.p.val d.ps
 xs : encXt.R w i.x.val d.xs
structure Sta.Ok (w : World) (s : Sta) (d : StaD) : Prop where
 seen : s.seen = d.seen
 nodes : ∃ ns : List Nd, encN.R w s.nodes.val ns ∧ (∀ n ∈ ns, n.s.Ok w n.d) ∧ ns.map (·.d) = d.nodes
 links : encK.R w s.links.val d.links
theorem Ino.Ok.below {w w1 : World} {i : Ino} {d : InoD} (h : i.Ok w d) (hb : Below w.heap.size w w1) : i.Ok w1 d := ⟨h.hd, h.ps.below hb, h.xs.below hb⟩
theorem Sta.Ok.below {w w1 : World} {s : Sta} {d : StaD} (h : s.Ok w d) (hb : Below w.heap.size w w1) : s.Ok w1 d := by
 obtain ⟨ns, h1, h2, h3⟩ := h.nodes
 exact ⟨h.seen, ⟨ns, h1.below hb, fun n hn => (h2 n hn).below hb, h3⟩, h.links.below hb⟩
theorem legs_pc : legs Tryz.prog 6 61 = some [.int .i64, .int .i64, .int .i64, .str] := by kernel_rfl
theorem legs_xt : legs Tryz.prog 6 64 = some [.str, .int .i64, .int .i64, .str, .bool] := by kernel_rfl
theorem legs_n : legs Tryz.prog 6 58 = some [.int .i64, .int .i64, .int .i64, .str, .int .i64, .int .i64, .int .i64, .int .u64, .int .i64, .int .i64, .int .i64, .sl 55, .sl 56] := by kernel_rfl
theorem legs_k : legs Tryz.prog 6 46 = some [.int .i64, .int .i64, .int .i64, .int .i64, .int .i64, .int .i64, .int .i64, .int .i64, .str, .int .i64, .int .i64, .int .i64, .int .i64, .int .i64, .int .i64, .int .i64, .int .i64, .int .i64, .int .i64, .int .i64, .int .i64, .int .i64, .int .i64, .int .i64, .int .i64] := by kernel_rfl
theorem legs_s : legs Tryz.prog 6 27 = some [.int .i64, .int .i64, .int .i64, .int .i64, .int .i64, .int .i64, .int .i64, .int .i64, .sl 24, .sl 25] := by kernel_rfl
theorem i64_lit {n : Int} (h : (Lit.int .i64 n).wf = true) : I64 n := by
 have h1 : IntKind.i64.min ≤ n ∧ n ≤ IntKind.i64.max := by simpa [Lit.wf] using h
 exact h1
theorem u64_lit {n : Int} (h : (Lit.int .u64 n).wf = true) : 0 ≤ n ∧ n ≤ 18446744073709551615 := by
 have h1 : IntKind.u64.min ≤ n ∧ n ≤ IntKind.u64.max := by simpa [Lit.wf] using h
 exact h1
theorem v8_i {v : V8} (h0 : I64 v.a0) (h1 : I64 v.a1) (h2 : I64 v.a2) (h3 : I64 v.a3) (h4 : I64 v.a4) (h5 : I64 v.a5) (h6 : I64 v.a6) (h7 : I64 v.a7) : v.I := ⟨fun k hk => by
 have e : k = 0 ∨ k = 1 ∨ k = 2 ∨ k = 3 ∨ k = 4 ∨ k = 5 ∨ k = 6 ∨ k = 7 := by omega
 rcases e with rfl | rfl | rfl | rfl | rfl | rfl | rfl | rfl <;> assumption⟩
section
variable {H : Type} {enc : TypeId × Value → H} {w : World} {base : Nat} {spare : Nat → Bool} {held : Bool} {K : DataW H → Prop} {B : Nat}
theorem open_pc (hK : Keep K B) {fuel : Nat} {cs : List Value} {x : DataW H × List MemPlace} (h : DataW.trod enc Tryz.prog w base spare held fuel 61 cs = some x) (hx : K x.1) : ∃ d : Pce, cs = encPc.cells d ∧ d.wf B := by
 have hf := legs_fits hK 6 _ _ _ _ _ legs_pc h hx
 have hl := hf.length
 match cs, hl with
 | [c0, c1, c2, c3], _ =>
  obtain ⟨⟨n0, rfl, w0⟩, ⟨n1, rfl, w1⟩, ⟨n2, rfl, w2⟩, ⟨s, rfl, ws⟩, -⟩ := hf
  exact ⟨⟨n0, ⟨n1, n2⟩, s⟩, rfl, i64_lit w0, ⟨i64_lit w1, i64_lit w2⟩, ws⟩
theorem open_xt (hK : Keep K B) {fuel : Nat} {cs : List Value} {x : DataW H × List MemPlace} (h : DataW.trod enc Tryz.prog w base spare held fuel 64 cs = some x) (hx : K x.1) : ∃ d : Xat, cs = encXt.cells d ∧ d.wf B := by
 have hf := legs_fits hK 6 _ _ _ _ _ legs_xt h hx
 have hl := hf.length
 match cs, hl with
 | [c0, c1, c2, c3, c4], _ =>
  obtain ⟨⟨s, rfl, ws⟩, ⟨n1, rfl, w1⟩, ⟨n2, rfl, w2⟩, ⟨s2, rfl, ws2⟩, ⟨b, rfl⟩, -⟩ := hf
  exact ⟨⟨s, ⟨n1, n2⟩, s2, b⟩, rfl, ws, ⟨i64_lit w1, i64_lit w2⟩, ws2⟩
theorem open_k (hK : Keep K B) {fuel : Nat} {cs : List Value} {x : DataW H × List MemPlace} (h : DataW.trod enc Tryz.prog w base spare held fuel 46 cs = some x) (hx : K x.1) : ∃ d : Lnk, cs = encK.cells d ∧ d.wf B := by
 have hf := legs_fits hK 6 _ _ _ _ _ legs_k h hx
 have hl := hf.length
 match cs, hl with
 | [c0, c1, c2, c3, c4, c5, c6, c7, c8, c9, c10, c11, c12, c13, c14, c15, c16, c17, c18, c19, c20, c21, c22, c23, c24], _ =>
  obtain ⟨⟨n0, rfl, w0⟩, ⟨n1, rfl, w1⟩, ⟨n2, rfl, w2⟩, ⟨n3, rfl, w3⟩, ⟨n4, rfl, w4⟩, ⟨n5, rfl, w5⟩, ⟨n6, rfl, w6⟩, ⟨n7, rfl, w7⟩, ⟨s, rfl, ws⟩, ⟨m0, rfl, v0⟩, ⟨m1, rfl, v1⟩, ⟨m2, rfl, v2⟩, ⟨m3, rfl, v3⟩, ⟨m4, rfl, v4⟩, ⟨m5, rfl, v5⟩, ⟨m6, rfl, v6⟩, ⟨m7, rfl, v7⟩,
   ⟨k0, rfl, u0⟩, ⟨k1, rfl, u1⟩, ⟨k2, rfl, u2⟩, ⟨k3, rfl, u3⟩, ⟨k4, rfl, u4⟩, ⟨k5, rfl, u5⟩, ⟨k6, rfl, u6⟩, ⟨k7, rfl, u7⟩, -⟩ := hf
  exact ⟨⟨⟨n0, n1⟩, ⟨n2, n3⟩, ⟨n4, n5⟩, ⟨n6, n7⟩, s, ⟨m0, m1, m2, m3, m4, m5, m6, m7⟩, ⟨k0, k1, k2, k3, k4, k5, k6, k7⟩⟩, rfl, ⟨i64_lit w0, i64_lit w1⟩, ⟨i64_lit w2, i64_lit w3⟩, ⟨i64_lit w4, i64_lit w5⟩, ⟨i64_lit w6, i64_lit w7⟩, ws,
   v8_i (i64_lit v0) (i64_lit v1) (i64_lit v2) (i64_lit v3) (i64_lit v4) (i64_lit v5) (i64_lit v6) (i64_lit v7), v8_i (i64_lit u0) (i64_lit u1) (i64_lit u2) (i64_lit u3) (i64_lit u4) (i64_lit u5) (i64_lit u6) (i64_lit u7)⟩
theorem slice_val {t e : TypeId} (hu : Tryz.prog.underlying t = some (.slice e)) {v : Value} (h : TrodS K enc Tryz.prog w base spare held t v) : ∃ s : Sl, v = .slice s.a s.n s.c := by
 obtain ⟨fuel, x, h, -⟩ := h
 rcases open_slice hu h with ⟨h0, -⟩ | ⟨a, len, cap, m, n, D, Pl, hcs, -⟩
 ·injection h0 with h0 _; exact ⟨⟨none, 0, 0⟩, h0⟩
 ·injection hcs with hcs _; exact ⟨⟨some a, len, cap⟩, hcs⟩
theorem open_n (hK : Keep K B) {fuel : Nat} {cs : List Value} {x : DataW H × List MemPlace} (h : DataW.trod enc Tryz.prog w base spare held fuel 58 cs = some x) (hx : K x.1) : ∃ n : Nd, cs = encN.cells n ∧ n.s.Ok w n.d ∧ n.d.wf B := by
 have hf := legs_fits hK 6 _ _ _ _ _ legs_n h hx
 have hl := hf.length
 match cs, hl with
 | [c0, c1, c2, c3, c4, c5, c6, c7, c8, c9, c10, c11, c12], _ =>
  obtain ⟨⟨n0, rfl, w0⟩, ⟨n1, rfl, w1⟩, ⟨n2, rfl, w2⟩, ⟨s, rfl, ws⟩, ⟨n4, rfl, w4⟩, ⟨n5, rfl, w5⟩, ⟨n6, rfl, w6⟩, ⟨n7, rfl, w7⟩, ⟨n8, rfl, w8⟩, ⟨n9, rfl, w9⟩, ⟨n10, rfl, w10⟩, hp, hq, -⟩ := hf
  replace hp : TrodS K enc Tryz.prog w base spare held 55 c11 := hp
  replace hq : TrodS K enc Tryz.prog w base spare held 56 c12 := hq
  obtain ⟨p, rfl⟩ := slice_val Tryz.underlying55 hp
  obtain ⟨q, rfl⟩ := slice_val Tryz.underlying56 hq
  obtain ⟨ps, hps, wps⟩ := open_row encPc Tryz.underlying55 (by kernel_rfl) hK (fun _ _ _ h hx => open_pc hK h hx) hp
  obtain ⟨xs, hxs, wxs⟩ := open_row encXt Tryz.underlying56 (by kernel_rfl) hK (fun _ _ _ h hx => open_xt hK h hx) hq
  exact ⟨⟨⟨⟨⟨n0, n1⟩, n2, s, ⟨⟨n4, n5⟩, n6, n7⟩, ⟨⟨n8, n9⟩, n10⟩⟩, p, q⟩, ⟨⟨⟨n0, n1⟩, n2, s, ⟨⟨n4, n5⟩, n6, n7⟩, ⟨⟨n8, n9⟩, n10⟩⟩, ps, xs⟩⟩, rfl, ⟨rfl, hps, hxs⟩,
   ⟨⟨i64_lit w0, i64_lit w1⟩, i64_lit w2, ws, ⟨i64_lit w4, i64_lit w5⟩, i64_lit w6, u64_lit w7, ⟨i64_lit w8, i64_lit w9⟩, i64_lit w10⟩, wps, wxs⟩
theorem open_s (hK : Keep K B) {fuel : Nat} {cs : List Value} {x : DataW H × List MemPlace} (h : DataW.trod enc Tryz.prog w base spare held fuel 27 cs = some x) (hx : K x.1) : ∃ s : Sta, cs = s.cells ∧ ∃ d, s.Ok w d ∧ d.wf B := by
 have hf := legs_fits hK 6 _ _ _ _ _ legs_s h hx
 have hl := hf.length
 match cs, hl with
 | [c0, c1, c2, c3, c4, c5, c6, c7, c8, c9], _ =>
  obtain ⟨⟨n0, rfl, w0⟩, ⟨n1, rfl, w1⟩, ⟨n2, rfl, w2⟩, ⟨n3, rfl, w3⟩, ⟨n4, rfl, w4⟩, ⟨n5, rfl, w5⟩, ⟨n6, rfl, w6⟩, ⟨n7, rfl, w7⟩, hp, hq, -⟩ := hf
  replace hp : TrodS K enc Tryz.prog w base spare held 24 c8 := hp
  replace hq : TrodS K enc Tryz.prog w base spare held 25 c9 := hq
  obtain ⟨p, rfl⟩ := slice_val Tryz.underlying24 hp
  obtain ⟨q, rfl⟩ := slice_val Tryz.underlying25 hq
  obtain ⟨ns, hns, wns⟩ := open_row encN Tryz.underlying24 (by kernel_rfl) hK (fun _ _ _ h hx => open_n hK h hx) hp
  obtain ⟨ls, hls, wls⟩ := open_row encK Tryz.underlying25 (by kernel_rfl) hK (fun _ _ _ h hx => open_k hK h hx) hq
  exact ⟨⟨⟨n0, n1, n2, n3, n4, n5, n6, n7⟩, p, q⟩, rfl, ⟨⟨n0, n1, n2, n3, n4, n5, n6, n7⟩, ns.map (·.d), ls⟩, ⟨rfl, ⟨ns, hns, fun n hn => (wns n hn).1, rfl⟩, hls⟩,
   v8_i (i64_lit w0) (i64_lit w1) (i64_lit w2) (i64_lit w3) (i64_lit w4) (i64_lit w5) (i64_lit w6) (i64_lit w7), fun d hd => by obtain ⟨n, hn, rfl⟩ := List.mem_map.1 hd; exact (wns n hn).2, wls⟩
end
end Go.Proofs.YtebpacmhdkgfeaaGreat

namespace Go.Proofs.YtebpacmhdkgfeaaGreat
open Go.RowKit
theorem stamp_ns (m : Mk) : ∀ w, (binOp .neq 44 (.agg #[.int .i64 m.boot, .int .i64 m.n]) (.agg #[.int .i64 m.boot, .int .i64 m.n])).run Tryz.prog w = .ok (.bool false) w := by
 have h : eqCells Tryz.prog 3 44 [.int .i64 m.boot, .int .i64 m.n] [.int .i64 m.boot, .int .i64 m.n] = some (m.boot == m.boot && (m.n == m.n && true)) := by kernel_rfl
 have e : (m.boot == m.boot && (m.n == m.n && true)) = true := by simp
 rw [e] at h
 exact run_neq_cells 3 (by decide) (by kernel_rfl) h
theorem vec_ns (v : V8) : ∀ w, (binOp .neq 23 v.val v.val).run Tryz.prog w = .ok (.bool false) w := by
 have h : eqCells Tryz.prog 3 23 v.cells v.cells = some (v.a0 == v.a0 && (v.a1 == v.a1 && (v.a2 == v.a2 && (v.a3 == v.a3 && (v.a4 == v.a4 && (v.a5 == v.a5 && (v.a6 == v.a6 && (v.a7 == v.a7 && true)))))))) := by kernel_rfl
 have e : (v.a0 == v.a0 && (v.a1 == v.a1 && (v.a2 == v.a2 && (v.a3 == v.a3 && (v.a4 == v.a4 && (v.a5 == v.a5 && (v.a6 == v.a6 && (v.a7 == v.a7 && true)))))))) = true := by simp
 rw [e] at h
 exact run_neq_cells 3 (by decide) (by kernel_rfl) h
def Atr.cells (a : Atr) : List Value := [.int .i64 a.at_.boot, .int .i64 a.at_.n, .int .i64 a.mode, .int .u64 a.time]
def Siz.cells (a : Siz) : List Value := [.int .i64 a.at_.boot, .int .i64 a.at_.n, .int .i64 a.n]
theorem neq_self {P : Program} {t : TypeId} {cs : List Value} (hag : isAggT P t = true) (h : eqCells P 6 t cs cs = some true) : ∀ w, (binOp .neq t (.agg cs.toArray) (.agg cs.toArray)).run P w = .ok (.bool false) w :=
 run_neq_cells 6 (by decide) hag h
theorem beq_ba (a b : ByteArray) : (a == b) = decide (a = b) := by
 rw [beq_toListBytes, ByteArray.toList_eq, ByteArray.toList_eq]
 obtain ⟨⟨x⟩⟩ := a
 obtain ⟨⟨y⟩⟩ := b
 rw [Bool.eq_iff_iff]; simp
theorem ba_self (s : ByteArray) : (s == s) = true := by rw [beq_ba]; simp
theorem attr_ns (a : Atr) : ∀ w, (binOp .neq 52 (.agg (a.cells).toArray) (.agg (a.cells).toArray)).run Tryz.prog w = .ok (.bool false) w := by
 have h : eqCells Tryz.prog 6 52 a.cells a.cells = some (((a.at_.boot == a.at_.boot) && ((a.at_.n == a.at_.n) && true)) && ((a.mode == a.mode) && ((a.time == a.time) && true))) := by kernel_rfl
 have e : (((a.at_.boot == a.at_.boot) && ((a.at_.n == a.at_.n) && true)) && ((a.mode == a.mode) && ((a.time == a.time) && true))) = true := by simp [ba_self]
 rw [e] at h
 exact neq_self (by kernel_rfl) h
theorem size_ns (a : Siz) : ∀ w, (binOp .neq 54 (.agg (a.cells).toArray) (.agg (a.cells).toArray)).run Tryz.prog w = .ok (.bool false) w := by
 have h : eqCells Tryz.prog 6 54 a.cells a.cells = some (((a.at_.boot == a.at_.boot) && ((a.at_.n == a.at_.n) && true)) && ((a.n == a.n) && true)) := by kernel_rfl
 have e : (((a.at_.boot == a.at_.boot) && ((a.at_.n == a.at_.n) && true)) && ((a.n == a.n) && true)) = true := by simp [ba_self]
 rw [e] at h
 exact neq_self (by kernel_rfl) h
theorem piece_ns (a : Pce) : ∀ w, (binOp .neq 61 (.agg (a.cells).toArray) (.agg (a.cells).toArray)).run Tryz.prog w = .ok (.bool false) w := by
 have h : eqCells Tryz.prog 6 61 a.cells a.cells = some ((a.idx == a.idx) && (((a.at_.boot == a.at_.boot) && ((a.at_.n == a.at_.n) && true)) && ((a.data == a.data) && true))) := by kernel_rfl
 have e : ((a.idx == a.idx) && (((a.at_.boot == a.at_.boot) && ((a.at_.n == a.at_.n) && true)) && ((a.data == a.data) && true))) = true := by simp [ba_self]
 rw [e] at h
 exact neq_self (by kernel_rfl) h
theorem xattr_ns (a : Xat) : ∀ w, (binOp .neq 64 (.agg (a.cells).toArray) (.agg (a.cells).toArray)).run Tryz.prog w = .ok (.bool false) w := by
 have h : eqCells Tryz.prog 6 64 a.cells a.cells = some ((a.name == a.name) && (((a.at_.boot == a.at_.boot) && ((a.at_.n == a.at_.n) && true)) && ((a.val == a.val) && ((a.gone == a.gone) && true)))) := by kernel_rfl
 have e : ((a.name == a.name) && (((a.at_.boot == a.at_.boot) && ((a.at_.n == a.at_.n) && true)) && ((a.val == a.val) && ((a.gone == a.gone) && true)))) = true := by simp [ba_self]
 rw [e] at h
 exact neq_self (by kernel_rfl) h
theorem link_ns (a : Lnk) : ∀ w, (binOp .neq 46 (.agg (a.cells).toArray) (.agg (a.cells).toArray)).run Tryz.prog w = .ok (.bool false) w := by
 have h : eqCells Tryz.prog 6 46 a.cells a.cells = some (((a.id.boot == a.id.boot) && ((a.id.n == a.id.n) && true)) && (((a.node.boot == a.node.boot) && ((a.node.n == a.node.n) && true)) && (((a.at_.boot == a.at_.boot) && ((a.at_.n == a.at_.n) && true)) && (((a.parent.boot == a.parent.boot) && ((a.parent.n == a.parent.n) && true)) && ((a.name == a.name) && (((a.alive.a0 == a.alive.a0) && ((a.alive.a1 == a.alive.a1) && ((a.alive.a2 == a.alive.a2) && ((a.alive.a3 == a.alive.a3) && ((a.alive.a4 == a.alive.a4) && ((a.alive.a5 == a.alive.a5) && ((a.alive.a6 == a.alive.a6) && ((a.alive.a7 == a.alive.a7) && true)))))))) && (((a.dead.a0 == a.dead.a0) && ((a.dead.a1 == a.dead.a1) && ((a.dead.a2 == a.dead.a2) && ((a.dead.a3 == a.dead.a3) && ((a.dead.a4 == a.dead.a4) && ((a.dead.a5 == a.dead.a5) && ((a.dead.a6 == a.dead.a6) && ((a.dead.a7 == a.dead.a7) && true)))))))) && true))))))) := by kernel_rfl
 have e : (((a.id.boot == a.id.boot) && ((a.id.n == a.id.n) && true)) && (((a.node.boot == a.node.boot) && ((a.node.n == a.node.n) && true)) && (((a.at_.boot == a.at_.boot) && ((a.at_.n == a.at_.n) && true)) && (((a.parent.boot == a.parent.boot) && ((a.parent.n == a.parent.n) && true)) && ((a.name == a.name) && (((a.alive.a0 == a.alive.a0) && ((a.alive.a1 == a.alive.a1) && ((a.alive.a2 == a.alive.a2) && ((a.alive.a3 == a.alive.a3) && ((a.alive.a4 == a.alive.a4) && ((a.alive.a5 == a.alive.a5) && ((a.alive.a6 == a.alive.a6) && ((a.alive.a7 == a.alive.a7) && true)))))))) && (((a.dead.a0 == a.dead.a0) && ((a.dead.a1 == a.dead.a1) && ((a.dead.a2 == a.dead.a2) && ((a.dead.a3 == a.dead.a3) && ((a.dead.a4 == a.dead.a4) && ((a.dead.a5 == a.dead.a5) && ((a.dead.a6 == a.dead.a6) && ((a.dead.a7 == a.dead.a7) && true)))))))) && true))))))) = true := by simp [ba_self]
 rw [e] at h
 exact neq_self (by kernel_rfl) h
end Go.Proofs.YtebpacmhdkgfeaaGreat

namespace Go.Proofs.YtebpacmhdkgfeaaGreat
open Go.RowKit
set_option maxHeartbeats 2000000
def flagI (b : Bool) : Int := if b = true then 1 else 0
theorem cmpI (a b : Int) (w : World) : Calls Tryz.prog 79 #[.int .i64 a, .int .i64 b] w fun e w' => e = .returned (.int .i64 (icmp a b)) ∧ Below w.heap.size w w' := (compare_int a b w).mono fun _ _ ⟨h, e⟩ => ⟨h, by rw [e]; exact Below.refl _ _⟩
theorem cmpU (a b : Int) (w : World) : Calls Tryz.prog 161 #[.int .u64 a, .int .u64 b] w fun e w' => e = .returned (.int .i64 (icmp a b)) ∧ Below w.heap.size w w' := (compare_uint64 a b w).mono fun _ _ ⟨h, e⟩ => ⟨h, by rw [e]; exact Below.refl _ _⟩
theorem cmpS (a b : ByteArray) (w : World) : Calls Tryz.prog 98 #[.string a, .string b] w fun e w' => e = .returned (.int .i64 (scmp a b)) ∧ Below w.heap.size w w' := (compare_string a b w).mono fun _ _ ⟨h, e⟩ => ⟨h, by rw [e]; exact Below.refl _ _⟩
theorem join_flag (b : Bool) (w : World) : Calls Tryz.prog 169 #[.bool b] w fun e w' => e = .returned (.int .i64 (flagI b)) ∧ Below w.heap.size w w' := by
 cases b
 ·go_enter Tryz.func169, Tryz.ntmps169
  go_wp2
  go_ret
  exact ⟨rfl, Below.refl _ _⟩
 ·go_enter Tryz.func169, Tryz.ntmps169
  go_wp2
  go_ret
  exact ⟨rfl, Below.refl _ _⟩
def Mk.cmps (a b : Mk) : Int := orL [icmp a.boot b.boot, icmp a.n b.n]
theorem join_stamps (a b : Mk) (w : World) : Calls Tryz.prog 31 #[.agg #[.int .i64 a.boot, .int .i64 a.n], .agg #[.int .i64 b.boot, .int .i64 b.n]] w fun e w' => e = .returned (.int .i64 (a.cmps b)) ∧ Below w.heap.size w w' := by
 have hL := Loc.nil w NoM
 unfold Mk.cmps
 obtain ⟨r0, hr0⟩ : ∃ r, r = icmp a.boot b.boot := ⟨_, rfl⟩
 rw [← hr0]
 have hq0 := kD (fun wx => cmpI a.boot b.boot wx)
 rw [← hr0] at hq0
 clear hr0
 obtain ⟨r1, hr1⟩ : ∃ r, r = icmp a.n b.n := ⟨_, rfl⟩
 rw [← hr1]
 have hq1 := kD (fun wx => cmpI a.n b.n wx)
 rw [← hr1] at hq1
 clear hr1
 go_enter Tryz.func31, Tryz.ntmps31
 go_wp2_with (first | ((with_reducible refine gate (N := 2) rfl ?_); (refine lJ rfl hL rfl rfl cy ?_; clear hL; intro g2 w2 hL)) | ((with_reducible refine gate (N := 3) rfl ?_); (refine lJ rfl hL rfl rfl cy ?_; clear hL; intro g3 w3 hL)))
 refine region_qtail 10 (by kernel_rfl) hL (by kernel_rfl) ?_
 clear hL
 intro w8 hL
 simp only [List.take_succ_cons, List.take_zero, List.drop_succ_cons, List.drop_zero]
 repeat (first | (go_big_quiet_want; (first | refine qH hL rfl rfl vM (by rfl) ?_ | refine qG hL rfl rfl vM (by rfl) ?_ | refine qI hL rfl rfl vM SegC.seg ?_); go_big_quiet_on; simp only [Act.put, zs, zt, zu]) | go_big_quiet_step (first | (go_at_call 79; with_reducible exact calls_ext (hq0.out _)) | (go_at_call 79; with_reducible exact calls_ext (hq1.out _))))
 refine wpQuiet_nil ?_
 rintro _ ⟨⟨w9, hb9⟩, rfl⟩
 replace hL := hL.call hb9
 clear hb9
 go_wp2_with (first
  | ((with_reducible refine gate (N := 15) rfl ?_); refine lM (cs := [.int .i64 r0, .int .i64 r1]) rfl hL rfl rfl rfl (by kernel_rfl) ?_; clear hL; intro gq wq hL)
  | (go_at_call 78; have hq := cmp_or (.slice (some ⟨gq, 0, none⟩) 2 2) [r0, r1] _ (R_box (E := encI .i64) (t := 3) [r0, r1] (hL.box mx) rfl (by simp)); (with_reducible refine hq.mono ?_); rintro e w5 ⟨rfl, rfl⟩; clear hq))
 go_ret
 exact ⟨rfl, hL.below⟩
def Atr.cmps (a b : Atr) : Int := orL [a.at_.cmps b.at_, icmp a.mode b.mode, icmp a.time b.time]
theorem join_attrs (a b : Atr) (w : World) : Calls Tryz.prog 81 #[.agg #[.int .i64 a.at_.boot, .int .i64 a.at_.n, .int .i64 a.mode, .int .u64 a.time], .agg #[.int .i64 b.at_.boot, .int .i64 b.at_.n, .int .i64 b.mode, .int .u64 b.time]] w fun e w' => e = .returned (.int .i64 (a.cmps b)) ∧ Below w.heap.size w w' := by
 have hL := Loc.nil w NoM
 unfold Atr.cmps
 obtain ⟨r0, hr0⟩ : ∃ r, r = a.at_.cmps b.at_ := ⟨_, rfl⟩
 rw [← hr0]
 have hq0 := kD (fun wx => join_stamps a.at_ b.at_ wx)
 rw [← hr0] at hq0
 clear hr0
 obtain ⟨r1, hr1⟩ : ∃ r, r = icmp a.mode b.mode := ⟨_, rfl⟩
 rw [← hr1]
 have hq1 := kD (fun wx => cmpI a.mode b.mode wx)
 rw [← hr1] at hq1
 clear hr1
 obtain ⟨r2, hr2⟩ : ∃ r, r = icmp a.time b.time := ⟨_, rfl⟩
 rw [← hr2]
 have hq2 := kD (fun wx => cmpU a.time b.time wx)
 rw [← hr2] at hq2
 clear hr2
 go_enter Tryz.func81, Tryz.ntmps81
 go_wp2_with (first | ((with_reducible refine gate (N := 2) rfl ?_); (refine lJ rfl hL rfl rfl cy ?_; clear hL; intro g2 w2 hL)) | ((with_reducible refine gate (N := 3) rfl ?_); (refine lJ rfl hL rfl rfl cy ?_; clear hL; intro g3 w3 hL)))
 refine region_qtail 15 (by kernel_rfl) hL (by kernel_rfl) ?_
 clear hL
 intro w8 hL
 simp only [List.take_succ_cons, List.take_zero, List.drop_succ_cons, List.drop_zero]
 repeat (first | (go_big_quiet_want; (first | refine qH hL rfl rfl vM (by rfl) ?_ | refine qG hL rfl rfl vM (by rfl) ?_ | refine qI hL rfl rfl vM SegC.seg ?_); go_big_quiet_on; simp only [Act.put, zs, zt, zu]) | go_big_quiet_step (first | (go_at_call 31; with_reducible exact calls_ext (hq0.out _)) | (go_at_call 79; with_reducible exact calls_ext (hq1.out _)) | (go_at_call 161; with_reducible exact calls_ext (hq2.out _))))
 refine wpQuiet_nil ?_
 rintro _ ⟨⟨w9, hb9⟩, rfl⟩
 replace hL := hL.call hb9
 clear hb9
 go_wp2_with (first
  | ((with_reducible refine gate (N := 20) rfl ?_); refine lM (cs := [.int .i64 r0, .int .i64 r1, .int .i64 r2]) rfl hL rfl rfl rfl (by kernel_rfl) ?_; clear hL; intro gq wq hL)
  | (go_at_call 78; have hq := cmp_or (.slice (some ⟨gq, 0, none⟩) 3 3) [r0, r1, r2] _ (R_box (E := encI .i64) (t := 3) [r0, r1, r2] (hL.box mx) rfl (by simp)); (with_reducible refine hq.mono ?_); rintro e w5 ⟨rfl, rfl⟩; clear hq))
 go_ret
 exact ⟨rfl, hL.below⟩
def Siz.cmps (a b : Siz) : Int := orL [a.at_.cmps b.at_, icmp a.n b.n]
theorem join_sizes (a b : Siz) (w : World) : Calls Tryz.prog 83 #[.agg #[.int .i64 a.at_.boot, .int .i64 a.at_.n, .int .i64 a.n], .agg #[.int .i64 b.at_.boot, .int .i64 b.at_.n, .int .i64 b.n]] w fun e w' => e = .returned (.int .i64 (a.cmps b)) ∧ Below w.heap.size w w' := by
 have hL := Loc.nil w NoM
 unfold Siz.cmps
 obtain ⟨r0, hr0⟩ : ∃ r, r = a.at_.cmps b.at_ := ⟨_, rfl⟩
 rw [← hr0]
 have hq0 := kD (fun wx => join_stamps a.at_ b.at_ wx)
 rw [← hr0] at hq0
 clear hr0
 obtain ⟨r1, hr1⟩ : ∃ r, r = icmp a.n b.n := ⟨_, rfl⟩
 rw [← hr1]
 have hq1 := kD (fun wx => cmpI a.n b.n wx)
 rw [← hr1] at hq1
 clear hr1
 go_enter Tryz.func83, Tryz.ntmps83
 go_wp2_with (first | ((with_reducible refine gate (N := 2) rfl ?_); (refine lJ rfl hL rfl rfl cy ?_; clear hL; intro g2 w2 hL)) | ((with_reducible refine gate (N := 3) rfl ?_); (refine lJ rfl hL rfl rfl cy ?_; clear hL; intro g3 w3 hL)))
 refine region_qtail 10 (by kernel_rfl) hL (by kernel_rfl) ?_
 clear hL
 intro w8 hL
 simp only [List.take_succ_cons, List.take_zero, List.drop_succ_cons, List.drop_zero]
 repeat (first | (go_big_quiet_want; (first | refine qH hL rfl rfl vM (by rfl) ?_ | refine qG hL rfl rfl vM (by rfl) ?_ | refine qI hL rfl rfl vM SegC.seg ?_); go_big_quiet_on; simp only [Act.put, zs, zt, zu]) | go_big_quiet_step (first | (go_at_call 31; with_reducible exact calls_ext (hq0.out _)) | (go_at_call 79; with_reducible exact calls_ext (hq1.out _))))
 refine wpQuiet_nil ?_
 rintro _ ⟨⟨w9, hb9⟩, rfl⟩
 replace hL := hL.call hb9
 clear hb9
 go_wp2_with (first
  | ((with_reducible refine gate (N := 15) rfl ?_); refine lM (cs := [.int .i64 r0, .int .i64 r1]) rfl hL rfl rfl rfl (by kernel_rfl) ?_; clear hL; intro gq wq hL)
  | (go_at_call 78; have hq := cmp_or (.slice (some ⟨gq, 0, none⟩) 2 2) [r0, r1] _ (R_box (E := encI .i64) (t := 3) [r0, r1] (hL.box mx) rfl (by simp)); (with_reducible refine hq.mono ?_); rintro e w5 ⟨rfl, rfl⟩; clear hq))
 go_ret
 exact ⟨rfl, hL.below⟩
def Pce.cmps (a b : Pce) : Int := orL [a.at_.cmps b.at_, scmp a.data b.data]
theorem join_pieces (a b : Pce) (w : World) : Calls Tryz.prog 95 #[.agg #[.int .i64 a.idx, .int .i64 a.at_.boot, .int .i64 a.at_.n, .string a.data], .agg #[.int .i64 b.idx, .int .i64 b.at_.boot, .int .i64 b.at_.n, .string b.data]] w fun e w' => e = .returned (.int .i64 (a.cmps b)) ∧ Below w.heap.size w w' := by
 have hL := Loc.nil w NoM
 unfold Pce.cmps
 obtain ⟨r0, hr0⟩ : ∃ r, r = a.at_.cmps b.at_ := ⟨_, rfl⟩
 rw [← hr0]
 have hq0 := kD (fun wx => join_stamps a.at_ b.at_ wx)
 rw [← hr0] at hq0
 clear hr0
 obtain ⟨r1, hr1⟩ : ∃ r, r = scmp a.data b.data := ⟨_, rfl⟩
 rw [← hr1]
 have hq1 := kD (fun wx => cmpS a.data b.data wx)
 rw [← hr1] at hq1
 clear hr1
 go_enter Tryz.func95, Tryz.ntmps95
 go_wp2_with (first | ((with_reducible refine gate (N := 2) rfl ?_); (refine lJ rfl hL rfl rfl cy ?_; clear hL; intro g2 w2 hL)) | ((with_reducible refine gate (N := 3) rfl ?_); (refine lJ rfl hL rfl rfl cy ?_; clear hL; intro g3 w3 hL)))
 refine region_qtail 10 (by kernel_rfl) hL (by kernel_rfl) ?_
 clear hL
 intro w8 hL
 simp only [List.take_succ_cons, List.take_zero, List.drop_succ_cons, List.drop_zero]
 repeat (first | (go_big_quiet_want; (first | refine qH hL rfl rfl vM (by rfl) ?_ | refine qG hL rfl rfl vM (by rfl) ?_ | refine qI hL rfl rfl vM SegC.seg ?_); go_big_quiet_on; simp only [Act.put, zs, zt, zu]) | go_big_quiet_step (first | (go_at_call 31; with_reducible exact calls_ext (hq0.out _)) | (go_at_call 98; with_reducible exact calls_ext (hq1.out _))))
 refine wpQuiet_nil ?_
 rintro _ ⟨⟨w9, hb9⟩, rfl⟩
 replace hL := hL.call hb9
 clear hb9
 go_wp2_with (first
  | ((with_reducible refine gate (N := 15) rfl ?_); refine lM (cs := [.int .i64 r0, .int .i64 r1]) rfl hL rfl rfl rfl (by kernel_rfl) ?_; clear hL; intro gq wq hL)
  | (go_at_call 78; have hq := cmp_or (.slice (some ⟨gq, 0, none⟩) 2 2) [r0, r1] _ (R_box (E := encI .i64) (t := 3) [r0, r1] (hL.box mx) rfl (by simp)); (with_reducible refine hq.mono ?_); rintro e w5 ⟨rfl, rfl⟩; clear hq))
 go_ret
 exact ⟨rfl, hL.below⟩
def Xat.cmps (a b : Xat) : Int := orL [a.at_.cmps b.at_, icmp (flagI a.gone) (flagI b.gone), scmp a.val b.val]
theorem join_xattrs (a b : Xat) (w : World) : Calls Tryz.prog 101 #[.agg #[.string a.name, .int .i64 a.at_.boot, .int .i64 a.at_.n, .string a.val, .bool a.gone], .agg #[.string b.name, .int .i64 b.at_.boot, .int .i64 b.at_.n, .string b.val, .bool b.gone]] w fun e w' => e = .returned (.int .i64 (a.cmps b)) ∧ Below w.heap.size w w' := by
 have hL := Loc.nil w NoM
 unfold Xat.cmps
 obtain ⟨r0, hr0⟩ : ∃ r, r = a.at_.cmps b.at_ := ⟨_, rfl⟩
 rw [← hr0]
 have hq0 := kD (fun wx => join_stamps a.at_ b.at_ wx)
 rw [← hr0] at hq0
 clear hr0
 obtain ⟨r1, hr1⟩ : ∃ r, r = icmp (flagI a.gone) (flagI b.gone) := ⟨_, rfl⟩
 rw [← hr1]
 have hq1 := kD (fun wx => cmpI (flagI a.gone) (flagI b.gone) wx)
 rw [← hr1] at hq1
 clear hr1
 obtain ⟨r2, hr2⟩ : ∃ r, r = scmp a.val b.val := ⟨_, rfl⟩
 rw [← hr2]
 have hq2 := kD (fun wx => cmpS a.val b.val wx)
 rw [← hr2] at hq2
 clear hr2
 have hf0 := kD (fun wx => join_flag a.gone wx)
 have hf1 := kD (fun wx => join_flag b.gone wx)
 generalize flagI a.gone = f0 at *
 generalize flagI b.gone = f1 at *
 go_enter Tryz.func101, Tryz.ntmps101
 go_wp2_with (first | ((with_reducible refine gate (N := 2) rfl ?_); (refine lJ rfl hL rfl rfl cy ?_; clear hL; intro g2 w2 hL)) | ((with_reducible refine gate (N := 3) rfl ?_); (refine lJ rfl hL rfl rfl cy ?_; clear hL; intro g3 w3 hL)))
 refine region_qtail 17 (by kernel_rfl) hL (by kernel_rfl) ?_
 clear hL
 intro w8 hL
 simp only [List.take_succ_cons, List.take_zero, List.drop_succ_cons, List.drop_zero]
 repeat (first | (go_big_quiet_want; (first | refine qH hL rfl rfl vM (by rfl) ?_ | refine qG hL rfl rfl vM (by rfl) ?_ | refine qI hL rfl rfl vM SegC.seg ?_); go_big_quiet_on; simp only [Act.put, zs, zt, zu]) | go_big_quiet_step (first | (go_at_call 31; with_reducible exact calls_ext (hq0.out _)) | (go_at_call 79; with_reducible exact calls_ext (hq1.out _)) | (go_at_call 98; with_reducible exact calls_ext (hq2.out _)) | (go_at_call 169; with_reducible exact calls_ext (hf0.out _)) | (go_at_call 169; with_reducible exact calls_ext (hf1.out _))))
 refine wpQuiet_nil ?_
 rintro _ ⟨⟨w9, hb9⟩, rfl⟩
 replace hL := hL.call hb9
 clear hb9
 go_wp2_with (first
  | ((with_reducible refine gate (N := 22) rfl ?_); refine lM (cs := [.int .i64 r0, .int .i64 r1, .int .i64 r2]) rfl hL rfl rfl rfl (by kernel_rfl) ?_; clear hL; intro gq wq hL)
  | (go_at_call 78; have hq := cmp_or (.slice (some ⟨gq, 0, none⟩) 3 3) [r0, r1, r2] _ (R_box (E := encI .i64) (t := 3) [r0, r1, r2] (hL.box mx) rfl (by simp)); (with_reducible refine hq.mono ?_); rintro e w5 ⟨rfl, rfl⟩; clear hq))
 go_ret
 exact ⟨rfl, hL.below⟩
def Lnk.cmps (a b : Lnk) : Int := orL [a.at_.cmps b.at_, a.parent.cmps b.parent, scmp a.name b.name]
theorem join_places (a b : Lnk) (w : World) : Calls Tryz.prog 89 #[.agg #[.int .i64 a.id.boot, .int .i64 a.id.n, .int .i64 a.node.boot, .int .i64 a.node.n, .int .i64 a.at_.boot, .int .i64 a.at_.n, .int .i64 a.parent.boot, .int .i64 a.parent.n, .string a.name, .int .i64 a.alive.a0, .int .i64 a.alive.a1, .int .i64 a.alive.a2, .int .i64 a.alive.a3, .int .i64 a.alive.a4, .int .i64 a.alive.a5, .int .i64 a.alive.a6, .int .i64 a.alive.a7, .int .i64 a.dead.a0, .int .i64 a.dead.a1, .int .i64 a.dead.a2, .int .i64 a.dead.a3, .int .i64 a.dead.a4, .int .i64 a.dead.a5, .int .i64 a.dead.a6, .int .i64 a.dead.a7], .agg #[.int .i64 b.id.boot, .int .i64 b.id.n, .int .i64 b.node.boot, .int .i64 b.node.n, .int .i64 b.at_.boot, .int .i64 b.at_.n, .int .i64 b.parent.boot, .int .i64 b.parent.n, .string b.name, .int .i64 b.alive.a0, .int .i64 b.alive.a1, .int .i64 b.alive.a2, .int .i64 b.alive.a3, .int .i64 b.alive.a4, .int .i64 b.alive.a5, .int .i64 b.alive.a6, .int .i64 b.alive.a7, .int .i64 b.dead.a0, .int .i64 b.dead.a1, .int .i64 b.dead.a2, .int .i64 b.dead.a3, .int .i64 b.dead.a4, .int .i64 b.dead.a5, .int .i64 b.dead.a6, .int .i64 b.dead.a7]] w fun e w' => e = .returned (.int .i64 (a.cmps b)) ∧ Below w.heap.size w w' := by
 have hL := Loc.nil w NoM
 unfold Lnk.cmps
 obtain ⟨r0, hr0⟩ : ∃ r, r = a.at_.cmps b.at_ := ⟨_, rfl⟩
 rw [← hr0]
 have hq0 := kD (fun wx => join_stamps a.at_ b.at_ wx)
 rw [← hr0] at hq0
 clear hr0
 obtain ⟨r1, hr1⟩ : ∃ r, r = a.parent.cmps b.parent := ⟨_, rfl⟩
 rw [← hr1]
 have hq1 := kD (fun wx => join_stamps a.parent b.parent wx)
 rw [← hr1] at hq1
 clear hr1
 obtain ⟨r2, hr2⟩ : ∃ r, r = scmp a.name b.name := ⟨_, rfl⟩
 rw [← hr2]
 have hq2 := kD (fun wx => cmpS a.name b.name wx)
 rw [← hr2] at hq2
 clear hr2
 go_enter Tryz.func89, Tryz.ntmps89
 go_wp2_with (first | ((with_reducible refine gate (N := 2) rfl ?_); (refine lJ rfl hL rfl rfl cy ?_; clear hL; intro g2 w2 hL)) | ((with_reducible refine gate (N := 3) rfl ?_); (refine lJ rfl hL rfl rfl cy ?_; clear hL; intro g3 w3 hL)))
 refine region_qtail 15 (by kernel_rfl) hL (by kernel_rfl) ?_
 clear hL
 intro w8 hL
 simp only [List.take_succ_cons, List.take_zero, List.drop_succ_cons, List.drop_zero]
 repeat (first | (go_big_quiet_want; (first | refine qH hL rfl rfl vM (by rfl) ?_ | refine qG hL rfl rfl vM (by rfl) ?_ | refine qI hL rfl rfl vM SegC.seg ?_); go_big_quiet_on; simp only [Act.put, zs, zt, zu]) | go_big_quiet_step (first | (go_at_call 31; with_reducible exact calls_ext (hq0.out _)) | (go_at_call 31; with_reducible exact calls_ext (hq1.out _)) | (go_at_call 98; with_reducible exact calls_ext (hq2.out _))))
 refine wpQuiet_nil ?_
 rintro _ ⟨⟨w9, hb9⟩, rfl⟩
 replace hL := hL.call hb9
 clear hb9
 go_wp2_with (first
  | ((with_reducible refine gate (N := 20) rfl ?_); refine lM (cs := [.int .i64 r0, .int .i64 r1, .int .i64 r2]) rfl hL rfl rfl rfl (by kernel_rfl) ?_; clear hL; intro gq wq hL)
  | (go_at_call 78; have hq := cmp_or (.slice (some ⟨gq, 0, none⟩) 3 3) [r0, r1, r2] _ (R_box (E := encI .i64) (t := 3) [r0, r1, r2] (hL.box mx) rfl (by simp)); (with_reducible refine hq.mono ?_); rintro e w5 ⟨rfl, rfl⟩; clear hq))
 go_ret
 exact ⟨rfl, hL.below⟩
end Go.Proofs.YtebpacmhdkgfeaaGreat

namespace Go.Proofs.YtebpacmhdkgfeaaGreat
open Go.RowKit
set_option maxHeartbeats 2000000
def Mk.top (a b : Mk) : Mk := if a.cmps b < 0 then b else a
theorem greater_Mk (a b : Mk) (w : World) : Calls Tryz.prog 90 #[.agg #[.int .i64 a.boot, .int .i64 a.n], .agg #[.int .i64 b.boot, .int .i64 b.n], .func (.func 31) #[] #[]] w fun e w' => (∃ c, c = a.top b ∧ e = .returned (.agg #[.int .i64 c.boot, .int .i64 c.n])) ∧ Below w.heap.size w w' := by
 have hL := Loc.nil w NoM
 have hq := kD (fun wx => join_stamps a b wx)
 by_cases h : a.cmps b < 0
 ·have ht : a.top b = b := if_pos h
  have t1 : decide (a.cmps b < 0) = true := decide_eq_true h
  rw [ht]
  generalize a.cmps b = r at *
  clear ht
  go_enter Tryz.func90, Tryz.ntmps90
  go_wp2_with (first
   | ((with_reducible refine gate (N := 3) rfl ?_); (refine lJ rfl hL rfl rfl cy ?_; clear hL; intro g3 w3 hL)) | ((with_reducible refine gate (N := 4) rfl ?_); (refine lJ rfl hL rfl rfl cy ?_; clear hL; intro g4 w4 hL))
   | (go_at_call 31; (with_reducible refine (hq.out _).mono ?_); rintro e w5 ⟨rfl, hb5⟩; have hL := hL.call hb5; clear hb5)
   | ((with_reducible refine qD rfl rfl ?_); (refine lI rfl hL rfl cy ?_; clear hL; intro gq wq hL)) | ((with_reducible refine qB rfl rfl ?_); (refine lA rfl hL rfl rfl vM (by rfl) ?_)) | ((with_reducible refine qC rfl rfl ?_); (refine lH rfl hL rfl rfl rfl cy (by rfl) ?_); clear hL; intro wq hL))
  exact bodyPost_ret (res_cell rfl hL _ rfl vM (by rfl)) rfl ⟨⟨b, rfl, rfl⟩, hL.below⟩
 ·have ht : a.top b = a := if_neg h
  have t1 : decide (a.cmps b < 0) = false := decide_eq_false h
  rw [ht]
  generalize a.cmps b = r at *
  clear ht
  go_enter Tryz.func90, Tryz.ntmps90
  go_wp2_with (first
   | ((with_reducible refine gate (N := 3) rfl ?_); (refine lJ rfl hL rfl rfl cy ?_; clear hL; intro g3 w3 hL)) | ((with_reducible refine gate (N := 4) rfl ?_); (refine lJ rfl hL rfl rfl cy ?_; clear hL; intro g4 w4 hL))
   | (go_at_call 31; (with_reducible refine (hq.out _).mono ?_); rintro e w5 ⟨rfl, hb5⟩; have hL := hL.call hb5; clear hb5)
   | ((with_reducible refine qD rfl rfl ?_); (refine lI rfl hL rfl cy ?_; clear hL; intro gq wq hL)) | ((with_reducible refine qB rfl rfl ?_); (refine lA rfl hL rfl rfl vM (by rfl) ?_)) | ((with_reducible refine qC rfl rfl ?_); (refine lH rfl hL rfl rfl rfl cy (by rfl) ?_); clear hL; intro wq hL))
  exact bodyPost_ret (res_cell rfl hL _ rfl vM (by rfl)) rfl ⟨⟨a, rfl, rfl⟩, hL.below⟩
def Atr.top (a b : Atr) : Atr := if a.cmps b < 0 then b else a
theorem greater_Atr (a b : Atr) (w : World) : Calls Tryz.prog 80 #[.agg #[.int .i64 a.at_.boot, .int .i64 a.at_.n, .int .i64 a.mode, .int .u64 a.time], .agg #[.int .i64 b.at_.boot, .int .i64 b.at_.n, .int .i64 b.mode, .int .u64 b.time], .func (.func 81) #[] #[]] w fun e w' => (∃ c, c = a.top b ∧ e = .returned (.agg #[.int .i64 c.at_.boot, .int .i64 c.at_.n, .int .i64 c.mode, .int .u64 c.time])) ∧ Below w.heap.size w w' := by
 have hL := Loc.nil w NoM
 have hq := kD (fun wx => join_attrs a b wx)
 by_cases h : a.cmps b < 0
 ·have ht : a.top b = b := if_pos h
  have t1 : decide (a.cmps b < 0) = true := decide_eq_true h
  rw [ht]
  generalize a.cmps b = r at *
  clear ht
  go_enter Tryz.func80, Tryz.ntmps80
  go_wp2_with (first
   | ((with_reducible refine gate (N := 3) rfl ?_); (refine lJ rfl hL rfl rfl cy ?_; clear hL; intro g3 w3 hL)) | ((with_reducible refine gate (N := 4) rfl ?_); (refine lJ rfl hL rfl rfl cy ?_; clear hL; intro g4 w4 hL))
   | (go_at_call 81; (with_reducible refine (hq.out _).mono ?_); rintro e w5 ⟨rfl, hb5⟩; have hL := hL.call hb5; clear hb5)
   | ((with_reducible refine qD rfl rfl ?_); (refine lI rfl hL rfl cy ?_; clear hL; intro gq wq hL)) | ((with_reducible refine qB rfl rfl ?_); (refine lA rfl hL rfl rfl vM (by rfl) ?_)) | ((with_reducible refine qC rfl rfl ?_); (refine lH rfl hL rfl rfl rfl cy (by rfl) ?_); clear hL; intro wq hL))
  exact bodyPost_ret (res_cell rfl hL _ rfl vM (by rfl)) rfl ⟨⟨b, rfl, rfl⟩, hL.below⟩
 ·have ht : a.top b = a := if_neg h
  have t1 : decide (a.cmps b < 0) = false := decide_eq_false h
  rw [ht]
  generalize a.cmps b = r at *
  clear ht
  go_enter Tryz.func80, Tryz.ntmps80
  go_wp2_with (first
   | ((with_reducible refine gate (N := 3) rfl ?_); (refine lJ rfl hL rfl rfl cy ?_; clear hL; intro g3 w3 hL)) | ((with_reducible refine gate (N := 4) rfl ?_); (refine lJ rfl hL rfl rfl cy ?_; clear hL; intro g4 w4 hL))
   | (go_at_call 81; (with_reducible refine (hq.out _).mono ?_); rintro e w5 ⟨rfl, hb5⟩; have hL := hL.call hb5; clear hb5)
   | ((with_reducible refine qD rfl rfl ?_); (refine lI rfl hL rfl cy ?_; clear hL; intro gq wq hL)) | ((with_reducible refine qB rfl rfl ?_); (refine lA rfl hL rfl rfl vM (by rfl) ?_)) | ((with_reducible refine qC rfl rfl ?_); (refine lH rfl hL rfl rfl rfl cy (by rfl) ?_); clear hL; intro wq hL))
  exact bodyPost_ret (res_cell rfl hL _ rfl vM (by rfl)) rfl ⟨⟨a, rfl, rfl⟩, hL.below⟩
def Siz.top (a b : Siz) : Siz := if a.cmps b < 0 then b else a
theorem greater_Siz (a b : Siz) (w : World) : Calls Tryz.prog 82 #[.agg #[.int .i64 a.at_.boot, .int .i64 a.at_.n, .int .i64 a.n], .agg #[.int .i64 b.at_.boot, .int .i64 b.at_.n, .int .i64 b.n], .func (.func 83) #[] #[]] w fun e w' => (∃ c, c = a.top b ∧ e = .returned (.agg #[.int .i64 c.at_.boot, .int .i64 c.at_.n, .int .i64 c.n])) ∧ Below w.heap.size w w' := by
 have hL := Loc.nil w NoM
 have hq := kD (fun wx => join_sizes a b wx)
 by_cases h : a.cmps b < 0
 ·have ht : a.top b = b := if_pos h
  have t1 : decide (a.cmps b < 0) = true := decide_eq_true h
  rw [ht]
  generalize a.cmps b = r at *
  clear ht
  go_enter Tryz.func82, Tryz.ntmps82
  go_wp2_with (first
   | ((with_reducible refine gate (N := 3) rfl ?_); (refine lJ rfl hL rfl rfl cy ?_; clear hL; intro g3 w3 hL)) | ((with_reducible refine gate (N := 4) rfl ?_); (refine lJ rfl hL rfl rfl cy ?_; clear hL; intro g4 w4 hL))
   | (go_at_call 83; (with_reducible refine (hq.out _).mono ?_); rintro e w5 ⟨rfl, hb5⟩; have hL := hL.call hb5; clear hb5)
   | ((with_reducible refine qD rfl rfl ?_); (refine lI rfl hL rfl cy ?_; clear hL; intro gq wq hL)) | ((with_reducible refine qB rfl rfl ?_); (refine lA rfl hL rfl rfl vM (by rfl) ?_)) | ((with_reducible refine qC rfl rfl ?_); (refine lH rfl hL rfl rfl rfl cy (by rfl) ?_); clear hL; intro wq hL))
  exact bodyPost_ret (res_cell rfl hL _ rfl vM (by rfl)) rfl ⟨⟨b, rfl, rfl⟩, hL.below⟩
 ·have ht : a.top b = a := if_neg h
  have t1 : decide (a.cmps b < 0) = false := decide_eq_false h
  rw [ht]
  generalize a.cmps b = r at *
  clear ht
  go_enter Tryz.func82, Tryz.ntmps82
  go_wp2_with (first
   | ((with_reducible refine gate (N := 3) rfl ?_); (refine lJ rfl hL rfl rfl cy ?_; clear hL; intro g3 w3 hL)) | ((with_reducible refine gate (N := 4) rfl ?_); (refine lJ rfl hL rfl rfl cy ?_; clear hL; intro g4 w4 hL))
   | (go_at_call 83; (with_reducible refine (hq.out _).mono ?_); rintro e w5 ⟨rfl, hb5⟩; have hL := hL.call hb5; clear hb5)
   | ((with_reducible refine qD rfl rfl ?_); (refine lI rfl hL rfl cy ?_; clear hL; intro gq wq hL)) | ((with_reducible refine qB rfl rfl ?_); (refine lA rfl hL rfl rfl vM (by rfl) ?_)) | ((with_reducible refine qC rfl rfl ?_); (refine lH rfl hL rfl rfl rfl cy (by rfl) ?_); clear hL; intro wq hL))
  exact bodyPost_ret (res_cell rfl hL _ rfl vM (by rfl)) rfl ⟨⟨a, rfl, rfl⟩, hL.below⟩
def Pce.top (a b : Pce) : Pce := if a.cmps b < 0 then b else a
theorem greater_Pce (a b : Pce) (w : World) : Calls Tryz.prog 94 #[.agg #[.int .i64 a.idx, .int .i64 a.at_.boot, .int .i64 a.at_.n, .string a.data], .agg #[.int .i64 b.idx, .int .i64 b.at_.boot, .int .i64 b.at_.n, .string b.data], .func (.func 95) #[] #[]] w fun e w' => (∃ c, c = a.top b ∧ e = .returned (.agg #[.int .i64 c.idx, .int .i64 c.at_.boot, .int .i64 c.at_.n, .string c.data])) ∧ Below w.heap.size w w' := by
 have hL := Loc.nil w NoM
 have hq := kD (fun wx => join_pieces a b wx)
 by_cases h : a.cmps b < 0
 ·have ht : a.top b = b := if_pos h
  have t1 : decide (a.cmps b < 0) = true := decide_eq_true h
  rw [ht]
  generalize a.cmps b = r at *
  clear ht
  go_enter Tryz.func94, Tryz.ntmps94
  go_wp2_with (first
   | ((with_reducible refine gate (N := 3) rfl ?_); (refine lJ rfl hL rfl rfl cy ?_; clear hL; intro g3 w3 hL)) | ((with_reducible refine gate (N := 4) rfl ?_); (refine lJ rfl hL rfl rfl cy ?_; clear hL; intro g4 w4 hL))
   | (go_at_call 95; (with_reducible refine (hq.out _).mono ?_); rintro e w5 ⟨rfl, hb5⟩; have hL := hL.call hb5; clear hb5)
   | ((with_reducible refine qD rfl rfl ?_); (refine lI rfl hL rfl cy ?_; clear hL; intro gq wq hL)) | ((with_reducible refine qB rfl rfl ?_); (refine lA rfl hL rfl rfl vM (by rfl) ?_)) | ((with_reducible refine qC rfl rfl ?_); (refine lH rfl hL rfl rfl rfl cy (by rfl) ?_); clear hL; intro wq hL))
  exact bodyPost_ret (res_cell rfl hL _ rfl vM (by rfl)) rfl ⟨⟨b, rfl, rfl⟩, hL.below⟩
 ·have ht : a.top b = a := if_neg h
  have t1 : decide (a.cmps b < 0) = false := decide_eq_false h
  rw [ht]
  generalize a.cmps b = r at *
  clear ht
  go_enter Tryz.func94, Tryz.ntmps94
  go_wp2_with (first
   | ((with_reducible refine gate (N := 3) rfl ?_); (refine lJ rfl hL rfl rfl cy ?_; clear hL; intro g3 w3 hL)) | ((with_reducible refine gate (N := 4) rfl ?_); (refine lJ rfl hL rfl rfl cy ?_; clear hL; intro g4 w4 hL))
   | (go_at_call 95; (with_reducible refine (hq.out _).mono ?_); rintro e w5 ⟨rfl, hb5⟩; have hL := hL.call hb5; clear hb5)
   | ((with_reducible refine qD rfl rfl ?_); (refine lI rfl hL rfl cy ?_; clear hL; intro gq wq hL)) | ((with_reducible refine qB rfl rfl ?_); (refine lA rfl hL rfl rfl vM (by rfl) ?_)) | ((with_reducible refine qC rfl rfl ?_); (refine lH rfl hL rfl rfl rfl cy (by rfl) ?_); clear hL; intro wq hL))
  exact bodyPost_ret (res_cell rfl hL _ rfl vM (by rfl)) rfl ⟨⟨a, rfl, rfl⟩, hL.below⟩
def Xat.top (a b : Xat) : Xat := if a.cmps b < 0 then b else a
theorem greater_Xat (a b : Xat) (w : World) : Calls Tryz.prog 100 #[.agg #[.string a.name, .int .i64 a.at_.boot, .int .i64 a.at_.n, .string a.val, .bool a.gone], .agg #[.string b.name, .int .i64 b.at_.boot, .int .i64 b.at_.n, .string b.val, .bool b.gone], .func (.func 101) #[] #[]] w fun e w' => (∃ c, c = a.top b ∧ e = .returned (.agg #[.string c.name, .int .i64 c.at_.boot, .int .i64 c.at_.n, .string c.val, .bool c.gone])) ∧ Below w.heap.size w w' := by
 have hL := Loc.nil w NoM
 have hq := kD (fun wx => join_xattrs a b wx)
 by_cases h : a.cmps b < 0
 ·have ht : a.top b = b := if_pos h
  have t1 : decide (a.cmps b < 0) = true := decide_eq_true h
  rw [ht]
  generalize a.cmps b = r at *
  clear ht
  go_enter Tryz.func100, Tryz.ntmps100
  go_wp2_with (first
   | ((with_reducible refine gate (N := 3) rfl ?_); (refine lJ rfl hL rfl rfl cy ?_; clear hL; intro g3 w3 hL)) | ((with_reducible refine gate (N := 4) rfl ?_); (refine lJ rfl hL rfl rfl cy ?_; clear hL; intro g4 w4 hL))
   | (go_at_call 101; (with_reducible refine (hq.out _).mono ?_); rintro e w5 ⟨rfl, hb5⟩; have hL := hL.call hb5; clear hb5)
   | ((with_reducible refine qD rfl rfl ?_); (refine lI rfl hL rfl cy ?_; clear hL; intro gq wq hL)) | ((with_reducible refine qB rfl rfl ?_); (refine lA rfl hL rfl rfl vM (by rfl) ?_)) | ((with_reducible refine qC rfl rfl ?_); (refine lH rfl hL rfl rfl rfl cy (by rfl) ?_); clear hL; intro wq hL))
  exact bodyPost_ret (res_cell rfl hL _ rfl vM (by rfl)) rfl ⟨⟨b, rfl, rfl⟩, hL.below⟩
 ·have ht : a.top b = a := if_neg h
  have t1 : decide (a.cmps b < 0) = false := decide_eq_false h
  rw [ht]
  generalize a.cmps b = r at *
  clear ht
  go_enter Tryz.func100, Tryz.ntmps100
  go_wp2_with (first
   | ((with_reducible refine gate (N := 3) rfl ?_); (refine lJ rfl hL rfl rfl cy ?_; clear hL; intro g3 w3 hL)) | ((with_reducible refine gate (N := 4) rfl ?_); (refine lJ rfl hL rfl rfl cy ?_; clear hL; intro g4 w4 hL))
   | (go_at_call 101; (with_reducible refine (hq.out _).mono ?_); rintro e w5 ⟨rfl, hb5⟩; have hL := hL.call hb5; clear hb5)
   | ((with_reducible refine qD rfl rfl ?_); (refine lI rfl hL rfl cy ?_; clear hL; intro gq wq hL)) | ((with_reducible refine qB rfl rfl ?_); (refine lA rfl hL rfl rfl vM (by rfl) ?_)) | ((with_reducible refine qC rfl rfl ?_); (refine lH rfl hL rfl rfl rfl cy (by rfl) ?_); clear hL; intro wq hL))
  exact bodyPost_ret (res_cell rfl hL _ rfl vM (by rfl)) rfl ⟨⟨a, rfl, rfl⟩, hL.below⟩
def Lnk.top (a b : Lnk) : Lnk := if a.cmps b < 0 then b else a
theorem greater_Lnk (a b : Lnk) (w : World) : Calls Tryz.prog 88 #[.agg #[.int .i64 a.id.boot, .int .i64 a.id.n, .int .i64 a.node.boot, .int .i64 a.node.n, .int .i64 a.at_.boot, .int .i64 a.at_.n, .int .i64 a.parent.boot, .int .i64 a.parent.n, .string a.name, .int .i64 a.alive.a0, .int .i64 a.alive.a1, .int .i64 a.alive.a2, .int .i64 a.alive.a3, .int .i64 a.alive.a4, .int .i64 a.alive.a5, .int .i64 a.alive.a6, .int .i64 a.alive.a7, .int .i64 a.dead.a0, .int .i64 a.dead.a1, .int .i64 a.dead.a2, .int .i64 a.dead.a3, .int .i64 a.dead.a4, .int .i64 a.dead.a5, .int .i64 a.dead.a6, .int .i64 a.dead.a7], .agg #[.int .i64 b.id.boot, .int .i64 b.id.n, .int .i64 b.node.boot, .int .i64 b.node.n, .int .i64 b.at_.boot, .int .i64 b.at_.n, .int .i64 b.parent.boot, .int .i64 b.parent.n, .string b.name, .int .i64 b.alive.a0, .int .i64 b.alive.a1, .int .i64 b.alive.a2, .int .i64 b.alive.a3, .int .i64 b.alive.a4, .int .i64 b.alive.a5, .int .i64 b.alive.a6, .int .i64 b.alive.a7, .int .i64 b.dead.a0, .int .i64 b.dead.a1, .int .i64 b.dead.a2, .int .i64 b.dead.a3, .int .i64 b.dead.a4, .int .i64 b.dead.a5, .int .i64 b.dead.a6, .int .i64 b.dead.a7], .func (.func 89) #[] #[]] w fun e w' => (∃ c, c = a.top b ∧ e = .returned (.agg #[.int .i64 c.id.boot, .int .i64 c.id.n, .int .i64 c.node.boot, .int .i64 c.node.n, .int .i64 c.at_.boot, .int .i64 c.at_.n, .int .i64 c.parent.boot, .int .i64 c.parent.n, .string c.name, .int .i64 c.alive.a0, .int .i64 c.alive.a1, .int .i64 c.alive.a2, .int .i64 c.alive.a3, .int .i64 c.alive.a4, .int .i64 c.alive.a5, .int .i64 c.alive.a6, .int .i64 c.alive.a7, .int .i64 c.dead.a0, .int .i64 c.dead.a1, .int .i64 c.dead.a2, .int .i64 c.dead.a3, .int .i64 c.dead.a4, .int .i64 c.dead.a5, .int .i64 c.dead.a6, .int .i64 c.dead.a7])) ∧ Below w.heap.size w w' := by
 have hL := Loc.nil w NoM
 have hq := kD (fun wx => join_places a b wx)
 by_cases h : a.cmps b < 0
 ·have ht : a.top b = b := if_pos h
  have t1 : decide (a.cmps b < 0) = true := decide_eq_true h
  rw [ht]
  generalize a.cmps b = r at *
  clear ht
  go_enter Tryz.func88, Tryz.ntmps88
  go_wp2_with (first
   | ((with_reducible refine gate (N := 3) rfl ?_); (refine lJ rfl hL rfl rfl cy ?_; clear hL; intro g3 w3 hL)) | ((with_reducible refine gate (N := 4) rfl ?_); (refine lJ rfl hL rfl rfl cy ?_; clear hL; intro g4 w4 hL))
   | (go_at_call 89; (with_reducible refine (hq.out _).mono ?_); rintro e w5 ⟨rfl, hb5⟩; have hL := hL.call hb5; clear hb5)
   | ((with_reducible refine qD rfl rfl ?_); (refine lI rfl hL rfl cy ?_; clear hL; intro gq wq hL)) | ((with_reducible refine qB rfl rfl ?_); (refine lA rfl hL rfl rfl vM (by rfl) ?_)) | ((with_reducible refine qC rfl rfl ?_); (refine lH rfl hL rfl rfl rfl cy (by rfl) ?_); clear hL; intro wq hL))
  exact bodyPost_ret (res_cell rfl hL _ rfl vM (by rfl)) rfl ⟨⟨b, rfl, rfl⟩, hL.below⟩
 ·have ht : a.top b = a := if_neg h
  have t1 : decide (a.cmps b < 0) = false := decide_eq_false h
  rw [ht]
  generalize a.cmps b = r at *
  clear ht
  go_enter Tryz.func88, Tryz.ntmps88
  go_wp2_with (first
   | ((with_reducible refine gate (N := 3) rfl ?_); (refine lJ rfl hL rfl rfl cy ?_; clear hL; intro g3 w3 hL)) | ((with_reducible refine gate (N := 4) rfl ?_); (refine lJ rfl hL rfl rfl cy ?_; clear hL; intro g4 w4 hL))
   | (go_at_call 89; (with_reducible refine (hq.out _).mono ?_); rintro e w5 ⟨rfl, hb5⟩; have hL := hL.call hb5; clear hb5)
   | ((with_reducible refine qD rfl rfl ?_); (refine lI rfl hL rfl cy ?_; clear hL; intro gq wq hL)) | ((with_reducible refine qB rfl rfl ?_); (refine lA rfl hL rfl rfl vM (by rfl) ?_)) | ((with_reducible refine qC rfl rfl ?_); (refine lH rfl hL rfl rfl rfl cy (by rfl) ?_); clear hL; intro wq hL))
  exact bodyPost_ret (res_cell rfl hL _ rfl vM (by rfl)) rfl ⟨⟨a, rfl, rfl⟩, hL.below⟩
theorem join_listed_1 (a b : Pce) (w : World) : Calls Tryz.prog 92 #[.agg #[.int .i64 a.idx, .int .i64 a.at_.boot, .int .i64 a.at_.n, .string a.data], .agg #[.int .i64 b.idx, .int .i64 b.at_.boot, .int .i64 b.at_.n, .string b.data]] w fun e w' => e = .returned (.int .i64 (icmp a.idx b.idx)) ∧ Below w.heap.size w w' := by
 have hL := Loc.nil w NoM
 have hq := kD (fun wx => cmpI a.idx b.idx wx)
 generalize icmp a.idx b.idx = r at *
 go_enter Tryz.func92, Tryz.ntmps92
 go_wp2_with (first
  | ((with_reducible refine gate (N := 2) rfl ?_); (refine lJ rfl hL rfl rfl cy ?_; clear hL; intro g2 w2 hL)) | ((with_reducible refine gate (N := 3) rfl ?_); (refine lJ rfl hL rfl rfl cy ?_; clear hL; intro g3 w3 hL))
  | (go_at_call 79; (with_reducible refine (hq.out _).mono ?_); rintro e w5 ⟨rfl, hb5⟩; have hL := hL.call hb5; clear hb5)
  | ((with_reducible refine qB rfl rfl ?_); (refine lC rfl hL rfl rfl vM (by rfl) ?_)))
 go_ret
 exact ⟨rfl, hL.below⟩
theorem join_named_1 (a b : Xat) (w : World) : Calls Tryz.prog 97 #[.agg #[.string a.name, .int .i64 a.at_.boot, .int .i64 a.at_.n, .string a.val, .bool a.gone], .agg #[.string b.name, .int .i64 b.at_.boot, .int .i64 b.at_.n, .string b.val, .bool b.gone]] w fun e w' => e = .returned (.int .i64 (scmp a.name b.name)) ∧ Below w.heap.size w w' := by
 have hL := Loc.nil w NoM
 have hq := kD (fun wx => cmpS a.name b.name wx)
 generalize scmp a.name b.name = r at *
 go_enter Tryz.func97, Tryz.ntmps97
 go_wp2_with (first
  | ((with_reducible refine gate (N := 2) rfl ?_); (refine lJ rfl hL rfl rfl cy ?_; clear hL; intro g2 w2 hL)) | ((with_reducible refine gate (N := 3) rfl ?_); (refine lJ rfl hL rfl rfl cy ?_; clear hL; intro g3 w3 hL))
  | (go_at_call 98; (with_reducible refine (hq.out _).mono ?_); rintro e w5 ⟨rfl, hb5⟩; have hL := hL.call hb5; clear hb5)
  | ((with_reducible refine qB rfl rfl ?_); (refine lC rfl hL rfl rfl vM (by rfl) ?_)))
 go_ret
 exact ⟨rfl, hL.below⟩
theorem join_States_2 (a b : Lnk) (w : World) : Calls Tryz.prog 34 #[.agg #[.int .i64 a.id.boot, .int .i64 a.id.n, .int .i64 a.node.boot, .int .i64 a.node.n, .int .i64 a.at_.boot, .int .i64 a.at_.n, .int .i64 a.parent.boot, .int .i64 a.parent.n, .string a.name, .int .i64 a.alive.a0, .int .i64 a.alive.a1, .int .i64 a.alive.a2, .int .i64 a.alive.a3, .int .i64 a.alive.a4, .int .i64 a.alive.a5, .int .i64 a.alive.a6, .int .i64 a.alive.a7, .int .i64 a.dead.a0, .int .i64 a.dead.a1, .int .i64 a.dead.a2, .int .i64 a.dead.a3, .int .i64 a.dead.a4, .int .i64 a.dead.a5, .int .i64 a.dead.a6, .int .i64 a.dead.a7], .agg #[.int .i64 b.id.boot, .int .i64 b.id.n, .int .i64 b.node.boot, .int .i64 b.node.n, .int .i64 b.at_.boot, .int .i64 b.at_.n, .int .i64 b.parent.boot, .int .i64 b.parent.n, .string b.name, .int .i64 b.alive.a0, .int .i64 b.alive.a1, .int .i64 b.alive.a2, .int .i64 b.alive.a3, .int .i64 b.alive.a4, .int .i64 b.alive.a5, .int .i64 b.alive.a6, .int .i64 b.alive.a7, .int .i64 b.dead.a0, .int .i64 b.dead.a1, .int .i64 b.dead.a2, .int .i64 b.dead.a3, .int .i64 b.dead.a4, .int .i64 b.dead.a5, .int .i64 b.dead.a6, .int .i64 b.dead.a7]] w fun e w' => e = .returned (.int .i64 (a.id.cmps b.id)) ∧ Below w.heap.size w w' := by
 have hL := Loc.nil w NoM
 have hq := kD (fun wx => join_stamps a.id b.id wx)
 generalize a.id.cmps b.id = r at *
 go_enter Tryz.func34, Tryz.ntmps34
 go_wp2_with (first
  | ((with_reducible refine gate (N := 2) rfl ?_); (refine lJ rfl hL rfl rfl cy ?_; clear hL; intro g2 w2 hL)) | ((with_reducible refine gate (N := 3) rfl ?_); (refine lJ rfl hL rfl rfl cy ?_; clear hL; intro g3 w3 hL))
  | (go_at_call 31; (with_reducible refine (hq.out _).mono ?_); rintro e w5 ⟨rfl, hb5⟩; have hL := hL.call hb5; clear hb5)
  | ((with_reducible refine qB rfl rfl ?_); (refine lF rfl hL rfl rfl vM SegC.seg ?_)))
 go_ret
 exact ⟨rfl, hL.below⟩
theorem join_States_1 (a b : Nd) (w : World) : Calls Tryz.prog 30 #[.agg (Ino.cells a.s).toArray, .agg (Ino.cells b.s).toArray] w fun e w' => e = .returned (.int .i64 (a.s.hd.id.cmps b.s.hd.id)) ∧ Below w.heap.size w w' := by
 have hL := Loc.nil w NoM
 have hq := kD (fun wx => join_stamps a.s.hd.id b.s.hd.id wx)
 generalize a.s.hd.id.cmps b.s.hd.id = r at *
 unfold Ino.cells
 go_enter Tryz.func30, Tryz.ntmps30
 go_wp2_with (first
  | ((with_reducible refine gate (N := 2) rfl ?_); (refine lJ rfl hL rfl rfl cy ?_; clear hL; intro g2 w2 hL)) | ((with_reducible refine gate (N := 3) rfl ?_); (refine lJ rfl hL rfl rfl cy ?_; clear hL; intro g3 w3 hL))
  | (go_at_call 31; (with_reducible refine (hq.out _).mono ?_); rintro e w5 ⟨rfl, hb5⟩; have hL := hL.call hb5; clear hb5)
  | ((with_reducible refine qB rfl rfl ?_); (refine lF rfl hL rfl rfl vM SegC.seg ?_)))
 go_ret
 exact ⟨rfl, hL.below⟩
theorem join_listed_2 (a b : Pce) (w : World) : Calls Tryz.prog 93 #[.agg #[.int .i64 a.idx, .int .i64 a.at_.boot, .int .i64 a.at_.n, .string a.data], .agg #[.int .i64 b.idx, .int .i64 b.at_.boot, .int .i64 b.at_.n, .string b.data]] w fun e w' => (∃ c, c = a.top b ∧ e = .returned (.agg #[.int .i64 c.idx, .int .i64 c.at_.boot, .int .i64 c.at_.n, .string c.data])) ∧ Below w.heap.size w w' := by
 have hL := Loc.nil w NoM
 have hq := kD (fun wx => greater_Pce a b wx)
 generalize a.top b = c at *
 go_enter Tryz.func93, Tryz.ntmps93
 go_wp2_with (first
  | ((with_reducible refine gate (N := 2) rfl ?_); (refine lJ rfl hL rfl rfl cy ?_; clear hL; intro g2 w2 hL)) | ((with_reducible refine gate (N := 3) rfl ?_); (refine lJ rfl hL rfl rfl cy ?_; clear hL; intro g3 w3 hL))
  | (go_at_call 94; (with_reducible refine (hq.out _).mono ?_); rintro e w5 ⟨⟨c, rfl, rfl⟩, hb5⟩; have hL := hL.call hb5; clear hb5)
  | ((with_reducible refine qD rfl rfl ?_); (refine lI rfl hL rfl cy ?_; clear hL; intro gq wq hL)) | ((with_reducible refine qB rfl rfl ?_); (refine lA rfl hL rfl rfl vM (by rfl) ?_)) | ((with_reducible refine qC rfl rfl ?_); (refine lH rfl hL rfl rfl rfl cy (by rfl) ?_); clear hL; intro wq hL))
 exact bodyPost_ret (res_cell rfl hL _ rfl vM (by rfl)) rfl ⟨⟨_, rfl, rfl⟩, hL.below⟩
theorem join_named_2 (a b : Xat) (w : World) : Calls Tryz.prog 99 #[.agg #[.string a.name, .int .i64 a.at_.boot, .int .i64 a.at_.n, .string a.val, .bool a.gone], .agg #[.string b.name, .int .i64 b.at_.boot, .int .i64 b.at_.n, .string b.val, .bool b.gone]] w fun e w' => (∃ c, c = a.top b ∧ e = .returned (.agg #[.string c.name, .int .i64 c.at_.boot, .int .i64 c.at_.n, .string c.val, .bool c.gone])) ∧ Below w.heap.size w w' := by
 have hL := Loc.nil w NoM
 have hq := kD (fun wx => greater_Xat a b wx)
 generalize a.top b = c at *
 go_enter Tryz.func99, Tryz.ntmps99
 go_wp2_with (first
  | ((with_reducible refine gate (N := 2) rfl ?_); (refine lJ rfl hL rfl rfl cy ?_; clear hL; intro g2 w2 hL)) | ((with_reducible refine gate (N := 3) rfl ?_); (refine lJ rfl hL rfl rfl cy ?_; clear hL; intro g3 w3 hL))
  | (go_at_call 100; (with_reducible refine (hq.out _).mono ?_); rintro e w5 ⟨⟨c, rfl, rfl⟩, hb5⟩; have hL := hL.call hb5; clear hb5)
  | ((with_reducible refine qD rfl rfl ?_); (refine lI rfl hL rfl cy ?_; clear hL; intro gq wq hL)) | ((with_reducible refine qB rfl rfl ?_); (refine lA rfl hL rfl rfl vM (by rfl) ?_)) | ((with_reducible refine qC rfl rfl ?_); (refine lH rfl hL rfl rfl rfl cy (by rfl) ?_); clear hL; intro wq hL))
 exact bodyPost_ret (res_cell rfl hL _ rfl vM (by rfl)) rfl ⟨⟨_, rfl, rfl⟩, hL.below⟩
end Go.Proofs.YtebpacmhdkgfeaaGreat

namespace Go.Proofs.YtebpacmhdkgfeaaGreat.Stab
variable {α : Type} (lt : α → α → Bool)
structure Ord (lt : α → α → Bool) : Prop where
 asymm : ∀ x y, lt x y = true → lt y x = false
 part : ∀ x y z, lt x z = true → lt x y = true ∨ lt y z = true
namespace Ord
variable {lt} (h : Ord lt)
include h
theorem irrefl (x : α) : lt x x = false := by
 cases hx : lt x x
 ·rfl
 ·have := h.asymm x x hx; rw [hx] at this; exact this
theorem trans {x y z : α} (h1 : lt x y = true) (h2 : lt y z = true) : lt x z = true := by
 rcases h.part x z y h1 with h3 | h3
 ·exact h3
 ·have := h.asymm y z h2; rw [this] at h3; cases h3
theorem le_trans {x y z : α} (h1 : lt y x = false) (h2 : lt z y = false) : lt z x = false := by
 cases h3 : lt z x
 ·rfl
 ·rcases h.part z y x h3 with h4 | h4
  ·rw [h2] at h4; cases h4
  ·rw [h1] at h4; cases h4
theorem lt_le {x y z : α} (h1 : lt x y = true) (h2 : lt z y = false) : lt x z = true := by
 rcases h.part x z y h1 with h3 | h3
 ·exact h3
 ·rw [h2] at h3; cases h3
theorem le_lt {x y z : α} (h1 : lt y x = false) (h2 : lt y z = true) : lt x z = true := by
 rcases h.part y x z h2 with h3 | h3
 ·rw [h1] at h3; cases h3
 ·exact h3
end Ord
def eqv (z x : α) : Bool := !lt z x && !lt x z
def Sorted (l : List α) : Prop := l.Pairwise fun x y => lt y x = false
structure Of (l l' : List α) : Prop where
 sorted : Sorted lt l'
 perm : l'.Perm l
 cls : ∀ z, l'.filter (eqv lt z) = l.filter (eqv lt z)
variable {lt}
theorem Of.refl {l : List α} (h : Sorted lt l) : Of lt l l := ⟨h, .refl _, fun _ => rfl⟩
theorem Of.len {l l' : List α} (h : Of lt l l') : l'.length = l.length := h.perm.length_eq
theorem Of.mem {l l' : List α} (h : Of lt l l') {x : α} : x ∈ l' ↔ x ∈ l := h.perm.mem_iff
theorem Of.of_cls {l m l' : List α} (h : Of lt m l') (hp : m.Perm l) (hc : ∀ z, m.filter (eqv lt z) = l.filter (eqv lt z)) : Of lt l l' := ⟨h.sorted, h.perm.trans hp, fun z => (h.cls z).trans (hc z)⟩
theorem Of.append (ho : Ord lt) {l1 l2 k1 k2 : List α} (h1 : Of lt l1 k1) (h2 : Of lt l2 k2) (h : ∀ x ∈ l1, ∀ y ∈ l2, lt y x = false) : Of lt (l1 ++ l2) (k1 ++ k2) := by
 refine ⟨List.pairwise_append.2 ⟨h1.sorted, h2.sorted, fun x hx y hy => h x (h1.mem.1 hx) y (h2.mem.1 hy)⟩, h1.perm.append h2.perm, fun z => ?_⟩
 rw [List.filter_append, List.filter_append, h1.cls, h2.cls]
theorem eqv_refl (ho : Ord lt) (x : α) : eqv lt x x = true := by simp [eqv, ho.irrefl]
theorem Of.uniq (ho : Ord lt) : ∀ {l k1 k2 : List α}, Of lt l k1 → Of lt l k2 → k1 = k2 := by
 have key : ∀ (k1 k2 : List α), Sorted lt k1 → Sorted lt k2 → k1.Perm k2 → (∀ z, k1.filter (eqv lt z) = k2.filter (eqv lt z)) → k1 = k2 := by
  intro k1
  induction k1 with
  | nil => intro k2 _ _ hp _; exact (hp.symm.eq_nil).symm
  | cons a t ih =>
   intro k2 s1 s2 hp hc
   match k2, s2, hp, hc with
   | [], _, hp, _ => exact hp.eq_nil
   | b :: u, s2, hp, hc =>
    have p1 := List.pairwise_cons.1 s1
    have p2 := List.pairwise_cons.1 s2
    have hab : lt b a = false := by
     have hm : b ∈ a :: t := hp.mem_iff.2 (.head _)
     rcases List.mem_cons.1 hm with rfl | hm
     ·exact ho.irrefl _
     ·exact p1.1 b hm
    have hba : lt a b = false := by
     have hm : a ∈ b :: u := hp.mem_iff.1 (.head _)
     rcases List.mem_cons.1 hm with rfl | hm
     ·exact ho.irrefl _
     ·exact p2.1 a hm
    have e1 : eqv lt a b = true := by simp [eqv, hab, hba]
    have h1 := hc a
    rw [List.filter_cons_of_pos (by exact eqv_refl ho a), List.filter_cons_of_pos (by exact e1)] at h1
    injection h1 with hh _
    subst hh
    congr 1
    refine ih u p1.2 p2.2 (List.perm_cons a |>.1 hp) fun z => ?_
    have h2 := hc z
    by_cases hz : eqv lt z a = true
    ·rw [List.filter_cons_of_pos hz, List.filter_cons_of_pos hz] at h2
     injection h2
    ·rw [List.filter_cons_of_neg hz, List.filter_cons_of_neg hz] at h2
     exact h2
 intro l k1 k2 h1 h2
 exact key k1 k2 h1.sorted h2.sorted (h1.perm.trans h2.perm.symm) fun z => (h1.cls z).trans (h2.cls z).symm
def ins (lt : α → α → Bool) (x : α) : List α → List α
 | [] => [x]
 | y :: l => if lt x y = true then x :: y :: l else y :: ins lt x l
def isort (lt : α → α → Bool) (l : List α) : List α := l.foldl (fun acc x => ins lt x acc) []
theorem isort_snoc (l : List α) (x : α) : isort lt (l ++ [x]) = ins lt x (isort lt l) := by simp [isort]
theorem ins_split (x : α) : ∀ (l1 l2 : List α), (∀ y ∈ l1, lt x y = false) → (∀ y ∈ l2.head?, lt x y = true) → ins lt x (l1 ++ l2) = l1 ++ x :: l2
 | [], [], _, _ => rfl
 | [], y :: l2, _, h2 => by show ins lt x (y :: l2) = _; unfold ins; rw [if_pos (h2 y rfl)]; rfl
 | y :: l1, l2, h1, h2 => by
  show ins lt x (y :: (l1 ++ l2)) = _
  unfold ins
  rw [if_neg (by rw [h1 y (.head _)]; simp), ins_split x l1 l2 (fun z hz => h1 z (.tail _ hz)) h2]; rfl
theorem ins_perm (x : α) : ∀ l : List α, (ins lt x l).Perm (l ++ [x])
 | [] => .refl _
 | y :: l => by
  unfold ins
  split
  ·have : (x :: (y :: l)).Perm ((y :: l) ++ [x]) := List.perm_append_comm (l₁ := [x])
   exact this
  ·exact (ins_perm x l).cons y
theorem ins_of (ho : Ord lt) (x : α) {l : List α} (hs : Sorted lt l) : Of lt (l ++ [x]) (ins lt x l) := by
 refine ⟨?_, ins_perm x l, ?_⟩
 ·induction l with
  | nil => exact List.pairwise_singleton _ _
  | cons y l ih =>
   have p := List.pairwise_cons.1 hs
   unfold ins
   split
   ·rename_i h
    refine List.pairwise_cons.2 ⟨fun z hz => ?_, hs⟩
    rcases List.mem_cons.1 hz with rfl | hz
    ·exact ho.asymm _ _ h
    ·exact ho.le_trans (ho.asymm _ _ h) (p.1 z hz)
   ·rename_i h
    refine List.pairwise_cons.2 ⟨fun z hz => ?_, ih p.2⟩
    have hm := (ins_perm x l).mem_iff.1 hz
    rcases List.mem_append.1 hm with hm | hm
    ·exact p.1 z hm
    ·rw [List.mem_singleton.1 hm]; simpa using h
 ·intro z
  induction l with
  | nil => rfl
  | cons y l ih =>
   have p := List.pairwise_cons.1 hs
   unfold ins
   split
   ·rename_i h
    by_cases hz : eqv lt z x = true
    ·-- nothing behind x is its equal
     have hn : (y :: l).filter (eqv lt z) = [] := by
      rw [List.filter_eq_nil_iff]
      intro u hu he
      have hxu : lt x u = true := by
       rcases List.mem_cons.1 hu with rfl | hu
       ·exact h
       ·exact ho.lt_le h (p.1 u hu)
      simp only [eqv, Bool.and_eq_true, Bool.not_eq_true'] at hz he
      rcases ho.part x z u hxu with h3 | h3
      ·rw [hz.2] at h3; cases h3
      ·rw [he.1] at h3; cases h3
     rw [List.filter_append, hn, List.filter_cons_of_pos hz, hn]
     simp [hz]
    ·rw [List.filter_cons_of_neg hz, List.filter_append]
     simp [hz]
   ·rw [List.cons_append, List.filter_cons, List.filter_cons, ih p.2]
theorem isort_of (ho : Ord lt) (l : List α) : Of lt l (isort lt l) := by
 have key : ∀ k : List α, Of lt k.reverse (isort lt k.reverse) := by
  intro k
  induction k with
  | nil => exact ⟨.nil, .refl _, fun _ => rfl⟩
  | cons x k ih =>
   rw [List.reverse_cons, isort_snoc]
   have h1 := ins_of ho x ih.sorted
   refine h1.of_cls (ih.perm.append_right _) fun z => ?_
   rw [List.filter_append, List.filter_append, ih.cls]
 have := key l.reverse
 rwa [List.reverse_reverse] at this
theorem Of.cross (ho : Ord lt) {A1 A2 B1 B2 L R : List α} (hA : ∀ x ∈ A1, ∀ y ∈ A2, lt y x = false) (hB : ∀ x ∈ B1, ∀ y ∈ B2, lt y x = false) (h12 : ∀ x ∈ A1, ∀ y ∈ B2, lt y x = false) (h21 : ∀ x ∈ B1, ∀ y ∈ A2, lt x y = true)
  (hL : Of lt (A1 ++ B1) L) (hR : Of lt (A2 ++ B2) R) : Of lt ((A1 ++ A2) ++ (B1 ++ B2)) (L ++ R) := by
 have h := Of.append ho hL hR (fun x hx y hy => by
  rcases List.mem_append.1 hx with hx | hx <;> rcases List.mem_append.1 hy with hy | hy
  ·exact hA x hx y hy
  ·exact h12 x hx y hy
  ·exact ho.asymm _ _ (h21 x hx y hy)
  ·exact hB x hx y hy)
 refine h.of_cls ?_ fun z => ?_
 ·have e1 : (A1 ++ B1 ++ (A2 ++ B2)).Perm (A1 ++ (B1 ++ A2) ++ B2) := by simp
  have e2 : (A1 ++ (B1 ++ A2) ++ B2).Perm (A1 ++ (A2 ++ B1) ++ B2) := ((List.perm_append_comm).append_left _).append_right _
  exact e1.trans (e2.trans (by simp))
 ·simp only [List.filter_append, List.append_assoc]
  congr 1
  rw [← List.append_assoc, ← List.append_assoc]
  congr 1
  -- of B1 and A2 one has no equal of z
  by_cases hb : B1.filter (eqv lt z) = []
  ·rw [hb]; simp
  ·have ha : A2.filter (eqv lt z) = [] := by
    rw [List.filter_eq_nil_iff]
    intro y hy he
    obtain ⟨x, hx⟩ := List.exists_mem_of_ne_nil _ hb
    obtain ⟨hx1, hx2⟩ := List.mem_filter.1 hx
    have h3 := h21 x hx1 y hy
    simp only [eqv, Bool.and_eq_true, Bool.not_eq_true'] at hx2 he
    rcases ho.part x z y h3 with h4 | h4
    ·rw [hx2.2] at h4; cases h4
    ·rw [he.1] at h4; cases h4
   rw [ha]; simp
theorem nil_or_snoc (l : List α) : l = [] ∨ ∃ l' x, l = l' ++ [x] := by
 rcases List.eq_nil_or_concat l with h | ⟨l', x, h⟩
 ·exact .inl h
 ·exact .inr ⟨l', x, by rw [h]; simp⟩
theorem exch_at (L1 L2 L3 : List α) (x y : α) : (L1 ++ x :: (L2 ++ y :: L3))[L1.length]? = some x ∧ (L1 ++ x :: (L2 ++ y :: L3))[L1.length + 1 + L2.length]? = some y ∧
  ((L1 ++ x :: (L2 ++ y :: L3)).set L1.length y).set (L1.length + 1 + L2.length) x = L1 ++ y :: (L2 ++ x :: L3) := by
 refine ⟨by simp, ?_, ?_⟩
 ·rw [List.getElem?_append_right (by omega), show L1.length + 1 + L2.length - L1.length = L2.length + 1 from by omega, List.getElem?_cons_succ, List.getElem?_append_right (by omega), Nat.sub_self]; rfl
 ·rw [List.set_append_right _ _ (by omega), Nat.sub_self, List.set_cons_zero, List.set_append_right _ _ (by omega), show L1.length + 1 + L2.length - L1.length = L2.length + 1 from by omega, List.set_cons_succ, List.set_append_right _ _ (by omega), Nat.sub_self, List.set_cons_zero]
theorem exch_at' (L1 L2 L3 : List α) (x y : α) : ((L1 ++ x :: (L2 ++ y :: L3)).set (L1.length + 1 + L2.length) x).set L1.length y = L1 ++ y :: (L2 ++ x :: L3) := by
 rw [List.set_comm _ _ (by omega)]
 exact (exch_at L1 L2 L3 x y).2.2
theorem take_snoc' {l : List α} {i : Nat} {x : α} (h : l[i]? = some x) : l.take (i + 1) = l.take i ++ [x] := by
 obtain ⟨hi, rfl⟩ := List.getElem?_eq_some_iff.1 h
 exact List.take_succ_eq_append_getElem hi
theorem drop_cons' {l : List α} {i : Nat} {x : α} (h : l[i]? = some x) : l.drop i = x :: l.drop (i + 1) := by
 obtain ⟨hi, rfl⟩ := List.getElem?_eq_some_iff.1 h
 exact List.drop_eq_getElem_cons hi
theorem swap_step (P A M B R : List α) (i : Nat) (x y : α) (hx : A[i]? = some x) (hy : B[i]? = some y) (_ : A.length = B.length) :
  (P ++ (B.take i ++ A.drop i) ++ M ++ (A.take i ++ B.drop i) ++ R)[(P ++ B.take i).length]? = some x ∧ (P ++ (B.take i ++ A.drop i) ++ M ++ (A.take i ++ B.drop i) ++ R)[(P ++ B.take i).length + 1 + (A.drop (i + 1) ++ M ++ A.take i).length]? = some y ∧
  ((P ++ (B.take i ++ A.drop i) ++ M ++ (A.take i ++ B.drop i) ++ R).set (P ++ B.take i).length y).set ((P ++ B.take i).length + 1 + (A.drop (i + 1) ++ M ++ A.take i).length) x = P ++ (B.take (i + 1) ++ A.drop (i + 1)) ++ M ++ (A.take (i + 1) ++ B.drop (i + 1)) ++ R := by
 have e1 : P ++ (B.take i ++ A.drop i) ++ M ++ (A.take i ++ B.drop i) ++ R = (P ++ B.take i) ++ x :: ((A.drop (i + 1) ++ M ++ A.take i) ++ y :: (B.drop (i + 1) ++ R)) := by
  rw [drop_cons' hx, drop_cons' hy]; simp
 have e2 : P ++ (B.take (i + 1) ++ A.drop (i + 1)) ++ M ++ (A.take (i + 1) ++ B.drop (i + 1)) ++ R = (P ++ B.take i) ++ y :: ((A.drop (i + 1) ++ M ++ A.take i) ++ x :: (B.drop (i + 1) ++ R)) := by
  rw [take_snoc' hx, take_snoc' hy]; simp
 rw [e1, e2]
 exact exch_at _ _ _ _ _
theorem one_left (ho : Ord lt) {x : α} {B1 B3 : List α} (hs : Sorted lt (B1 ++ B3)) (h1 : ∀ y ∈ B1, lt y x = true) (h3 : ∀ y ∈ B3, lt y x = false) : Of lt ([x] ++ (B1 ++ B3)) (B1 ++ x :: B3) := by
 have hp := List.pairwise_append.1 hs
 have hR : Sorted lt (x :: B3) := List.pairwise_cons.2 ⟨h3, hp.2.1⟩
 have := Of.cross (A1 := []) (A2 := [x]) (B1 := B1) (B2 := B3) (L := B1) (R := x :: B3) ho (by simp) (fun y hy z hz => hp.2.2 y hy z hz) (by simp) (fun y hy z hz => by rw [List.mem_singleton.1 hz]; exact h1 y hy) (by simpa using Of.refl hp.1) (Of.refl hR)
 simpa using this
theorem one_right (ho : Ord lt) {y : α} {A1 A3 : List α} (hs : Sorted lt (A1 ++ A3)) (h1 : ∀ z ∈ A1, lt y z = false) (h3 : ∀ z ∈ A3, lt y z = true) : Of lt ((A1 ++ A3) ++ [y]) (A1 ++ y :: A3) := by
 have hp := List.pairwise_append.1 hs
 have hL : Sorted lt (A1 ++ [y]) := List.pairwise_append.2 ⟨hp.1, List.pairwise_singleton _ _, fun z hz u hu => by rw [List.mem_singleton.1 hu]; exact h1 z hz⟩
 have := Of.cross (A1 := A1) (A2 := A3) (B1 := [y]) (B2 := []) (L := A1 ++ [y]) (R := A3) ho (fun z hz u hu => hp.2.2 z hz u hu) (by simp) (by simp) (fun z hz u hu => by rw [List.mem_singleton.1 hz]; exact h3 u hu) (Of.refl hL) (by simpa using Of.refl hp.2.1)
 simpa using this
end Go.Proofs.YtebpacmhdkgfeaaGreat.Stab

namespace Go.Proofs.YtebpacmhdkgfeaaGreat.Stab
variable {α : Type} {lt : α → α → Bool}
theorem sorted_le (ho : Ord lt) {l : List α} (h : Sorted lt l) {i j : Nat} {x y : α} (hij : i ≤ j) (hx : l[i]? = some x) (hy : l[j]? = some y) : lt y x = false := by
 obtain ⟨h1, rfl⟩ := List.getElem?_eq_some_iff.1 hx
 obtain ⟨h2, rfl⟩ := List.getElem?_eq_some_iff.1 hy
 rcases Nat.lt_or_eq_of_le hij with h3 | rfl
 ·exact List.pairwise_iff_getElem.1 h i j h1 h2 h3
 ·exact ho.irrefl _
def At (lt : α → α → Bool) (A B : List α) (i j : Nat) (v : Bool) : Prop := ∀ x y, A[i]? = some x → B[j]? = some y → lt y x = v
theorem At.down (ho : Ord lt) {A B : List α} (hA : Sorted lt A) (hB : Sorted lt B) {i j i' j' : Nat} (hi : i' ≤ i) (hj : j ≤ j') (hiA : i < A.length) (hjB : j < B.length) (h : At lt A B i j false) : At lt A B i' j' false := by
 intro x y hx hy
 obtain ⟨x0, hx0⟩ : ∃ x0, A[i]? = some x0 := ⟨_, List.getElem?_eq_getElem hiA⟩
 obtain ⟨y0, hy0⟩ : ∃ y0, B[j]? = some y0 := ⟨_, List.getElem?_eq_getElem hjB⟩
 have h1 := h x0 y0 hx0 hy0
 have h2 := sorted_le ho hA hi hx hx0
 have h3 := sorted_le ho hB hj hy0 hy
 exact ho.le_trans (ho.le_trans h2 h1) h3
theorem At.up (ho : Ord lt) {A B : List α} (hA : Sorted lt A) (hB : Sorted lt B) {i j i' j' : Nat} (hi : i ≤ i') (hj : j' ≤ j) (hiA : i < A.length) (hjB : j < B.length) (h : At lt A B i j true) : At lt A B i' j' true := by
 intro x y hx hy
 obtain ⟨x0, hx0⟩ : ∃ x0, A[i]? = some x0 := ⟨_, List.getElem?_eq_getElem hiA⟩
 obtain ⟨y0, hy0⟩ : ∃ y0, B[j]? = some y0 := ⟨_, List.getElem?_eq_getElem hjB⟩
 have h1 := h x0 y0 hx0 hy0
 have h2 := sorted_le ho hA hi hx0 hx
 have h3 := sorted_le ho hB hj hy hy0
 exact ho.lt_le (ho.le_lt h3 h1) h2
theorem Sorted.take {l : List α} (h : Sorted lt l) (k : Nat) : Sorted lt (l.take k) := List.Pairwise.sublist (List.take_sublist _ _) h
theorem Sorted.drop {l : List α} (h : Sorted lt l) (k : Nat) : Sorted lt (l.drop k) := List.Pairwise.sublist (List.drop_sublist _ _) h
theorem sym_cross (ho : Ord lt) {A B L R : List α} (hA : Sorted lt A) (hB : Sorted lt B) (k1 k2 : Nat) (hk1 : k1 ≤ A.length) (hk2 : k2 ≤ B.length) (p1 : 0 < k1 → At lt A B (k1 - 1) k2 false) (p2 : 0 < k2 → At lt A B k1 (k2 - 1) true)
  (hL : Of lt (A.take k1 ++ B.take k2) L) (hR : Of lt (A.drop k1 ++ B.drop k2) R) : Of lt (A ++ B) (L ++ R) := by
 have e : A ++ B = (A.take k1 ++ A.drop k1) ++ (B.take k2 ++ B.drop k2) := by rw [List.take_append_drop, List.take_append_drop]
 rw [e]
 refine Of.cross ho ?_ ?_ ?_ ?_ hL hR
 ·have h := hA
  rw [← List.take_append_drop k1 A] at h
  exact fun x hx y hy => (List.pairwise_append.1 h).2.2 x hx y hy
 ·have h := hB
  rw [← List.take_append_drop k2 B] at h
  exact fun x hx y hy => (List.pairwise_append.1 h).2.2 x hx y hy
 ·intro x hx y hy
  obtain ⟨i, hi⟩ := List.mem_iff_getElem?.1 hx
  obtain ⟨j, hj⟩ := List.mem_iff_getElem?.1 hy
  rw [List.getElem?_drop] at hj
  have hik : i < k1 ∧ i < A.length := by have := (List.getElem?_eq_some_iff.1 hi).1; rw [List.length_take] at this; omega
  rw [List.getElem?_take_of_lt hik.1] at hi
  have hjB := (List.getElem?_eq_some_iff.1 hj).1
  exact At.down ho hA hB (i := k1 - 1) (j := k2) (by omega) (by omega) (by omega) (by omega) (p1 (by omega)) x y hi hj
 ·intro x hx y hy
  obtain ⟨j, hj⟩ := List.mem_iff_getElem?.1 hx
  obtain ⟨i, hi⟩ := List.mem_iff_getElem?.1 hy
  rw [List.getElem?_drop] at hi
  have hjk : j < k2 ∧ j < B.length := by have := (List.getElem?_eq_some_iff.1 hj).1; rw [List.length_take] at this; omega
  rw [List.getElem?_take_of_lt hjk.1] at hj
  have hiA := (List.getElem?_eq_some_iff.1 hi).1
  exact At.up ho hA hB (i := k1) (j := k2 - 1) (by omega) (by omega) (by omega) (by omega) (p2 (by omega)) y x hi hj
end Go.Proofs.YtebpacmhdkgfeaaGreat.Stab

namespace Go.Proofs.YtebpacmhdkgfeaaGreat.Stab
variable {α : Type} {lt : α → α → Bool}
theorem Of.self (ho : Ord lt) {l : List α} (h : Sorted lt l) : Of lt l l := ⟨h, .refl _, fun _ => rfl⟩
structure SymCut (lt : α → α → Bool) (A B A1 A2 B1 B2 : List α) (a m b mid e i : Nat) : Prop where
 eA : A = A1 ++ A2
 eB : B = B1 ++ B2
 num : i = a + A1.length ∧ mid = i + B1.length ∧ e = mid + A2.length ∧ b = e + B2.length ∧ m = i + A2.length
 s : Sorted lt A1 ∧ Sorted lt B1 ∧ Sorted lt A2 ∧ Sorted lt B2
 o1 : A1 = [] ∨ B1 = [] → Of lt (A1 ++ B1) (A1 ++ B1)
 o2 : A2 = [] ∨ B2 = [] → Of lt (A2 ++ B2) (A2 ++ B2)
 cross : ∀ L R, Of lt (A1 ++ B1) L → Of lt (A2 ++ B2) R → Of lt (A ++ B) (L ++ R)
theorem Of.skip (ho : Ord lt) {A B : List α} (hA : Sorted lt A) (hB : Sorted lt B) (h : A = [] ∨ B = []) : Of lt (A ++ B) (A ++ B) := by
 rcases h with rfl | rfl
 ·exact Of.self ho (by simpa using hB)
 ·exact Of.self ho (by simpa using hA)
theorem symCut (ho : Ord lt) {A B : List α} {a m b mid e i : Nat} (hA : Sorted lt A) (hB : Sorted lt B) (h1 : a ≤ i) (h2 : i ≤ mid) (h3 : m = a + A.length) (h4 : b = m + B.length) (h5 : i ≤ m) (h6 : mid - i ≤ B.length) (h7 : e + i = mid + m)
  (f1 : a < i → At lt A B (i - 1 - a) (mid - i) false) (f2 : i < mid → At lt A B (i - a) (mid - 1 - i) true) : SymCut lt A B (A.take (i - a)) (A.drop (i - a)) (B.take (mid - i)) (B.drop (mid - i)) a m b mid e i := by
 have s1 := hA.take (i - a)
 have s2 := hA.drop (i - a)
 have s3 := hB.take (mid - i)
 have s4 := hB.drop (mid - i)
 refine ⟨(List.take_append_drop _ _).symm, (List.take_append_drop _ _).symm, ?_, ⟨s1, s3, s2, s4⟩, Of.skip ho s1 s3, Of.skip ho s2 s4, fun L R hL hR => ?_⟩
 ·simp only [List.length_take, List.length_drop]
  omega
 ·refine sym_cross ho hA hB (i - a) (mid - i) (by omega) h6 (fun h => ?_) (fun h => ?_) hL hR
  ·rw [show i - a - 1 = i - 1 - a from by omega]; exact f1 (by omega)
  ·rw [show mid - i - 1 = mid - 1 - i from by omega]; exact f2 (by omega)
end Go.Proofs.YtebpacmhdkgfeaaGreat.Stab

namespace Go.Proofs.YtebpacmhdkgfeaaGreat.Stab
variable {α : Type} {lt : α → α → Bool} {k : Nat}
theorem Of.join {A A' B B' L : List α} (h1 : Of lt A A') (h2 : Of lt B B') (h3 : Of lt (A' ++ B') L) : Of lt (A ++ B) L :=
 ⟨h3.sorted, h3.perm.trans (h1.perm.append h2.perm), fun z => by rw [h3.cls, List.filter_append, List.filter_append, h1.cls, h2.cls]⟩
inductive Ch (lt : α → α → Bool) (k : Nat) : List α → List α → Prop
 | last {l l' : List α} : l.length ≤ k → Of lt l l' → Ch lt k l l'
 | cons {l l' r r' : List α} : l.length = k → Of lt l l' → Ch lt k r r' → Ch lt k (l ++ r) (l' ++ r')
inductive Full (lt : α → α → Bool) (k : Nat) : List α → List α → Prop
 | nil : Full lt k [] []
 | snoc {d d' l l' : List α} : Full lt k d d' → l.length = k → Of lt l l' → Full lt k (d ++ l) (d' ++ l')
theorem Full.then {d d' : List α} (h : Full lt k d d') : ∀ {r r' : List α}, Ch lt k r r' → Ch lt k (d ++ r) (d' ++ r') := by
 induction h with
 | nil => exact fun h => h
 | snoc h1 h2 h3 ih =>
  intro r r' h
  rw [List.append_assoc, List.append_assoc]
  exact ih (.cons h2 h3 h)
theorem Full.finish {d d' l l' : List α} (h : Full lt k d d') (h1 : l.length ≤ k) (h2 : Of lt l l') : Ch lt k (d ++ l) (d' ++ l') := h.then (.last h1 h2)
theorem Full.len {d d' : List α} (h : Full lt k d d') : d'.length = d.length := by
 induction h with
 | nil => rfl
 | snoc h1 h2 h3 ih => rw [List.length_append, List.length_append, ih, h3.perm.length_eq]
theorem Ch.len {d d' : List α} (h : Ch lt k d d') : d'.length = d.length := by
 induction h with
 | last h1 h2 => exact h2.perm.length_eq
 | cons h1 h2 h3 ih => rw [List.length_append, List.length_append, ih, h2.perm.length_eq]
theorem Ch.one {t t' : List α} (h : Ch lt k t t') (hk : t.length ≤ k) : Of lt t t' := by
 cases h with
 | last h1 h2 => exact h2
 | cons h1 h2 h3 =>
  rename_i l l' r r'
  have hr : r = [] := List.eq_nil_of_length_eq_zero (by rw [List.length_append] at hk; omega)
  have hl := h3.len
  rw [hr] at hl
  have hr' : r' = [] := List.eq_nil_of_length_eq_zero (by rw [hl]; rfl)
  rw [hr, hr', List.append_nil, List.append_nil]
  exact h2
theorem Ch.first {t t' : List α} (h : Ch lt k t t') (hk : k ≤ t.length) : ∃ l l' r r', t = l ++ r ∧ t' = l' ++ r' ∧ l.length = k ∧ Of lt l l' ∧ (Ch lt k r r') := by
 cases h with
 | last h1 h2 => exact ⟨t, t', [], [], by simp, by simp, by omega, h2, .last (by simp) ⟨.nil, .refl _, fun _ => rfl⟩⟩
 | cons h1 h2 h3 => exact ⟨_, _, _, _, rfl, rfl, h1, h2, h3⟩
theorem Ch.two {t t' : List α} (h : Ch lt k t t') (hk : k + k ≤ t.length) : ∃ A B r A' B' r', t = A ++ B ++ r ∧ t' = A' ++ B' ++ r' ∧ A'.length = k ∧ B'.length = k ∧ A.length = k ∧ B.length = k ∧ Sorted lt A' ∧ Sorted lt B' ∧ (∀ L, Of lt (A' ++ B') L → Of lt (A ++ B) L) ∧ Ch lt k r r' := by
 obtain ⟨A, A', q, q', rfl, rfl, h1, h2, h3⟩ := h.first (by omega)
 rw [List.length_append] at hk
 obtain ⟨B, B', r, r', rfl, rfl, h4, h5, h6⟩ := h3.first (by omega)
 exact ⟨A, B, r, A', B', r', by simp, by simp, by rw [h2.perm.length_eq, h1], by rw [h5.perm.length_eq, h4], h1, h4, h2.sorted, h5.sorted, fun L h => h2.join h5 h, h6⟩
theorem Ch.rest {t t' : List α} (h : Ch lt k t t') (hk : k ≤ t.length) (hk2 : t.length ≤ k + k) : ∃ A B A' B', t = A ++ B ∧ t' = A' ++ B' ∧ A'.length = k ∧ A.length = k ∧ B'.length = B.length ∧ Sorted lt A' ∧ Sorted lt B' ∧ (∀ L, Of lt (A' ++ B') L → Of lt (A ++ B) L) := by
 obtain ⟨A, A', q, q', rfl, rfl, h1, h2, h3⟩ := h.first (by omega)
 rw [List.length_append] at hk hk2
 have h4 := h3.one (by omega)
 exact ⟨A, q, A', q', rfl, rfl, by rw [h2.perm.length_eq, h1], h1, h3.len, h2.sorted, h4.sorted, fun L h => h2.join h4 h⟩
end Go.Proofs.YtebpacmhdkgfeaaGreat.Stab

namespace Go.Proofs.YtebpacmhdkgfeaaGreat.Stab
variable {α : Type} {lt : α → α → Bool}
def Strict (lt : α → α → Bool) (l : List α) : Prop := l.Pairwise fun x y => lt x y = true
theorem Strict.sorted (ho : Ord lt) {l : List α} (h : Strict lt l) : Sorted lt l := h.imp fun h => ho.asymm _ _ h
theorem eqv_iff {z x : α} : eqv lt z x = true ↔ lt z x = false ∧ lt x z = false := by simp [eqv]
theorem eqv_not {z x y : α} (ho : Ord lt) (h : lt x y = true) (h1 : eqv lt z x = true) : eqv lt z y = false := by
 cases h2 : eqv lt z y
 ·rfl
 ·rw [eqv_iff] at h1 h2
  rcases ho.part x z y h with h3 | h3
  ·rw [h1.2] at h3; cases h3
  ·rw [h2.1] at h3; cases h3
theorem eqv_congr (ho : Ord lt) {p x : α} (h : eqv lt p x = true) (z : α) : eqv lt z p = eqv lt z x := by
 rw [eqv_iff] at h
 rw [Bool.eq_iff_iff, eqv_iff, eqv_iff]
 constructor
 ·rintro ⟨h1, h2⟩
  exact ⟨ho.le_trans h.1 h1, ho.le_trans h2 h.2⟩
 ·rintro ⟨h1, h2⟩
  exact ⟨ho.le_trans h.2 h1, ho.le_trans h2 h.1⟩
theorem strict_none (ho : Ord lt) {p z : α} {l : List α} (h : ∀ y ∈ l, lt p y = true) (hz : eqv lt z p = true) : l.filter (eqv lt z) = [] := by
 rw [List.filter_eq_nil_iff]
 intro y hy
 rw [eqv_not ho (h y hy) hz]
 simp
theorem strict_uniq (ho : Ord lt) : ∀ {k k' : List α}, Strict lt k → Strict lt k' → (∀ z, k.filter (eqv lt z) = k'.filter (eqv lt z)) → k = k'
 | [], [], _, _, _ => rfl
 | [], b :: u, _, _, h => by have h1 := h b; rw [List.filter_cons_of_pos (eqv_refl ho b)] at h1; cases h1
 | a :: t, [], _, _, h => by have h1 := h a; rw [List.filter_cons_of_pos (eqv_refl ho a)] at h1; cases h1
 | a :: t, b :: u, h1, h2, h => by
  have p1 := List.pairwise_cons.1 h1
  have p2 := List.pairwise_cons.1 h2
  have ma : a ∈ b :: u := by
   have h3 := h a
   rw [List.filter_cons_of_pos (eqv_refl ho a)] at h3
   have : a ∈ (b :: u).filter (eqv lt a) := by rw [← h3]; exact .head _
   exact (List.mem_filter.1 this).1
  have mb : b ∈ a :: t := by
   have h3 := h b
   rw [List.filter_cons_of_pos (eqv_refl ho b)] at h3
   have : b ∈ (a :: t).filter (eqv lt b) := by rw [h3]; exact .head _
   exact (List.mem_filter.1 this).1
  have hab : a = b := by
   rcases List.mem_cons.1 ma with e | e
   ·exact e
   ·rcases List.mem_cons.1 mb with e2 | e2
    ·exact e2.symm
    ·have q1 := p2.1 a e
     have q2 := ho.asymm _ _ (p1.1 b e2)
     rw [q1] at q2; cases q2
  subst hab
  refine congrArg (a :: ·) (strict_uniq ho p1.2 p2.2 fun z => ?_)
  by_cases hz : eqv lt z a = true
  ·rw [strict_none ho p1.1 hz, strict_none ho p2.1 hz]
  ·have h3 := h z
   rw [List.filter_cons_of_neg hz, List.filter_cons_of_neg hz] at h3
   exact h3
structure Firsts (lt : α → α → Bool) (l k : List α) : Prop where
 strict : Strict lt k
 cls : ∀ z, k.filter (eqv lt z) = (l.filter (eqv lt z)).take 1
theorem Firsts.uniq (ho : Ord lt) {l k k' : List α} (h : Firsts lt l k) (h' : Firsts lt l k') : k = k' := strict_uniq ho h.strict h'.strict fun z => (h.cls z).trans (h'.cls z).symm
end Go.Proofs.YtebpacmhdkgfeaaGreat.Stab

namespace Go.Proofs.YtebpacmhdkgfeaaGreat.Stab
variable {α : Type} {lt : α → α → Bool}
end Go.Proofs.YtebpacmhdkgfeaaGreat.Stab

namespace Go.Proofs.YtebpacmhdkgfeaaGreat.Stab
variable {α : Type} {lt : α → α → Bool}
def foldG (g : α → α) (f : α → α → α) : List α → List α
 | [] => []
 | a :: t => [t.foldl f (g a)]
theorem foldG_snoc (g : α → α) (f : α → α → α) (l : List α) (x : α) : foldG g f (l ++ [x]) = match foldG g f l with | [] => [g x] | p :: _ => [f p x] := by
 cases l with
 | nil => rfl
 | cons a t => simp [foldG]
theorem foldG_nil {g : α → α} {f : α → α → α} {l : List α} (h : foldG g f l = []) : l = [] := by
 cases l with
 | nil => rfl
 | cons a t => cases h
structure Folds (lt : α → α → Bool) (g : α → α) (f : α → α → α) (l k : List α) : Prop where
 strict : Strict lt k
 cls : ∀ z, k.filter (eqv lt z) = foldG g f (l.filter (eqv lt z))
theorem Folds.uniq (ho : Ord lt) {g : α → α} {f : α → α → α} {l k k' : List α} (h : Folds lt g f l k) (h' : Folds lt g f l k') : k = k' := strict_uniq ho h.strict h'.strict fun z => (h.cls z).trans (h'.cls z).symm
theorem Folds.of {g : α → α} {f : α → α → α} {l L k : List α} (h : Folds lt g f L k) (hO : Of lt l L) : Folds lt g f l k := ⟨h.strict, fun z => by rw [h.cls z, hO.cls z]⟩
theorem Folds.nil (g : α → α) (f : α → α → α) : Folds lt g f [] [] := ⟨.nil, fun _ => rfl⟩
structure Keeps (lt : α → α → Bool) (g : α → α) (f : α → α → α) : Prop where
 g : ∀ x, eqv lt x (g x) = true
 f : ∀ p x, eqv lt p x = true → eqv lt p (f p x) = true
theorem eqv_swap {x y : α} (h : eqv lt x y = true) : eqv lt y x = true := by
 unfold eqv at *
 rw [Bool.and_comm]; exact h
theorem eqv_trans (ho : Ord lt) {x y z : α} (h1 : eqv lt x y = true) (h2 : eqv lt y z = true) : eqv lt x z = true := by
 rw [← eqv_congr ho h2 x]; exact h1
theorem Folds.mem (ho : Ord lt) {g : α → α} {f : α → α → α} {l k : List α} (h : Folds lt g f l k) {p : α} (hp : p ∈ k) : ∃ y ∈ l, eqv lt p y = true := by
 have h1 : p ∈ k.filter (eqv lt p) := List.mem_filter.2 ⟨hp, eqv_refl ho p⟩
 rw [h.cls p] at h1
 cases h2 : l.filter (eqv lt p) with
 | nil => rw [h2] at h1; cases h1
 | cons y t =>
  have h3 : y ∈ l.filter (eqv lt p) := by rw [h2]; exact .head _
  exact ⟨y, List.mem_filter.1 h3⟩
theorem Folds.none (ho : Ord lt) {g : α → α} {f : α → α → α} {l k : List α} (h : Folds lt g f l k) {x : α} (hx : ∀ p ∈ k, eqv lt x p = false) : l.filter (eqv lt x) = [] := by
 have h1 : k.filter (eqv lt x) = [] := List.filter_eq_nil_iff.2 fun p hp => by rw [hx p hp]; simp
 rw [h.cls x] at h1
 exact foldG_nil h1
theorem filter_ne {l : List α} {z : α} (h : ∀ p ∈ l, eqv lt z p = false) : l.filter (eqv lt z) = [] := List.filter_eq_nil_iff.2 fun p hp => by rw [h p hp]; simp
theorem eqv_false (ho : Ord lt) {z x p : α} (hz : eqv lt z x = true) (h : eqv lt x p = false) : eqv lt z p = false := by
 cases h1 : eqv lt z p
 ·rfl
 ·rw [eqv_trans ho (eqv_swap hz) h1] at h; cases h
theorem lt_ne {x p : α} (h : lt x p = true) : eqv lt x p = false := by
 cases h1 : eqv lt x p
 ·rfl
 ·rw [(eqv_iff.1 h1).1] at h; cases h
theorem gt_ne {x p : α} (h : lt p x = true) : eqv lt x p = false := by
 cases h1 : eqv lt x p
 ·rfl
 ·rw [(eqv_iff.1 h1).2] at h; cases h
theorem Folds.insNew (ho : Ord lt) {g : α → α} {f : α → α → α} (hk : Keeps lt g f) {l k1 k2 : List α} (h : Folds lt g f l (k1 ++ k2)) {x : α} (h1 : ∀ p ∈ k1, lt p x = true) (h2 : ∀ p ∈ k2, lt x p = true) : Folds lt g f (l ++ [x]) (k1 ++ g x :: k2) := by
 have hs := List.pairwise_append.1 h.strict
 have hg := hk.g x
 have hlo : ∀ p ∈ k1, lt p (g x) = true := fun p hp => ho.lt_le (h1 p hp) (eqv_iff.1 hg).2
 have hhi : ∀ p ∈ k2, lt (g x) p = true := fun p hp => ho.le_lt (eqv_iff.1 hg).1 (h2 p hp)
 have n1 : ∀ p ∈ k1, eqv lt x p = false := fun p hp => gt_ne (h1 p hp)
 have n2 : ∀ p ∈ k2, eqv lt x p = false := fun p hp => lt_ne (h2 p hp)
 refine ⟨List.pairwise_append.2 ⟨hs.1, List.pairwise_cons.2 ⟨hhi, hs.2.1⟩, fun p hp y hy => ?_⟩, fun z => ?_⟩
 ·rcases List.mem_cons.1 hy with rfl | hy
  ·exact hlo p hp
  ·exact hs.2.2 p hp y hy
 ·have hc := h.cls z
  rw [List.filter_append] at hc
  rw [List.filter_append, List.filter_append]
  cases hz : eqv lt z x
  ·have hz2 : eqv lt z (g x) = false := by
    cases h3 : eqv lt z (g x)
    ·rfl
    ·rw [eqv_trans ho h3 (eqv_swap hg)] at hz; cases hz
   rw [List.filter_cons_of_neg (by rw [hz2]; simp), List.filter_cons_of_neg (by rw [hz]; simp), List.filter_nil, List.append_nil]
   exact hc
  ·have e1 := filter_ne fun p hp => eqv_false ho hz (n1 p hp)
   have e2 := filter_ne fun p hp => eqv_false ho hz (n2 p hp)
   rw [e1, e2] at hc
   have e3 := foldG_nil hc.symm
   rw [e1, e3, List.filter_cons_of_pos (eqv_trans ho hz hg), e2, List.filter_cons_of_pos hz]
   rfl
theorem Folds.insOld (ho : Ord lt) {g : α → α} {f : α → α → α} (hk : Keeps lt g f) {l k1 k2 : List α} {p : α} (h : Folds lt g f l (k1 ++ p :: k2)) {x : α} (hp : eqv lt p x = true) : Folds lt g f (l ++ [x]) (k1 ++ f p x :: k2) := by
 have hs := List.pairwise_append.1 h.strict
 have hs2 := List.pairwise_cons.1 hs.2.1
 have hf := hk.f p x hp
 have h1 : ∀ q ∈ k1, lt q p = true := fun q hq => hs.2.2 q hq p (.head _)
 refine ⟨List.pairwise_append.2 ⟨hs.1, List.pairwise_cons.2 ⟨fun q hq => ho.le_lt (eqv_iff.1 hf).1 (hs2.1 q hq), hs2.2⟩, fun q hq y hy => ?_⟩, fun z => ?_⟩
 ·rcases List.mem_cons.1 hy with rfl | hy
  ·exact ho.lt_le (h1 q hq) (eqv_iff.1 hf).2
  ·exact hs.2.2 q hq y (.tail _ hy)
 ·have hc := h.cls z
  rw [List.filter_append] at hc
  rw [List.filter_append, List.filter_append, ]
  cases hz : eqv lt z p
  ·have hz2 : eqv lt z (f p x) = false := by
    cases h3 : eqv lt z (f p x)
    ·rfl
    ·rw [eqv_trans ho h3 (eqv_swap hf)] at hz; cases hz
   have hz3 : eqv lt z x = false := by
    cases h3 : eqv lt z x
    ·rfl
    ·rw [eqv_trans ho h3 (eqv_swap hp)] at hz; cases hz
   rw [List.filter_cons_of_neg (by rw [hz]; simp)] at hc
   rw [List.filter_cons_of_neg (by rw [hz2]; simp), List.filter_cons_of_neg (by rw [hz3]; simp), List.filter_nil, List.append_nil]
   exact hc
  ·have e1 := filter_ne fun q hq => eqv_false ho hz (gt_ne (h1 q hq))
   have e2 := filter_ne fun q hq => eqv_false ho hz (lt_ne (hs2.1 q hq))
   rw [e1, List.filter_cons_of_pos hz, e2] at hc
   rw [e1, List.filter_cons_of_pos (eqv_trans ho hz hf), e2, List.filter_cons_of_pos (eqv_trans ho hz hp), List.filter_nil, foldG_snoc, ← hc]
   rfl
theorem Folds.runOld (ho : Ord lt) {g : α → α} {f : α → α → α} (hk : Keeps lt g f) {l k : List α} {p x : α} (h : Folds lt g f l (k ++ [p])) (hp : eqv lt p x = true) : Folds lt g f (l ++ [x]) (k ++ [f p x]) := h.insOld ho hk hp
theorem Folds.runNew (ho : Ord lt) {g : α → α} {f : α → α → α} (hk : Keeps lt g f) {l k : List α} {p x : α} (h : Folds lt g f l (k ++ [p])) (hs : ∀ y ∈ l, lt x y = false) (hp : eqv lt p x = false) : Folds lt g f (l ++ [x]) (k ++ [p] ++ [g x]) := by
 have hx : ∀ q ∈ k ++ [p], lt x q = false := fun q hq => by
  obtain ⟨y, hy, he⟩ := h.mem ho hq
  exact ho.le_trans (eqv_iff.1 he).2 (hs y hy)
 have hpx : lt p x = true := by
  cases h2 : lt p x
  ·rw [eqv_iff.2 ⟨h2, hx p (by simp)⟩] at hp; cases hp
  ·rfl
 have h2 : Folds lt g f l ((k ++ [p]) ++ []) := by rw [List.append_nil]; exact h
 refine h2.insNew ho hk (fun q hq => ?_) (fun _ hq => by cases hq)
 rcases List.mem_append.1 hq with hq | hq
 ·exact ho.trans ((List.pairwise_append.1 h.strict).2.2 q hq p (.head _)) hpx
 ·rw [List.mem_singleton.1 hq]; exact hpx
def rins (lt : α → α → Bool) (g : α → α) (f : α → α → α) (x : α) : Bool → List α → List α
 | done, [] => if done = true then [] else [g x]
 | done, n :: l => if eqv lt n x = true then f n x :: rins lt g f x true l else if done = false ∧ lt x n = true then g x :: n :: rins lt g f x true l else n :: rins lt g f x done l
theorem rins_done (g : α → α) (f : α → α → α) (x : α) : ∀ l : List α, (∀ y ∈ l, eqv lt y x = false) → rins lt g f x true l = l
 | [], _ => rfl
 | n :: l, h => by
  unfold rins
  rw [if_neg (by rw [h n (.head _)]; simp), if_neg (by simp), rins_done g f x l fun y hy => h y (.tail _ hy)]
theorem Folds.rins (ho : Ord lt) {g : α → α} {f : α → α → α} (hk : Keeps lt g f) (x : α) {l : List α} : ∀ k2 k1 : List α, Folds lt g f l (k1 ++ k2) → (∀ p ∈ k1, lt p x = true) → Folds lt g f (l ++ [x]) (k1 ++ rins lt g f x false k2)
 | [], k1, h, h1 => h.insNew ho hk h1 (fun _ hq => by cases hq)
 | n :: k2, k1, h, h1 => by
  have hs := (List.pairwise_cons.1 (List.pairwise_append.1 h.strict).2.1)
  unfold Stab.rins
  cases hn : eqv lt n x
  ·rw [if_neg (by simp)]
   cases hx : lt x n
   ·rw [if_neg (by simp)]
    have hnx : lt n x = true := by
     cases h2 : lt n x
     ·rw [eqv_iff.2 ⟨h2, hx⟩] at hn; cases hn
     ·rfl
    have h2 := Folds.rins ho hk x k2 (k1 ++ [n]) (by rw [List.append_assoc]; exact h) (fun p hp => by
     rcases List.mem_append.1 hp with hp | hp
     ·exact h1 p hp
     ·rw [List.mem_singleton.1 hp]; exact hnx)
    rw [List.append_assoc] at h2
    exact h2
   ·rw [if_pos ⟨rfl, rfl⟩, rins_done g f x k2 fun y hy => by
     have := lt_ne (ho.trans hx (hs.1 y hy))
     cases h3 : eqv lt y x
     ·rfl
     ·rw [eqv_swap h3] at this; cases this]
    refine h.insNew ho hk h1 fun p hp => ?_
    rcases List.mem_cons.1 hp with rfl | hp
    ·exact hx
    ·exact ho.trans hx (hs.1 p hp)
  ·rw [if_pos rfl, rins_done g f x k2 fun y hy => by
    cases h3 : eqv lt y x
    ·rfl
    ·have := eqv_false ho (eqv_swap hn) (lt_ne (hs.1 y hy))
     rw [eqv_swap h3] at this; cases this]
   exact h.insOld ho hk hn
theorem Folds.put (ho : Ord lt) {g : α → α} {f : α → α → α} (hk : Keeps lt g f) (x : α) {l k : List α} (h : Folds lt g f l k) : Folds lt g f (l ++ [x]) (Stab.rins lt g f x false k) := Folds.rins ho hk x k [] h (fun _ hp => by cases hp)
def rfold (lt : α → α → Bool) (g : α → α) (f : α → α → α) (l : List α) : List α := l.foldl (fun k x => rins lt g f x false k) []
theorem rfold_snoc (g : α → α) (f : α → α → α) (l : List α) (x : α) : rfold lt g f (l ++ [x]) = rins lt g f x false (rfold lt g f l) := by simp [rfold]
theorem rfold_folds (ho : Ord lt) {g : α → α} {f : α → α → α} (hk : Keeps lt g f) (l : List α) : Folds lt g f l (rfold lt g f l) := by
 have h : ∀ n (l : List α), l.length = n → Folds lt g f l (rfold lt g f l) := fun n => by
  induction n with
  | zero => intro l hl; rw [List.eq_nil_of_length_eq_zero hl]; exact .nil g f
  | succ n ih =>
   intro l hl
   rcases nil_or_snoc l with rfl | ⟨l', x, rfl⟩
   ·cases hl
   ·rw [rfold_snoc]
    exact (ih l' (by simpa using hl)).put ho hk x
 exact h _ l rfl
theorem Folds.eq (ho : Ord lt) {g : α → α} {f : α → α → α} (hk : Keeps lt g f) {l k : List α} (h : Folds lt g f l k) : k = rfold lt g f l := h.uniq ho (rfold_folds ho hk l)
theorem rins_len_done (g : α → α) (f : α → α → α) (x : α) : ∀ k : List α, (rins lt g f x true k).length = k.length
 | [] => rfl
 | n :: k => by
  unfold rins
  rw [if_neg (show ¬ (true = false ∧ lt x n = true) by simp)]
  split <;> simp [rins_len_done g f x k]
theorem rins_len (g : α → α) (f : α → α → α) (x : α) : ∀ k : List α, (rins lt g f x false k).length ≤ k.length + 1
 | [] => by simp [rins]
 | n :: k => by
  have h1 := rins_len g f x k
  have h2 := rins_len_done (lt := lt) g f x k
  unfold rins
  split
  ·simp; omega
  ·split <;> simp <;> omega
theorem rfold_len (g : α → α) (f : α → α → α) (l : List α) : (rfold lt g f l).length ≤ l.length := by
 have h : ∀ n (l : List α), l.length = n → (rfold lt g f l).length ≤ l.length := fun n => by
  induction n with
  | zero => intro l hl; rw [List.eq_nil_of_length_eq_zero hl]; simp [rfold]
  | succ n ih =>
   intro l hl
   rcases nil_or_snoc l with rfl | ⟨l', x, rfl⟩
   ·cases hl
   ·rw [rfold_snoc]
    have h1 := ih l' (by simpa using hl)
    have h2 := rins_len (lt := lt) g f x (rfold lt g f l')
    simp; omega
 exact h _ l rfl
end Go.Proofs.YtebpacmhdkgfeaaGreat.Stab

namespace Go.Proofs.YtebpacmhdkgfeaaGreat
open Go.RowKit
def Mk.zero : Mk := ⟨0, 0⟩
end Go.Proofs.YtebpacmhdkgfeaaGreat

namespace Go.Proofs.YtebpacmhdkgfeaaGreat
open Go.RowKit
theorem icmp_lt {a b : Int} : icmp a b < 0 ↔ a < b := by unfold icmp; split <;> (try split) <;> omega
theorem icmp_0 {a b : Int} : icmp a b = 0 ↔ a = b := by unfold icmp; split <;> (try split) <;> omega
theorem scmp_lt {a b : ByteArray} : scmp a b < 0 ↔ slt a b = true := by
 unfold scmp
 cases h : slt a b
 ·cases h2 : slt b a <;> simp
 ·simp
theorem scmp_0 {a b : ByteArray} : scmp a b = 0 ↔ a = b := by
 unfold scmp
 cases h : slt a b
 ·cases h2 : slt b a
  ·simp [slt_tri h h2]
  ·simp only [Bool.false_eq_true, if_false, if_true]
   exact ⟨fun e => by omega, fun e => by rw [e, slt_irr] at h2; cases h2⟩
 ·simp only [if_true]
  exact ⟨fun e => by omega, fun e => by rw [e, slt_irr] at h; cases h⟩
theorem orL_lt {x : Int} {t : List Int} : orL (x :: t) < 0 ↔ x < 0 ∨ x = 0 ∧ orL t < 0 := by
 rw [orL_cons]; split <;> omega
theorem orL_0 {x : Int} {t : List Int} : orL (x :: t) = 0 ↔ x = 0 ∧ orL t = 0 := by
 rw [orL_cons]; split <;> omega
theorem orL_nil_lt : orL [] < 0 ↔ False := by simp [orL]
theorem orL_nil_0 : orL [] = 0 ↔ True := by simp [orL]
def Mk.lss (a b : Mk) : Prop := a.boot < b.boot ∨ a.boot = b.boot ∧ a.n < b.n
theorem Mk.cmps_lt {a b : Mk} : a.cmps b < 0 ↔ a.lss b := by
 unfold Mk.cmps Mk.lss
 simp only [orL_lt, icmp_lt, icmp_0, orL_nil_lt, and_false, or_false]
theorem Mk.eq_iff {a b : Mk} : a = b ↔ a.boot = b.boot ∧ a.n = b.n := by
 obtain ⟨a1, a2⟩ := a; obtain ⟨b1, b2⟩ := b; simp
theorem Mk.cmps_0 {a b : Mk} : a.cmps b = 0 ↔ a = b := by
 unfold Mk.cmps
 simp only [orL_0, icmp_0, orL_nil_0, and_true, Mk.eq_iff]
theorem Atr.cmps_lt {a b : Atr} : a.cmps b < 0 ↔ a.at_.lss b.at_ ∨ a.at_ = b.at_ ∧ (a.mode < b.mode ∨ a.mode = b.mode ∧ a.time < b.time) := by
 unfold Atr.cmps
 simp only [orL_lt, icmp_lt, icmp_0, orL_nil_lt, and_false, or_false, Mk.cmps_lt, Mk.cmps_0]
theorem Siz.cmps_lt {a b : Siz} : a.cmps b < 0 ↔ a.at_.lss b.at_ ∨ a.at_ = b.at_ ∧ a.n < b.n := by
 unfold Siz.cmps
 simp only [orL_lt, icmp_lt, icmp_0, orL_nil_lt, and_false, or_false, Mk.cmps_lt, Mk.cmps_0]
theorem Pce.cmps_lt {a b : Pce} : a.cmps b < 0 ↔ a.at_.lss b.at_ ∨ a.at_ = b.at_ ∧ slt a.data b.data = true := by
 unfold Pce.cmps
 simp only [orL_lt, icmp_lt, icmp_0, scmp_lt, scmp_0, orL_nil_lt, and_false, or_false, Mk.cmps_lt, Mk.cmps_0]
theorem Xat.cmps_lt {a b : Xat} : a.cmps b < 0 ↔ a.at_.lss b.at_ ∨ a.at_ = b.at_ ∧ (flagI a.gone < flagI b.gone ∨ flagI a.gone = flagI b.gone ∧ slt a.val b.val = true) := by
 unfold Xat.cmps
 simp only [orL_lt, icmp_lt, icmp_0, scmp_lt, scmp_0, orL_nil_lt, and_false, or_false, Mk.cmps_lt, Mk.cmps_0]
theorem Lnk.cmps_lt {a b : Lnk} : a.cmps b < 0 ↔ a.at_.lss b.at_ ∨ a.at_ = b.at_ ∧ (a.parent.lss b.parent ∨ a.parent = b.parent ∧ slt a.name b.name = true) := by
 unfold Lnk.cmps
 simp only [orL_lt, icmp_lt, icmp_0, scmp_lt, scmp_0, orL_nil_lt, and_false, or_false, Mk.cmps_lt, Mk.cmps_0]
theorem Mk.lss_irr (a : Mk) : ¬ a.lss a := by unfold Mk.lss; omega
theorem Mk.lss_tri (a b : Mk) : a.lss b ∨ a = b ∨ b.lss a := by rw [Mk.eq_iff]; unfold Mk.lss; omega
theorem Mk.lss_trans {a b c : Mk} (h : a.lss b) (k : b.lss c) : a.lss c := by unfold Mk.lss at *; omega
theorem slt_cases (a b : ByteArray) : slt a b = true ∨ a = b ∨ slt b a = true := by
 cases h : slt a b
 ·cases h2 : slt b a
  ·exact .inr (.inl (slt_tri h h2))
  ·exact .inr (.inr rfl)
 ·exact .inl rfl
theorem ord_of {α κ : Type} {r : κ → κ → Prop} {lt : α → α → Bool} (k : α → κ) (hl : ∀ x y, lt x y = true ↔ r (k x) (k y)) (irr : ∀ a, ¬ r a a) (tri : ∀ a b, r a b ∨ a = b ∨ r b a) (tr : ∀ a b c, r a b → r b c → r a c) : Stab.Ord lt where
 asymm x y h := by
  cases h2 : lt y x
  ·rfl
  ·exact absurd (tr _ _ _ ((hl _ _).1 h) ((hl _ _).1 h2)) (irr _)
 part x y z h := by
  have h := (hl _ _).1 h
  rcases tri (k x) (k y) with h1 | h1 | h1
  ·exact .inl ((hl _ _).2 h1)
  ·exact .inr ((hl _ _).2 (h1 ▸ h))
  ·exact .inr ((hl _ _).2 (tr _ _ _ h1 h))
theorem eqv_of {α κ : Type} {r : κ → κ → Prop} {lt : α → α → Bool} (k : α → κ) (hl : ∀ x y, lt x y = true ↔ r (k x) (k y)) (irr : ∀ a, ¬ r a a) (tri : ∀ a b, r a b ∨ a = b ∨ r b a) {x y : α} : Stab.eqv lt x y = true ↔ k x = k y := by
 rw [Stab.eqv_iff]
 constructor
 ·rintro ⟨h1, h2⟩
  rcases tri (k x) (k y) with h | h | h
  ·rw [(hl _ _).2 h] at h1; cases h1
  ·exact h
  ·rw [(hl _ _).2 h] at h2; cases h2
 ·intro e
  have h0 : ¬ r (k x) (k y) := by rw [e]; exact irr _
  have h3 : ¬ r (k y) (k x) := by rw [e]; exact irr _
  constructor
  ·cases h : lt x y
   ·rfl
   ·exact absurd ((hl _ _).1 h) h0
  ·cases h : lt y x
   ·rfl
   ·exact absurd ((hl _ _).1 h) h3
abbrev Pce.lt (x y : Pce) : Bool := decide (icmp x.idx y.idx < 0)
abbrev Xat.lt (x y : Xat) : Bool := decide (scmp x.name y.name < 0)
abbrev Lnk.lt (x y : Lnk) : Bool := decide (x.id.cmps y.id < 0)
abbrev InoD.lt (x y : InoD) : Bool := decide (x.hd.id.cmps y.hd.id < 0)
theorem Pce.lt_iff (x y : Pce) : x.lt y = true ↔ x.idx < y.idx := by unfold Pce.lt; rw [decide_eq_true_eq, icmp_lt]
theorem Xat.lt_iff (x y : Xat) : x.lt y = true ↔ slt x.name y.name = true := by unfold Xat.lt; rw [decide_eq_true_eq, scmp_lt]
theorem Lnk.lt_iff (x y : Lnk) : x.lt y = true ↔ x.id.lss y.id := by unfold Lnk.lt; rw [decide_eq_true_eq, Mk.cmps_lt]
theorem InoD.lt_iff (x y : InoD) : x.lt y = true ↔ x.hd.id.lss y.hd.id := by unfold InoD.lt; rw [decide_eq_true_eq, Mk.cmps_lt]
theorem Pce.ord : Stab.Ord Pce.lt := ord_of (r := fun a b : Int => a < b) Pce.idx Pce.lt_iff (fun a => Int.lt_irrefl a) (fun a b => by omega) (fun a b c h k => by omega)
theorem Xat.ord : Stab.Ord Xat.lt := ord_of (r := fun a b : ByteArray => slt a b = true) Xat.name Xat.lt_iff (fun a => by simp [slt_irr]) slt_cases (fun a b c h k => slt_trans h k)
theorem Lnk.ord : Stab.Ord Lnk.lt := ord_of (r := Mk.lss) Lnk.id Lnk.lt_iff Mk.lss_irr Mk.lss_tri (fun _ _ _ h k => Mk.lss_trans h k)
theorem InoD.ord : Stab.Ord InoD.lt := ord_of (r := Mk.lss) (fun d : InoD => d.hd.id) InoD.lt_iff Mk.lss_irr Mk.lss_tri (fun _ _ _ h k => Mk.lss_trans h k)
theorem Pce.eqv_iff {x y : Pce} : Stab.eqv Pce.lt x y = true ↔ x.idx = y.idx := eqv_of (r := fun a b : Int => a < b) Pce.idx Pce.lt_iff (fun a => Int.lt_irrefl a) (fun a b => by omega)
theorem Xat.eqv_iff {x y : Xat} : Stab.eqv Xat.lt x y = true ↔ x.name = y.name := eqv_of (r := fun a b : ByteArray => slt a b = true) Xat.name Xat.lt_iff (fun a => by simp [slt_irr]) slt_cases
theorem Lnk.eqv_iff {x y : Lnk} : Stab.eqv Lnk.lt x y = true ↔ x.id = y.id := eqv_of (r := Mk.lss) Lnk.id Lnk.lt_iff Mk.lss_irr Mk.lss_tri
theorem InoD.eqv_iff {x y : InoD} : Stab.eqv InoD.lt x y = true ↔ x.hd.id = y.hd.id := eqv_of (r := Mk.lss) (fun d : InoD => d.hd.id) InoD.lt_iff Mk.lss_irr Mk.lss_tri
def imax (a b : Int) : Int := if a < b then b else a
def smax (a b : ByteArray) : ByteArray := if slt a b = true then b else a
def V8.join (a b : V8) : V8 := ⟨imax a.a0 b.a0, imax a.a1 b.a1, imax a.a2 b.a2, imax a.a3 b.a3, imax a.a4 b.a4, imax a.a5 b.a5, imax a.a6 b.a6, imax a.a7 b.a7⟩
def V8.within (a b : V8) : Bool := decide (a.a0 ≤ b.a0) && (decide (a.a1 ≤ b.a1) && (decide (a.a2 ≤ b.a2) && (decide (a.a3 ≤ b.a3) && (decide (a.a4 ≤ b.a4) && (decide (a.a5 ≤ b.a5) && (decide (a.a6 ≤ b.a6) && decide (a.a7 ≤ b.a7)))))))
def Lnk.one (a b : Lnk) : Lnk := ⟨a.id, a.node.top b.node, (a.top b).at_, (a.top b).parent, (a.top b).name, a.alive.join b.alive, a.dead.join b.dead⟩
def listedD (l : List Pce) : List Pce := Stab.rfold Pce.lt id Pce.top l
def namedD (l : List Xat) : List Xat := Stab.rfold Xat.lt id Xat.top l
def InoD.one (a b : InoD) : InoD := ⟨⟨a.hd.id, imax a.hd.kind b.hd.kind, smax a.hd.text b.hd.text, a.hd.attr.top b.hd.attr, a.hd.size.top b.hd.size⟩, listedD (a.ps ++ b.ps), namedD (a.xs ++ b.xs)⟩
def InoD.norm (a : InoD) : InoD := ⟨a.hd, listedD a.ps, namedD a.xs⟩
def linksD (l : List Lnk) : List Lnk := Stab.rfold Lnk.lt _root_.id Lnk.one l
def nodesD (l : List InoD) : List InoD := Stab.rfold InoD.lt id InoD.one l
def StaD.join (a b : StaD) : StaD := ⟨a.seen.join b.seen, (nodesD (a.nodes ++ b.nodes)).map InoD.norm, linksD (a.links ++ b.links)⟩
theorem Pce.top_idx {a b : Pce} (h : a.idx = b.idx) : (a.top b).idx = a.idx := by unfold Pce.top; split <;> simp [h]
theorem Xat.top_name {a b : Xat} (h : a.name = b.name) : (a.top b).name = a.name := by unfold Xat.top; split <;> simp [h]
theorem Pce.keeps : Stab.Keeps Pce.lt id Pce.top := ⟨fun x => Stab.eqv_refl Pce.ord x, fun p x h => Pce.eqv_iff.2 (Pce.top_idx (Pce.eqv_iff.1 h)).symm⟩
theorem Xat.keeps : Stab.Keeps Xat.lt id Xat.top := ⟨fun x => Stab.eqv_refl Xat.ord x, fun p x h => Xat.eqv_iff.2 (Xat.top_name (Xat.eqv_iff.1 h)).symm⟩
theorem Lnk.keeps : Stab.Keeps Lnk.lt _root_.id Lnk.one := ⟨fun x => Stab.eqv_refl Lnk.ord x, fun p x h => Lnk.eqv_iff.2 rfl⟩
theorem InoD.keeps : Stab.Keeps InoD.lt id InoD.one := ⟨fun x => Stab.eqv_refl InoD.ord x, fun p x h => InoD.eqv_iff.2 rfl⟩
theorem nodes_folds (l : List InoD) : Stab.Folds InoD.lt id InoD.one l (nodesD l) := Stab.rfold_folds InoD.ord InoD.keeps l
theorem listed_len (l : List Pce) : (listedD l).length ≤ l.length := Stab.rfold_len _ _ _
theorem named_len (l : List Xat) : (namedD l).length ≤ l.length := Stab.rfold_len _ _ _
theorem links_len (l : List Lnk) : (linksD l).length ≤ l.length := Stab.rfold_len _ _ _
theorem nodes_len (l : List InoD) : (nodesD l).length ≤ l.length := Stab.rfold_len _ _ _
theorem foldl_dom {α : Type} {f : α → α → α} {R : α → α → Prop} (h1 : ∀ p y x, R p x → R (f p y) x) (h2 : ∀ p y, R (f p y) y) : ∀ (t : List α) (a x : α), (R a x ∨ x ∈ t) → R (t.foldl f a) x
 | [], a, x, h => h.elim id fun h => by cases h
 | y :: t, a, x, h => by
  refine foldl_dom h1 h2 t (f a y) x ?_
  rcases h with h | h
  ·exact .inl (h1 _ _ _ h)
  ·rcases List.mem_cons.1 h with rfl | h
   ·exact .inl (h2 _ _)
   ·exact .inr h
theorem Stab.Folds.has {α : Type} {lt : α → α → Bool} {f : α → α → α} {l k : List α} (ho : Stab.Ord lt) (h : Stab.Folds lt id f l k) {x : α} (hx : x ∈ l) : ∃ p ∈ k, Stab.eqv lt x p = true := by
 have e2 : x ∈ l.filter (Stab.eqv lt x) := List.mem_filter.2 ⟨hx, Stab.eqv_refl ho x⟩
 cases hl : l.filter (Stab.eqv lt x) with
 | nil => rw [hl] at e2; cases e2
 | cons a t =>
  have e1 : t.foldl f a ∈ k.filter (Stab.eqv lt x) := by rw [h.cls x, hl]; simp [Stab.foldG]
  exact ⟨_, List.mem_filter.1 e1⟩
theorem V8.within_iff {a b : V8} : a.within b = true ↔ a.a0 ≤ b.a0 ∧ a.a1 ≤ b.a1 ∧ a.a2 ≤ b.a2 ∧ a.a3 ≤ b.a3 ∧ a.a4 ≤ b.a4 ∧ a.a5 ≤ b.a5 ∧ a.a6 ≤ b.a6 ∧ a.a7 ≤ b.a7 := by
 unfold V8.within
 simp only [Bool.and_eq_true, decide_eq_true_eq]
structure InoD.Above (p x : InoD) : Prop where
 kind : x.hd.kind ≤ p.hd.kind
 attr : ¬ p.hd.attr.at_.lss x.hd.attr.at_
 size : ¬ p.hd.size.at_.lss x.hd.size.at_
structure Lnk.Above (p x : Lnk) : Prop where
 at_ : ¬ p.at_.lss x.at_
 alive : x.alive.within p.alive = true
 dead : x.dead.within p.dead = true
end Go.Proofs.YtebpacmhdkgfeaaGreat

namespace Go.Proofs.YtebpacmhdkgfeaaGreat
open Go.RowKit
set_option maxHeartbeats 2000000
theorem run_maxI (ts : Array TypeId) (t : TypeId) (x y : Int) (w : World) : (Builtin.max_ ts t #[.int .i64 x, .int .i64 y]).run Tryz.prog w = .ok (.int .i64 (imax x y)) w := by
 simp [Builtin.max_, Builtin.max2, imax, Sem.run, go_sem]
theorem run_maxS (ts : Array TypeId) (t : TypeId) (x y : ByteArray) (w : World) : (Builtin.max_ ts t #[.string x, .string y]).run Tryz.prog w = .ok (.string (smax x y)) w := by
 unfold Builtin.max_
 simp [Builtin.max2, smax, slt, Op.stringOp, asBool]
 by_cases h : Op.bytesLess x.toList y.toList = true <;> simp [h]
theorem y_maxI {ops : Array Oper} {o : Oper} {a : Act} {x y : Operand} {ats : Array TypeId} (m n : Int) (hg : o.guard = none) (ho : o.op = .call { callee := .builtin .max, args := #[x, y], argTypes := ats }) (hx : a.eval x = .int .i64 m) (hy : a.eval y = .int .i64 n) : Yields Tryz.prog ops o (.int .i64 (imax m n)) a :=
 .inl ⟨by simp [Region.wanted, hg], fun w => by simp [execOp, ho, resolve, invoke, builtin, hx, hy, run_maxI]⟩
theorem y_maxS {ops : Array Oper} {o : Oper} {a : Act} {x y : Operand} {ats : Array TypeId} (m n : ByteArray) (hg : o.guard = none) (ho : o.op = .call { callee := .builtin .max, args := #[x, y], argTypes := ats }) (hx : a.eval x = .string m) (hy : a.eval y = .string n) : Yields Tryz.prog ops o (.string (smax m n)) a :=
 .inl ⟨by simp [Region.wanted, hg], fun w => by simp [execOp, ho, resolve, invoke, builtin, hx, hy, run_maxS]⟩
set_option maxRecDepth 20000 in
theorem vec_join (a b : V8) (w : World) : Calls Tryz.prog 28 #[.agg #[.int .i64 a.a0, .int .i64 a.a1, .int .i64 a.a2, .int .i64 a.a3, .int .i64 a.a4, .int .i64 a.a5, .int .i64 a.a6, .int .i64 a.a7], .agg #[.int .i64 b.a0, .int .i64 b.a1, .int .i64 b.a2, .int .i64 b.a3, .int .i64 b.a4, .int .i64 b.a5, .int .i64 b.a6, .int .i64 b.a7]] w fun e w' => (∃ c, c = a.join b ∧ e = .returned (.agg #[.int .i64 c.a0, .int .i64 c.a1, .int .i64 c.a2, .int .i64 c.a3, .int .i64 c.a4, .int .i64 c.a5, .int .i64 c.a6, .int .i64 c.a7])) ∧ Below w.heap.size w w' := by
 have hL := Loc.nil w NoM
 obtain ⟨a0, a1, a2, a3, a4, a5, a6, a7⟩ := a
 obtain ⟨b0, b1, b2, b3, b4, b5, b6, b7⟩ := b
 have hmx := run_maxI
 have hx0 : ∀ w, (Instr.index 23 (.agg #[.int .i64 b0, .int .i64 b1, .int .i64 b2, .int .i64 b3, .int .i64 b4, .int .i64 b5, .int .i64 b6, .int .i64 b7]) (.int .i64 0)).run Tryz.prog w = .ok (.int .i64 b0) w := idx8 ⟨b0, b1, b2, b3, b4, b5, b6, b7⟩ 0 (by decide)
 have hx1 : ∀ w, (Instr.index 23 (.agg #[.int .i64 b0, .int .i64 b1, .int .i64 b2, .int .i64 b3, .int .i64 b4, .int .i64 b5, .int .i64 b6, .int .i64 b7]) (.int .i64 1)).run Tryz.prog w = .ok (.int .i64 b1) w := idx8 ⟨b0, b1, b2, b3, b4, b5, b6, b7⟩ 1 (by decide)
 have hx2 : ∀ w, (Instr.index 23 (.agg #[.int .i64 b0, .int .i64 b1, .int .i64 b2, .int .i64 b3, .int .i64 b4, .int .i64 b5, .int .i64 b6, .int .i64 b7]) (.int .i64 2)).run Tryz.prog w = .ok (.int .i64 b2) w := idx8 ⟨b0, b1, b2, b3, b4, b5, b6, b7⟩ 2 (by decide)
 have hx3 : ∀ w, (Instr.index 23 (.agg #[.int .i64 b0, .int .i64 b1, .int .i64 b2, .int .i64 b3, .int .i64 b4, .int .i64 b5, .int .i64 b6, .int .i64 b7]) (.int .i64 3)).run Tryz.prog w = .ok (.int .i64 b3) w := idx8 ⟨b0, b1, b2, b3, b4, b5, b6, b7⟩ 3 (by decide)
 have hx4 : ∀ w, (Instr.index 23 (.agg #[.int .i64 b0, .int .i64 b1, .int .i64 b2, .int .i64 b3, .int .i64 b4, .int .i64 b5, .int .i64 b6, .int .i64 b7]) (.int .i64 4)).run Tryz.prog w = .ok (.int .i64 b4) w := idx8 ⟨b0, b1, b2, b3, b4, b5, b6, b7⟩ 4 (by decide)
 have hx5 : ∀ w, (Instr.index 23 (.agg #[.int .i64 b0, .int .i64 b1, .int .i64 b2, .int .i64 b3, .int .i64 b4, .int .i64 b5, .int .i64 b6, .int .i64 b7]) (.int .i64 5)).run Tryz.prog w = .ok (.int .i64 b5) w := idx8 ⟨b0, b1, b2, b3, b4, b5, b6, b7⟩ 5 (by decide)
 have hx6 : ∀ w, (Instr.index 23 (.agg #[.int .i64 b0, .int .i64 b1, .int .i64 b2, .int .i64 b3, .int .i64 b4, .int .i64 b5, .int .i64 b6, .int .i64 b7]) (.int .i64 6)).run Tryz.prog w = .ok (.int .i64 b6) w := idx8 ⟨b0, b1, b2, b3, b4, b5, b6, b7⟩ 6 (by decide)
 have hx7 : ∀ w, (Instr.index 23 (.agg #[.int .i64 b0, .int .i64 b1, .int .i64 b2, .int .i64 b3, .int .i64 b4, .int .i64 b5, .int .i64 b6, .int .i64 b7]) (.int .i64 7)).run Tryz.prog w = .ok (.int .i64 b7) w := idx8 ⟨b0, b1, b2, b3, b4, b5, b6, b7⟩ 7 (by decide)
 go_enter Tryz.func28, Tryz.ntmps28
 go_wp2_with (first | ((with_reducible refine gate (N := 2) rfl ?_); (refine lJ rfl hL rfl rfl cy ?_; clear hL; intro g2 w2 hL)) | ((with_reducible refine gate (N := 3) rfl ?_); (refine lJ rfl hL rfl rfl cy ?_; clear hL; intro g3 w3 hL)) | ((with_reducible refine gate (N := 4) rfl ?_); (refine lI rfl hL rfl cy ?_; clear hL; intro g4 w4 hL)) | ((with_reducible refine qB rfl rfl ?_); (refine lA rfl hL rfl rfl vM (by rfl) ?_)))
 refine wp_loop_rounds 9 ?_
 rw [rounds_succ]
 go_wp2_with (first | ((with_reducible refine qB rfl rfl ?_); (refine lC rfl hL rfl rfl vM (by rfl) ?_)) | ((with_reducible refine qC rfl rfl ?_); (refine lH rfl hL rfl rfl rfl cy (by rfl) ?_); clear hL; intro wq hL))
 rw [rounds_succ]
 go_wp2_with (first | ((with_reducible refine qB rfl rfl ?_); (refine lC rfl hL rfl rfl vM (by rfl) ?_)) | ((with_reducible refine qC rfl rfl ?_); (refine lH rfl hL rfl rfl rfl cy (by rfl) ?_); clear hL; intro wq hL))
 rw [rounds_succ]
 go_wp2_with (first | ((with_reducible refine qB rfl rfl ?_); (refine lC rfl hL rfl rfl vM (by rfl) ?_)) | ((with_reducible refine qC rfl rfl ?_); (refine lH rfl hL rfl rfl rfl cy (by rfl) ?_); clear hL; intro wq hL))
 rw [rounds_succ]
 go_wp2_with (first | ((with_reducible refine qB rfl rfl ?_); (refine lC rfl hL rfl rfl vM (by rfl) ?_)) | ((with_reducible refine qC rfl rfl ?_); (refine lH rfl hL rfl rfl rfl cy (by rfl) ?_); clear hL; intro wq hL))
 rw [rounds_succ]
 go_wp2_with (first | ((with_reducible refine qB rfl rfl ?_); (refine lC rfl hL rfl rfl vM (by rfl) ?_)) | ((with_reducible refine qC rfl rfl ?_); (refine lH rfl hL rfl rfl rfl cy (by rfl) ?_); clear hL; intro wq hL))
 rw [rounds_succ]
 go_wp2_with (first | ((with_reducible refine qB rfl rfl ?_); (refine lC rfl hL rfl rfl vM (by rfl) ?_)) | ((with_reducible refine qC rfl rfl ?_); (refine lH rfl hL rfl rfl rfl cy (by rfl) ?_); clear hL; intro wq hL))
 rw [rounds_succ]
 go_wp2_with (first | ((with_reducible refine qB rfl rfl ?_); (refine lC rfl hL rfl rfl vM (by rfl) ?_)) | ((with_reducible refine qC rfl rfl ?_); (refine lH rfl hL rfl rfl rfl cy (by rfl) ?_); clear hL; intro wq hL))
 rw [rounds_succ]
 go_wp2_with (first | ((with_reducible refine qB rfl rfl ?_); (refine lC rfl hL rfl rfl vM (by rfl) ?_)) | ((with_reducible refine qC rfl rfl ?_); (refine lH rfl hL rfl rfl rfl cy (by rfl) ?_); clear hL; intro wq hL))
 rw [rounds_succ]
 go_wp2_with (first | ((with_reducible refine qB rfl rfl ?_); (refine lA rfl hL rfl rfl vM (by rfl) ?_)) | ((with_reducible refine qC rfl rfl ?_); (refine lH rfl hL rfl rfl rfl cy (by rfl) ?_); clear hL; intro wq hL))
 exact bodyPost_ret (res_cell rfl hL _ rfl vM (by rfl)) rfl ⟨⟨_, rfl, rfl⟩, hL.below⟩
end Go.Proofs.YtebpacmhdkgfeaaGreat

namespace Go.Proofs.YtebpacmhdkgfeaaGreat
open Go.RowKit
section
variable {P : Program} {md : Region.Mode} {ops : Array Oper} {Q : Exit → Act → World → Prop} {S : World → Prop}
theorem region_held {id : Nat} {ol : List Oper} {Q : Exit → Act → World → Prop} {a : Act} {W w0 : World} {M : Nat → Prop} {l : List Item} (S : World → Prop) (hm : P.follows .mixedOrders = true) (hL : Loc w0 M W l)
  (h : ∀ w1, Loc w0 M w1 l → wpAnyH P .any ol.toArray Q S ol.toArray.size (Array.replicate ol.toArray.size false) a w1) : (Code.region id ol.toArray true).wp P Q a W :=
 wp_region_held (S := S) hm (h { W with drawn := W.drawn + 1 } ⟨⟨hL.mod.os, hL.mod.tape, hL.mod.output, hL.mod.size, hL.mod.block⟩, fun i hi => (hL.at_ i hi).keep (w' := { W with drawn := W.drawn + 1 }) (Nat.le_refl _) fun _ _ => rfl, hL.new, hL.apart⟩)
theorem heldOne {f i : Nat} {done : Array Bool} {a : Act} {w : World} (r : Region.ready md ops done = [i]) (h : wpOp P ops Q i (fun a' w' => S w' ∧ wpAnyH P md ops Q S f (done.setIfInBounds i true) a' w') a w) : wpAnyH P md ops Q S (f + 1) done a w :=
 wpAnyH_all r (by simp) fun x hx => by obtain rfl := List.mem_singleton.1 hx; exact h
theorem heldTake {ol : List Oper} {i : Nat} {oi : Oper} {v : Value} {fuel : Nat} {listed : Array Bool} {a : Act} {w : World} (hi : Nth ol i oi)
  (hs : Region.noSelect ol.toArray = true) (hf : Region.free md ol.toArray listed i = true) (hr : (Region.ready md ol.toArray listed).contains i = true)
  (hQ : ∀ c a w, Q (.panic c) (a.put oi.dst v) w → Q (.panic c) a w) (hy : YieldsIf P ol.toArray S oi v a) (hS : S w)
  (h : wpAnyH P md ol.toArray Q S fuel (listed.setIfInBounds i true) (a.put oi.dst v) w) : wpAnyH P md ol.toArray Q S (fuel + 1) listed a w := wpAnyH_take hi.get hs hf hr hQ hy hS h
theorem y_moveG {o : Oper} {a : Act} {x : Operand} (v : Value) (hw : Region.wanted o (yielded ops a.tmps) = true) (ho : o.op = .move x) (hx : a.eval x = v) : YieldsIf P ops S o v a :=
 .inl ⟨hw, fun w _ => by simp [execOp, ho, hx]⟩
theorem run_loadBox {o : Oper} {a : Act} {W : World} {ty : TypeId} {x : Operand} {n g : Nat} {cs : List Value} {t : TypeId} (ha : AggT P ty) (hn : SizeT P ty n) (hB : Box W g cs.toArray t) (ho : o.op = .load ty x) (hx : a.eval x = .pointer (some ⟨g, 0, none⟩))
  (hs : cs.length = n) : (execOp a.eval o).run P W = .ok (.value (.agg cs.toArray)) W := by
 obtain ⟨d, hu, hd⟩ := isRow_of ha.agg
 have hr : W.rangeAt g 0 cs := fun k v hv => by rw [hB.cell (0 + k)]; simpa using hv
 unfold execOp
 simp only [ho, hx, Instr.loadAt, Instr.sureAddr, Sem.run_bind, Sem.run_pure, Result.andThen_ok, run_loadVar_mid W g 0 ty cs d hr hu hd (by rw [hs]; exact hn.size)]
theorem y_loadG {o : Oper} {a : Act} {ty : TypeId} {x : Operand} {n g : Nat} {cs : List Value} {t : TypeId} (ha : AggT P ty) (hn : SizeT P ty n) (hB : ∀ w, S w → Box w g cs.toArray t) (hw : Region.wanted o (yielded ops a.tmps) = true) (ho : o.op = .load ty x) (hx : a.eval x = .pointer (some ⟨g, 0, none⟩))
  (hs : cs.length = n) : YieldsIf P ops S o (.agg cs.toArray) a := .inl ⟨hw, fun _ hS => run_loadBox ha hn (hB _ hS) ho hx hs⟩
theorem enter0 {o : Oper} {a : Act} {w : World} {f : FuncId} {fn : Func} {ats : Array TypeId} (hf : P.funcs[f]? = some fn) (hname : (fn.name == "runtime.NumGoroutine") = false) (hb : fn.body.isNone = false) (ho : o.op = .call { callee := .value (.func f), args := #[], argTypes := ats }) :
  (execOp a.eval o).run P w = .ok (.enter f #[]) w := by
 have e : a.eval (Operand.func f) = .func (.func f) #[] #[] := rfl
 simp [execOp, ho, resolve, invoke, e, Deferred.ofValue, enters hf hname hb]
theorem enter1 {o : Oper} {a : Act} {w : World} {x : Operand} {u : Value} {f : FuncId} {fn : Func} {ats : Array TypeId} (hf : P.funcs[f]? = some fn) (hname : (fn.name == "runtime.NumGoroutine") = false) (hb : fn.body.isNone = false) (ho : o.op = .call { callee := .value (.func f), args := #[x], argTypes := ats }) (hu : a.eval x = u) :
  (execOp a.eval o).run P w = .ok (.enter f #[u]) w := by
 have e : a.eval (Operand.func f) = .func (.func f) #[] #[] := rfl
 simp [execOp, ho, resolve, invoke, hu, e, Deferred.ofValue, enters hf hname hb]
theorem enter2 {o : Oper} {a : Act} {w : World} {x y : Operand} {u v : Value} {f : FuncId} {fn : Func} {ats : Array TypeId} (hf : P.funcs[f]? = some fn) (hname : (fn.name == "runtime.NumGoroutine") = false) (hb : fn.body.isNone = false) (ho : o.op = .call { callee := .value (.func f), args := #[x, y], argTypes := ats }) (hu : a.eval x = u) (hv : a.eval y = v) :
  (execOp a.eval o).run P w = .ok (.enter f #[u, v]) w := by
 have e : a.eval (Operand.func f) = .func (.func f) #[] #[] := rfl
 simp [execOp, ho, resolve, invoke, hu, hv, e, Deferred.ofValue, enters hf hname hb]
theorem heldCall {i : Nat} {o : Oper} {a : Act} {f : FuncId} {args : Array Value} {w : World} {R : Ending → World → Prop} {K : Act → World → Prop} (hi : ops[i]? = some o) (hw : Region.wanted o (yielded ops a.tmps) = true) (he : (execOp a.eval o).run P w = .ok (.enter f args) w)
  (hc : Calls P f args w R) (h : ∀ e w', R e w' → ∃ v, e = .returned v ∧ K (a.put o.dst v) w') : wpOp P ops Q i K a w := by
 unfold wpOp
 simp only [hi, hw, if_true]
 refine .inl ?_
 unfold Oper.wp
 rw [he]
 exact hc.mono fun e w' hr => by obtain ⟨v, e1, hk⟩ := h e w' hr; subst e1; exact hk
end
section
variable {P : Program} {md : Region.Mode} {Q : Exit → Act → World → Prop} {S : World → Prop}
theorem tK {ol : List Oper} {i : Nat} {oi : Oper} {v : Value} {fuel : Nat} {listed : Array Bool} {a : Act} {w : World} (hi : Nth ol i oi := by repeat (first | exact .zero _ _ | with_reducible apply Nth.succ))
  (hs : Region.noSelect ol.toArray = true := by kernel_rfl) (hf : Region.free md ol.toArray listed i = true := by kernel_rfl) (hr : (Region.ready md ol.toArray listed).contains i = true := by kernel_rfl)
  (hQ : ∀ c a w, Q (.panic c) (a.put oi.dst v) w → Q (.panic c) a w := by exact fun _ _ _ h => h) (y : YieldsIf P ol.toArray S oi v a) (s : S w)
  (z : wpAnyH P md ol.toArray Q S fuel (listed.setIfInBounds i true) (a.put oi.dst v) w) : wpAnyH P md ol.toArray Q S (fuel + 1) listed a w := heldTake hi hs hf hr hQ y s z
end
end Go.Proofs.YtebpacmhdkgfeaaGreat
