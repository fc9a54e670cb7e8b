/- Chapter 29's example. -/
import Derived.Test.YtebpacmhdkgfeaaDoorSto14
import Derived.Test.YtebpacmhdkgfeaaDoorAbo2
import Derived.Test.YtebpacmhdkgfeaaDoorEqS
namespace Go.Proofs.YtebpacmhdkgfeaaDoor
open Go.RowKit

def aMk : Mk := ⟨3, 1⟩
def aHd : IHd := ⟨aMk, 1, ⟨#[]⟩, ⟨aMk, 0, 0⟩, ⟨aMk, 0⟩⟩
def aIno : Ino := ⟨aHd, ⟨none, 0, 0⟩, ⟨none, 0, 0⟩⟩
def aNd : Nd := ⟨aIno, ⟨aHd, [], []⟩⟩
def aLnk : Lnk := ⟨aMk, aMk, aMk, ⟨0, 0⟩, ⟨#[102]⟩, ⟨0, 3, 0, 0, 0, 0, 0, 0⟩, V8.zero⟩
def aSta : StaD := ⟨V8.zero, [⟨aHd, [], []⟩], [aLnk]⟩
def aLines : List ByteArray := [⟨#[101, 118, 101, 110, 116, 32, 51, 46, 49, 32, 118, 48]⟩, ⟨#[105, 110, 111, 100, 101, 32, 51, 46, 49, 32, 102, 105, 108, 101, 44, 97, 116, 116, 114, 44, 115, 105, 122, 101, 58, 48]⟩, ⟨#[108, 105, 110, 107, 32, 51, 46, 49, 32, 112, 108, 97, 99, 101, 58, 48, 46, 48, 47, 102, 44, 97, 108, 105, 118, 101]⟩]
theorem itoaB_d (n : Nat) (h : n < 10) : itoaB (n : Int) = ⟨#[dch n]⟩ := by
  unfold itoaB Lib.itoa
  rw [if_neg (by omega)]
  show (⟨(Lib.decDigits n).toArray⟩ : ByteArray) = _
  rw [Lib.decDigits_one h]
  unfold dch
  rw [Nat.mod_eq_of_lt h]
theorem a_lines : storyLines aMk 0 aSta = aLines := by
  have h0 : itoaB 0 = ⟨#[48]⟩ := itoaB_d 0 (by decide)
  have h1 : itoaB 1 = ⟨#[49]⟩ := itoaB_d 1 (by decide)
  have h3 : itoaB 3 = ⟨#[51]⟩ := itoaB_d 3 (by decide)
  simp only [storyLines, aMk, aSta, aHd, aLnk, InoD.line, InoD.ws, IHd.ws, kindWs, Lnk.line, Lnk.ws, Mk.text, Mk.zero, h0, h1, h3, List.map_cons, List.map_nil]
  decide +kernel
theorem a_small : aSta.small := ⟨by decide, by decide, by simp [aSta], by simp [aSta]⟩
theorem i64_small (n : Int) (h : 0 ≤ n ∧ n ≤ 1000) : I64 n := ⟨by omega, by omega⟩
theorem a_wf (B : Nat) (hB : 1 ≤ B) : aSta.wf B := by
  have z : I64 0 := i64_small 0 (by omega)
  have a : aMk.I := ⟨i64_small 3 (by omega), i64_small 1 (by omega)⟩
  have vz : V8.zero.I := v8_i z z z z z z z z
  refine ⟨vz, fun n hn => ?_, fun l hl => ?_⟩
  · obtain rfl := List.mem_singleton.1 hn
    exact ⟨⟨a, i64_small 1 (by omega), by show 0 ≤ B; omega, a, z, by show (0 : Int) ≤ 0 ∧ (0 : Int) ≤ 18446744073709551615; omega, a, z⟩, by simp, by simp⟩
  · obtain rfl := List.mem_singleton.1 hl
    exact ⟨a, a, a, ⟨z, z⟩, by show 1 ≤ B; omega, v8_i z (i64_small 3 (by omega)) z z z z z z, vz⟩
theorem a_about : aSta.about aMk = true := by decide
/-- A guarded slice made of its parts. -/
theorem ev_litLG {P : Program} {ops : Array Oper} {rest : List Oper} {o : Oper} {a : Act} {Q : Exit → Act → World → Prop} {W w0 : World} {M : Nat → Prop} {l : List Item} {t : TypeId} {n : Nat} {parts : Array (Nat × Operand)} {e : TypeId} {sz : Nat} {z : Value} {cs : List Value} [ht : SliceT P t e] [hz : ZeroT P e z] [hs : SizeT P e sz] (hw : Region.wanted o (yielded ops a.tmps) = true) (hL : Loc w0 M W l) (ho : o.op = .buildSlice t n parts)
    (hn : decide (n * sz ≤ 16777216) = true) (h0 : decide (0 < n * sz) = true) (hfill : Instr.fill (fun i => some (i * sz, sz)) ((Array.range (n * sz)).map fun j => z.cells[j % z.cells.size]!) (parts.map fun (i, x) => (i, a.eval x)).toList = some cs.toArray)
    (h : ∀ g w1, Loc w0 M w1 (var g cs e :: l) → wpList P ops Q rest (a.put o.dst (.slice (some ⟨g, 0, none⟩) n n)) w1) : wpList P ops Q (o :: rest) a W := by
  refine eventG hw (v := .slice (some ⟨W.heap.size, 0, none⟩) n n) (w1 := W.alloc (.cells cs.toArray e)) ?_ (h _ _ (hL.callVar (bl_alloc (Below.refl _ _) _) (Box.new W _ e) (Nat.le_refl _)))
  obtain ⟨i, hi, hzz⟩ := Option.map_eq_some_iff.1 hz.zero
  have hsz : i.size = sz := by have := hs.size; simpa [hi] using this
  have h1 : ¬ n * sz > 2 ^ 24 := by have := of_decide_eq_true hn; omega
  have h2 : ¬ n * sz = 0 := by have := of_decide_eq_true h0; omega
  simp at hfill
  simp [execOp, ho, Instr.buildSlice, run_underlying ht.slice, sizeOf, typeInfo, hi, hsz, zeroValue, hzz, h1, h2, hfill, newRow]
theorem gLitG {P : Program} {ops : Array Oper} {rest : List Oper} {o : Oper} {a : Act} {Q : Exit → Act → World → Prop} {W : World} {t : TypeId} {n : Nat} {ps : Array (Nat × Operand)} {g : Nat × Bool} (_hg : o.guard = some g) (_ho : o.op = .buildSlice t n ps) (_h : Region.wanted o (yielded ops a.tmps) = true) (h : wpList P ops Q (o :: rest) a W) : wpList P ops Q (o :: rest) a W := h
def aEvt (gn gl : Nat) : Evt := ⟨aMk, 0, V8.zero, V8.zero, some ⟨gn, 0, none⟩, 1, 1, some ⟨gl, 0, none⟩, 1, 1⟩
theorem a_ok {w w0 : World} {M : Nat → Prop} {l : List Item} {gn gl : Nat} {t1 t2 : TypeId} (B : Nat) (hB : 1 ≤ B) (hL : Loc w0 M w l) (hn : var gn (Ino.cells aIno) t1 ∈ l) (hl : var gl (Lnk.cells aLnk) t2 ∈ l) : (aEvt gn gl).Ok w B aSta := by
  have z : I64 0 := i64_small 0 (by omega)
  refine ⟨⟨rfl, ⟨[aNd], R_box (E := encN) (t := t1) [aNd] (hL.box hn) rfl (by decide), fun n hn => ?_, rfl⟩, R_box (E := encK) (t := t2) [aLnk] (hL.box hl) rfl (by decide)⟩, a_wf B hB, ⟨i64_small 3 (by omega), i64_small 1 (by omega)⟩, z, v8_i z z z z z z z z⟩
  obtain rfl := List.mem_singleton.1 hn
  exact ⟨rfl, Enc.R.none w, Enc.R.none w⟩
end Go.Proofs.YtebpacmhdkgfeaaDoor
