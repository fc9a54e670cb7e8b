/- Texts laid together: Base, Eq, Ev, EvG, Loc, Loc2, Loc3, Loc4, Loc5, Loc6, Tab, RowEv, QTail, Grow, Two, Cm. -/
import Derived.WalkKit
import Derived.Below
import Derived.Lib.Hide
import Derived.Outline
import Derived.IntWalk
import Derived.Deep.DeepFit
import Derived.BigQuiet
import Derived.Deep.QuietTactic
import Derived.Deep.LoopGhost
import Derived.WalkLawsBesides
import Derived.WalkSpells
import Derived.Deep.RegionHeld3
import Derived.Deep.DeepCutAuto
import Derived.Deep.RegionWith
import Derived.Deep.AppendSrc
import Derived.StillTailTactics
import Derived.Lib.ConvBytes
import Derived.Laws.BytesArg
import Derived.RowKit3
import Derived.ChangeKeysEq
import Derived.Laws.StructEq
import Derived.Deep.MidRow
import Derived.Test.YtebpacmhdkgfeaaGreatProg
import Derived.Shelf.Abstract
import Derived.StillTail
import Derived.Deep.Quiet
import Derived.Lib.AppendZerosOnto
import Derived.Lib.Strings
set_option linter.unusedSimpArgs false
set_option linter.unusedVariables false
namespace Go.Proofs.YtebpacmhdkgfeaaGreat
open Go.RowKit
theorem bl_alloc {w W : World} (h : Below w.heap.size w W) (o : Obj) : Below w.heap.size w (W.alloc o) := h.alloc h.size o
theorem bl_then {w w1 w2 : World} (h : Below w.heap.size w w1) (k : Below w1.heap.size w1 w2) : Below w.heap.size w w2 := h.trans (k.mono h.size)
theorem gr_of_below {w w1 : World} (h : Below w.heap.size w w1) (row : Option Nat) : w.grownBy w1 row := ⟨h.os, h.tape, h.output, h.size, fun i hi _ => h.block i hi⟩
def Rd (w : World) (size : Nat) (v : Value) (n : Nat) (cs : List Value) : Prop :=
 cs.length = n * size ∧ ∃ ao c, v = .slice ao n c ∧ n ≤ c ∧ n ≤ 9223372036854775807 ∧ (n = 0 ∨ ∃ ad, ao = some ad ∧ ∀ j u, cs[j]? = some u → w.cell? (ad.add j) = some u)
theorem Rd.below {w w1 : World} {size n : Nat} {v : Value} {cs : List Value} (h : Rd w size v n cs) (hb : Below w.heap.size w w1) : Rd w1 size v n cs := by
 obtain ⟨hl, ao, c, rfl, hc, hm, h0⟩ := h
 refine ⟨hl, ao, c, rfl, hc, hm, ?_⟩
 rcases h0 with h0 | ⟨ad, rfl, hcell⟩
 ·exact .inl h0
 ·refine .inr ⟨ad, rfl, fun j u hu => ?_⟩
  have hc := hcell j u hu
  exact (hb.cell (World.block_lt_of_cell? w _ hc)).trans hc
theorem own_lt {w : World} {base : Nat} {e : TypeId} {size n : Nat} {v : Value} {xs : List Value} (h : w.ownsRow base e size v n xs) (k : Nat) (hk : v.ownBlock = some k) : k < w.heap.size := (h.lt k hk).2
theorem own_base {w : World} {base : Nat} {e : TypeId} {size n : Nat} {v : Value} {xs : List Value} (h : w.ownsRow base e size v n xs) (k : Nat) (hk : v.ownBlock = some k) : base ≤ k := (h.lt k hk).1
theorem own_below {w w1 : World} {base : Nat} {e : TypeId} {size n : Nat} {v : Value} {xs : List Value} (h : w.ownsRow base e size v n xs) (hb : Below w.heap.size w w1) : w1.ownsRow base e size v n xs :=
 h.kept (gr_of_below hb none) (by cases v.ownBlock <;> simp)
theorem own_weaken {w : World} {base base' : Nat} {e : TypeId} {size n : Nat} {v : Value} {xs : List Value} (h : w.ownsRow base e size v n xs) (hb : base' ≤ base) : w.ownsRow base' e size v n xs := by
 refine ⟨h.1, ?_⟩
 rcases h.2 with hn | ⟨g, cap, cur, rfl, hg, rest⟩
 ·exact .inl hn
 ·exact .inr ⟨g, cap, cur, rfl, by omega, rest⟩
theorem own_rd {w : World} {base : Nat} {e : TypeId} {size n : Nat} {v : Value} {xs : List Value} (h : w.ownsRow base e size v n xs) : Rd w size v n xs := by
 refine ⟨h.1, ?_⟩
 rcases h.2 with ⟨rfl, rfl⟩ | ⟨g, cap, cur, rfl, hb, hg, h1, h2, h3, h4⟩
 ·exact ⟨none, 0, rfl, Nat.le_refl _, by omega, .inl rfl⟩
 ·refine ⟨_, cap, rfl, h1, by simp only [maxLen] at h2; omega, .inr ⟨_, rfl, fun j u hu => h.cells (g := g) rfl j u hu⟩⟩
theorem Rd.src {P : Program} {w : World} {size n : Nat} {v : Value} {cs : List Value} {tx e' : TypeId} (h : Rd w size v n cs) (hk : P.underlying tx = some (.slice e')) (h1 : ∀ u ∈ cs, u.oneCell' = true) : Src P size tx v n cs w := by
 obtain ⟨hl, ao, c, rfl, hc, hm, h0⟩ := h
 rcases h0 with rfl | ⟨ad, rfl, hcell⟩
 ·have : cs = [] := List.eq_nil_of_length_eq_zero (by simpa using hl)
  subst this
  cases ao with
  | none => exact Src.ofNil w hk c
  | some ad => exact Src.ofSlice w hk ad 0 c [] (by simp) (fun j u hu => by simp at hu) (fun u hu => by cases hu)
 ·exact Src.ofSlice w hk ad n c cs hl hcell h1
section
variable {P : Program} (w : World)
theorem run_append_own_src (base : Nat) (t tx ty e : TypeId) (i : TypeInfo) (z : Value) (size bytes : Nat) (ht : P.underlying t = some (.slice e)) (hi : P.info? e = some i) (hz : i.zero = some z)
  (hsize : i.size = size) (hby : i.bytes = bytes) (hzs : z.cells.size = size) (hsz : 0 < size)
  (v : Value) (n : Nat) (xs : List Value) (hown : w.ownsRow base e size v n xs)
  (x : Value) (m : Nat) (news : List Value) (hs : Src P size tx x m news w)
  (h63 : n + m ≤ maxLen) (hbytes : (n + m) * bytes ≤ 140737488355328) (hbase : base ≤ w.heap.size) :
  ∃ v' w', (Builtin.append_ #[t, tx] ty #[v, x]).run P w = .ok v' w' ∧ w'.ownsRow base e size v' (n + m) (xs ++ news) ∧ w.grownBy w' v.ownBlock ∧
   (v'.ownBlock = v.ownBlock ∨ v'.ownBlock = some w.heap.size) := by
 subst hsize
 subst hby
 have hlen : (xs ++ news).length = (n + m) * i.size := by rw [List.length_append, hown.1, hs.newsLen, Nat.add_mul]
 have grown : ∀ (old : Nat), old < n + m → ∀ (row : Option Nat),
   (w.drew.alloc (.cells ((xs ++ news).toArray ++ Builtin.zeroCells z.cells (grownCap w (n + m) old e - (n + m))) e)).ownsRow base e i.size
    (.slice (some ⟨w.heap.size, 0, none⟩) (n + m) (grownCap w (n + m) old e)) (n + m) (xs ++ news) ∧
   w.grownBy (w.drew.alloc (.cells ((xs ++ news).toArray ++ Builtin.zeroCells z.cells (grownCap w (n + m) old e - (n + m))) e)) row := by
  intro old ho row
  have hge := grownCap_ge w (n + m) old e
  have hcm : grownCap w (n + m) old e ≤ maxLen := grownCap_le_maxLen w (n + m) old e h63
  refine ⟨⟨hlen, .inr ⟨w.heap.size, _, _, rfl, hbase, heap_alloc_new w.drew _, hge, hcm, ?_, ?_⟩⟩, ⟨rfl, rfl, rfl, by simp, fun k hk _ => Below.heap_alloc w.drew _ k hk⟩⟩
  ·simp only [Array.size_append, List.size_toArray, size_zeroCells, hzs, hlen, ← Nat.add_mul]
   congr 1
   omega
  ·simp only [Array.toList_append]
   rw [← hlen]
   exact List.take_left
 have h63' : ((n + m : Nat) : Int) ≤ 9223372036854775807 := by simp only [maxLen] at h63; omega
 rcases hown.2 with ⟨rfl, rfl⟩ | ⟨g, cap, cur, rfl, hbg, hg, hnc, hcm, hcs, htake⟩
 ·have hx : xs = [] := List.eq_nil_of_length_eq_zero (by simpa using hown.1)
  subst hx
  by_cases hm : m = 0
  ·subst hm
   have hn : news = [] := List.eq_nil_of_length_eq_zero (by simpa using hs.newsLen)
   subst hn
   refine ⟨.slice none 0 0, w, ?_, World.ownsRow_nil w base e i.size, ⟨rfl, rfl, rfl, Nat.le_refl _, fun _ _ _ => rfl⟩, .inl rfl⟩
   rcases hs.kind with ⟨e', hk⟩ | hk <;>
    simp [Builtin.append_, run_underlying ht, run_underlying hk, sizeOf, typeInfo, hi, hs.len, hs.cells]
  ·have hr := run_append_grow_src (P := P) w t tx ty e i z ht hi hz none 0 0 [] (run_firstCells_none w.drew i.size 0 0 0) x m news hs (by omega) h63' (growslice_fits (by omega) hbytes)
   have hgr := grown 0 (by omega) (Value.ownBlock (.slice none 0 0))
   simp only [Nat.zero_add, List.nil_append] at hgr hr ⊢
   exact ⟨_, _, hr, hgr.1, hgr.2, .inr rfl⟩
 ·by_cases hroom : n + m ≤ cap
  ·have hfit : n * i.size + news.length ≤ cur.size := by rw [hs.newsLen, hcs, ← Nat.add_mul]; exact Nat.mul_le_mul_right _ hroom
   have hst := run_storeCells_at P g (n * i.size) e news 0 cur w hg (by simpa using hfit) hs.one
   simp only [Nat.add_zero] at hst
   refine ⟨.slice (some ⟨g, 0, none⟩) (n + m) cap, w.setRow g (cur.toList.take (n * i.size) ++ news ++ cur.toList.drop (n * i.size + news.length)).toArray, ?_, ⟨hlen, .inr ⟨g, cap, _, rfl, hbg, setRow_heap w g cur _ e _ hg, hroom, hcm, ?_, ?_⟩⟩, ⟨rfl, rfl, rfl, by simp, fun k _ hk => setRow_other w g k _ (fun e => hk (by simp [Value.ownBlock, e]))⟩, .inl rfl⟩
   ·rcases hs.kind with ⟨e', hk⟩ | hk <;>
     simp [Builtin.append_, run_underlying ht, run_underlying hk, sizeOf, typeInfo, hi, hs.len, hroom, hs.cells, Addr.add_lit, hst]
   ·simp only [List.size_toArray, List.length_append, List.length_take, List.length_drop, Array.length_toList]
    omega
   ·rw [htake, ← hlen]
    exact List.take_left
  ·have holds : ∀ j u, xs[j]? = some u → w.cell? ((⟨g, 0, none⟩ : Addr).add j) = some u := hown.cells (g := g) rfl
   have hr := run_append_grow_src (P := P) w t tx ty e i z ht hi hz (some ⟨g, 0, none⟩) n cap xs (run_firstCells_some w.drew i.size n ⟨g, 0, none⟩ n cap xs hown.1 (by simpa using holds)) x m news hs (by omega) h63' (growslice_fits (by omega) hbytes)
   have hgr := grown cap (by omega) (Value.ownBlock (.slice (some ⟨g, 0, none⟩) n cap))
   exact ⟨_, _, hr, hgr.1, hgr.2, .inr rfl⟩
theorem wpList_app {w : World} {ops : Array Oper} {rest : List Oper} {o : Oper} {a : Act} {Q : Exit → Act → World → Prop} (hgd : o.guard = none) (s x : Operand) (t tx : TypeId)
  (ho : o.op = .call { callee := .builtin .append, args := #[s, x], argTypes := #[t, tx] })
  (base : Nat) (e : TypeId) (z : Value) (size bytes : Nat) (ht : P.underlying t = some (.slice e)) (hinfo : (P.info? e).map (fun i => (i.zero, i.size, i.bytes)) = some (some z, size, bytes)) (hzs : z.cells.size = size) (hsz : 0 < size)
  (v : Value) (n : Nat) (xs : List Value) (hs : a.eval s = v) (hown : w.ownsRow base e size v n xs)
  (xv : Value) (m : Nat) (news : List Value) (hx : a.eval x = xv) (hsrc : Src P size tx xv m news w)
  (h63 : n + m ≤ 140737488355328) (hbytes : (n + m) * bytes ≤ 140737488355328) (hbase : base ≤ w.heap.size)
  (h : ∀ v' w', w'.ownsRow base e size v' (n + m) (xs ++ news) → w.grownBy w' v.ownBlock → (v'.ownBlock = v.ownBlock ∨ v'.ownBlock = some w.heap.size) → wpList P ops Q rest (a.put o.dst v') w') :
  wpList P ops Q (o :: rest) a w := by
 obtain ⟨i, hi, hz, hsize, hby⟩ := info_parts hinfo
 refine wpList_plain hgd fun K hK => ?_
 obtain ⟨v', w', hr, h2, h3, h4⟩ := run_append_own_src (P := P) w base t tx o.type e i z size bytes ht hi hz hsize hby hzs hsz v n xs hown xv m news hsrc (by simp only [maxLen]; omega) hbytes hbase
 unfold Oper.wp execOp
 simp only [ho, resolve, invoke, builtin, Sem.run_bind, Sem.run_pure, Result.andThen_ok, List.map_toArray, List.map_cons, List.map_nil, hs, hx, hr]
 exact hK _ _ (h v' w' h2 h3 h4)
end
structure Enc (α : Type) where
 sz : Nat
 pos : 0 < sz
 cells : α → List Value
 len : ∀ x, (cells x).length = sz
 one : ∀ x, ∀ u ∈ cells x, u.oneCell' = true
namespace Enc
variable {α : Type} (E : Enc α)
def all (xs : List α) : List Value := xs.flatMap E.cells
theorem all_append (xs ys : List α) : E.all (xs ++ ys) = E.all xs ++ E.all ys := by simp [all]
theorem all_one_elem (x : α) : E.all [x] = E.cells x := by simp [all]
theorem all_length (xs : List α) : (E.all xs).length = xs.length * E.sz := by
 induction xs with
 | nil => simp [all]
 | cons x xs ih =>
  have h : E.all (x :: xs) = E.cells x ++ E.all xs := by simp [all]
  rw [h, List.length_append, E.len, ih, List.length_cons, Nat.add_mul, Nat.one_mul, Nat.add_comm]
theorem all_one (xs : List α) : ∀ u ∈ E.all xs, u.oneCell' = true := by
 intro u hu
 simp only [all, List.mem_flatMap] at hu
 obtain ⟨x, _, h⟩ := hu
 exact E.one x u h
theorem all_get (xs : List α) (i j : Nat) (hi : i < xs.length) (hj : j < E.sz) : (E.all xs)[i * E.sz + j]? = (E.cells xs[i])[j]? := by
 induction xs generalizing i with
 | nil => simp at hi
 | cons x xs ih =>
  have h : E.all (x :: xs) = E.cells x ++ E.all xs := by simp [all]
  rw [h]
  cases i with
  | zero => rw [Nat.zero_mul, Nat.zero_add, List.getElem?_append_left (by rw [E.len]; exact hj)]; rfl
  | succ i =>
   have h1 : (i + 1) * E.sz + j = E.sz + (i * E.sz + j) := by rw [Nat.add_mul]; omega
   rw [h1, List.getElem?_append_right (by rw [E.len]; omega), E.len, Nat.add_sub_cancel_left, ih i (by simpa using hi)]
   rfl
def O (w : World) (base : Nat) (e : TypeId) (v : Value) (xs : List α) : Prop := w.ownsRow base e E.sz v xs.length (E.all xs)
def R (w : World) (v : Value) (xs : List α) : Prop := Rd w E.sz v xs.length (E.all xs)
variable {E}
theorem O.read {w : World} {base : Nat} {e : TypeId} {v : Value} {xs : List α} (h : E.O w base e v xs) : E.R w v xs := own_rd h
theorem O.below {w w1 : World} {base : Nat} {e : TypeId} {v : Value} {xs : List α} (h : E.O w base e v xs) (hb : Below w.heap.size w w1) : E.O w1 base e v xs := own_below h hb
theorem O.weaken {w : World} {base base' : Nat} {e : TypeId} {v : Value} {xs : List α} (h : E.O w base e v xs) (hb : base' ≤ base) : E.O w base' e v xs := own_weaken h hb
theorem O.base {w : World} {base : Nat} {e : TypeId} {v : Value} {xs : List α} (h : E.O w base e v xs) (k : Nat) (hk : v.ownBlock = some k) : base ≤ k := own_base h k hk
theorem O.lt {w : World} {base : Nat} {e : TypeId} {v : Value} {xs : List α} (h : E.O w base e v xs) (k : Nat) (hk : v.ownBlock = some k) : k < w.heap.size := own_lt h k hk
theorem O.alloc {w : World} {base : Nat} {e : TypeId} {v : Value} {xs : List α} (h : E.O w base e v xs) (o : Obj) : E.O (w.alloc o) base e v xs := World.ownsRow.alloc h o
theorem O.none (w : World) (base : Nat) (e : TypeId) : E.O w base e (.slice none 0 0) [] := World.ownsRow_nil _ _ _ _
theorem O.lit {w : World} {base : Nat} {e : TypeId} (cs : Array Value) (xs : List α) (hc : cs.toList = E.all xs) (hb : base ≤ w.heap.size) (hm : xs.length ≤ maxLen) :
  E.O (w.alloc (.cells cs e)) base e (.slice (some ⟨w.heap.size, 0, Option.none⟩) xs.length xs.length) xs := by
 unfold O
 rw [← hc]
 exact World.ownsRow_lit w cs xs.length hb hm (by rw [← Array.length_toList, hc, E.all_length])
theorem R.below {w w1 : World} {v : Value} {xs : List α} (h : E.R w v xs) (hb : Below w.heap.size w w1) : E.R w1 v xs := Rd.below h hb
theorem R.src {P : Program} {w : World} {v : Value} {xs : List α} {tx e' : TypeId} (h : E.R w v xs) (hk : P.underlying tx = some (.slice e')) : Src P E.sz tx v xs.length (E.all xs) w := Rd.src h hk (E.all_one xs)
theorem R.none (w : World) : E.R w (.slice none 0 0) [] := (O.none (E := E) w 0 0).read
theorem R.open_ {w : World} {v : Value} {xs : List α} (h : E.R w v xs) : ∃ ao c, v = .slice ao xs.length c ∧ xs.length ≤ c ∧ xs.length ≤ 9223372036854775807 ∧
  ∀ i, (hi : i < xs.length) → ∃ ad, ao = some ad ∧ ∀ j, j < E.sz → w.cell? (ad.add (i * E.sz + j)) = (E.cells xs[i])[j]? := by
 obtain ⟨_, ao, c, rfl, hc, hm, h0⟩ := h
 refine ⟨ao, c, rfl, hc, hm, fun i hi => ?_⟩
 rcases h0 with h0 | ⟨ad, rfl, hcell⟩
 ·omega
 ·refine ⟨ad, rfl, fun j hj => ?_⟩
  have hg := E.all_get xs i j hi hj
  rw [← hg]
  have hlt : i * E.sz + j < (E.all xs).length := by
   rw [E.all_length]
   calc i * E.sz + j < i * E.sz + E.sz := by omega
    _ = (i + 1) * E.sz := by rw [Nat.add_mul, Nat.one_mul]
    _ ≤ xs.length * E.sz := Nat.mul_le_mul_right _ hi
  rw [List.getElem?_eq_getElem hlt]
  exact hcell _ _ (List.getElem?_eq_getElem hlt)
theorem app {P : Program} {w : World} {ops : Array Oper} {rest : List Oper} {o : Oper} {a : Act} {Q : Exit → Act → World → Prop} (hgd : o.guard = Option.none) (s x : Operand) (t tx : TypeId)
  (ho : o.op = .call { callee := .builtin .append, args := #[s, x], argTypes := #[t, tx] })
  {base : Nat} {e : TypeId} (z : Value) (bytes : Nat) (ht : P.underlying t = some (.slice e)) (hinfo : (P.info? e).map (fun i => (i.zero, i.size, i.bytes)) = some (some z, E.sz, bytes)) (hzs : z.cells.size = E.sz)
  {v : Value} {xs : List α} (hs : a.eval s = v) (hown : E.O w base e v xs)
  {xv : Value} {ys : List α} (hx : a.eval x = xv) (hsrc : Src P E.sz tx xv ys.length (E.all ys) w)
  (h63 : xs.length + ys.length ≤ 100000000000) (hbytes : bytes ≤ 1000) (hbase : base ≤ w.heap.size)
  (h : ∀ v' w', E.O w' base e v' (xs ++ ys) → w.grownBy w' v.ownBlock → (v'.ownBlock = v.ownBlock ∨ v'.ownBlock = some w.heap.size) → wpList P ops Q rest (a.put o.dst v') w') :
  wpList P ops Q (o :: rest) a w := by
 refine wpList_app hgd s x t tx ho base e z E.sz bytes ht hinfo hzs E.pos v xs.length (E.all xs) hs hown xv ys.length (E.all ys) hx hsrc (by omega) ?_ hbase ?_
 ·calc (xs.length + ys.length) * bytes ≤ 100000000000 * 1000 := Nat.mul_le_mul h63 hbytes
   _ ≤ 140737488355328 := by decide
 ·intro v' w' h1 h2 h3
  refine h v' w' ?_ h2 h3
  unfold O
  rw [E.all_append, List.length_append]
  exact h1
end Enc
def encB : Enc UInt8 := ⟨1, by decide, fun b => [.int .u8 b.toNat], fun _ => rfl, fun _ u hu => by rw [List.mem_singleton.1 hu]; rfl⟩
def encI (k : IntKind) : Enc Int := ⟨1, by decide, fun n => [.int k n], fun _ => rfl, fun _ u hu => by rw [List.mem_singleton.1 hu]; rfl⟩
end Go.Proofs.YtebpacmhdkgfeaaGreat

namespace Go.Proofs.YtebpacmhdkgfeaaGreat
open Go.RowKit
def allO : List (Option Bool) → Option Bool
 | [] => some true
 | none :: _ => none
 | some b :: l => match allO l with
  | none => none
  | some r => some (b && r)
def chunk (xs : List Value) (off n : Nat) : List Value := (xs.drop off).take n
def eqCells (P : Program) : Nat → TypeId → List Value → List Value → Option Bool
 | 0, _, _, _ => none
 | m + 1, t, xs, ys =>
  match P.underlying t with
  | some .bool => (match xs, ys with | [.bool a], [.bool b] => some (a == b) | _, _ => none)
  | some (.int _) => (match xs, ys with | [.int k a], [.int k' b] => if k = k' then some (a == b) else none | _, _ => none)
  | some .string => (match xs, ys with | [.string a], [.string b] => some (a == b) | _, _ => none)
  | some (.array n e) => if (P.info? e).isSome = true then allO ((List.range n).map fun i => eqCells P m e (chunk xs (i * P.cellsOf e) (P.cellsOf e)) (chunk ys (i * P.cellsOf e) (P.cellsOf e))) else none
  | some (.struct fs) => if P.stoodInHeld t = true then none else allO (fs.toList.map fun f => if f.name = "_" then none else eqCells P m f.type (chunk xs f.offset (P.cellsOf f.type)) (chunk ys f.offset (P.cellsOf f.type)))
  | _ => none
def isAggT (P : Program) (t : TypeId) : Bool := match P.underlying t with | some (.array _ _) | some (.struct _) => true | _ => false
def asVal (P : Program) (t : TypeId) (cs : List Value) : Value := if isAggT P t = true then .agg cs.toArray else cs.headD undef
section
variable {P : Program} (w : World)
theorem run_part_of {m : Nat} {e : TypeId} {xs : List Value} {ys : List Value} {off : Nat} {r : Bool} (h : eqCells P m e (chunk xs off (P.cellsOf e)) ys = some r ∨ eqCells P m e ys (chunk xs off (P.cellsOf e)) = some r) :
  (part e xs.toArray off).run P w = .ok (asVal P e (chunk xs off (P.cellsOf e))) w := by
 cases m with
 | zero => simp [eqCells] at h
 | succ m =>
  cases hu : P.underlying e with
  | none => simp [eqCells, hu] at h
  | some d =>
   obtain ⟨i, hi⟩ := info_of_underlying hu
   have one : (∃ v, chunk xs off (P.cellsOf e) = [v]) → isAggT P e = false → (part e xs.toArray off).run P w = .ok (asVal P e (chunk xs off (P.cellsOf e))) w := by
    rintro ⟨v, hv⟩ hag
    have hx : xs[off]? = some v := by
     have h1 : (chunk xs off (P.cellsOf e))[0]? = some v := by rw [hv]; rfl
     simp only [chunk] at h1
     rw [List.getElem?_take] at h1
     split at h1
     ·simpa using h1
     ·cases h1
    have h2 : asVal P e (chunk xs off (P.cellsOf e)) = v := by rw [hv]; simp [asVal, hag]
    rw [h2]
    unfold isAggT at hag
    rw [hu] at hag
    cases d <;> simp at hag <;> simp [part, isAgg, run_underlying hu, hx]
   have agg : isAggT P e = true → (part e xs.toArray off).run P w = .ok (asVal P e (chunk xs off (P.cellsOf e))) w := by
    intro hag
    have h2 : asVal P e (chunk xs off (P.cellsOf e)) = .agg (xs.toArray.extract off (off + P.cellsOf e)) := by
     simp only [asVal, hag, if_true, chunk]
     congr 1
     apply Array.ext'
     simp [List.extract]
    rw [h2]
    unfold isAggT at hag
    rw [hu] at hag
    cases d <;> simp at hag <;> simp [part, isAgg, run_underlying hu, run_sizeOf w hi]
   cases d
   case bool =>
    refine one ?_ (by simp [isAggT, hu])
    simp only [eqCells, hu] at h
    rcases h with h | h <;> (split at h <;> simp_all)
   case int q =>
    refine one ?_ (by simp [isAggT, hu])
    simp only [eqCells, hu] at h
    rcases h with h | h <;> (split at h <;> simp_all)
   case string =>
    refine one ?_ (by simp [isAggT, hu])
    simp only [eqCells, hu] at h
    rcases h with h | h <;> (split at h <;> simp_all)
   case array n e' => exact agg (by simp [isAggT, hu])
   case struct fs => exact agg (by simp [isAggT, hu])
   all_goals (simp [eqCells, hu] at h; done)
theorem run_equalIn_cells (d : Nat) : ∀ (m : Nat) (t : TypeId) (xs ys : List Value) (r : Bool) (w : World), eqCells P m t xs ys = some r →
  (Op.equalIn (d + m) t (asVal P t xs) (asVal P t ys)).run P w = .ok r w
 | 0, _, _, _, _, _, h => by simp [eqCells] at h
 | m + 1, t, xs, ys, r, w, h => by
  cases hu : P.underlying t with
  | none => simp [eqCells, hu] at h
  | some dd =>
   obtain ⟨i, hi⟩ := info_of_underlying hu
   cases dd
   case bool =>
    simp only [eqCells, hu] at h
    split at h
    ·simp only [Option.some.injEq] at h
     subst h
     simp [asVal, isAggT, hu, Op.equalIn, run_underlying hu]
    ·cases h
   case int q =>
    simp only [eqCells, hu] at h
    split at h
    ·split at h
     ·rename_i hk
      subst hk
      simp only [Option.some.injEq] at h
      subst h
      simp [asVal, isAggT, hu, Op.equalIn, run_underlying hu]
     ·cases h
    ·cases h
   case string =>
    simp only [eqCells, hu] at h
    split at h
    ·simp only [Option.some.injEq] at h
     subst h
     simp [asVal, isAggT, hu, Op.equalIn, run_underlying hu]
    ·cases h
   case array n e =>
    simp only [eqCells, hu] at h
    have hag : isAggT P t = true := by simp [isAggT, hu]
    simp only [asVal, hag, if_true]
    split at h
    case isFalse => cases h
    case isTrue hse =>
     obtain ⟨ie, hie⟩ := Option.isSome_iff_exists.1 hse
     rw [show d + (m + 1) = (d + m) + 1 from rfl, run_equalIn_array w (d + m) _ _ hu hie]
     generalize List.range n = is at h
     induction is generalizing r with
     | nil => simp [allO] at h; subst h; simp [Op.eqItems]
     | cons j is ih =>
      rw [List.map_cons] at h
      cases h1 : eqCells P m e (chunk xs (j * P.cellsOf e) (P.cellsOf e)) (chunk ys (j * P.cellsOf e) (P.cellsOf e)) with
      | none => simp [allO, h1] at h
      | some b =>
       rw [h1] at h
       simp only [allO] at h
       split at h
       ·cases h
       ·rename_i r' h2
        simp only [Option.some.injEq] at h
        subst h
        have p1 := run_part_of (P := P) w (.inl h1)
        have p2 := run_part_of (P := P) w (.inr h1)
        have p3 := run_equalIn_cells d m e _ _ b w h1
        simp only [Op.eqItems, Sem.run_bind, p1, p2, p3, Result.andThen_ok]
        cases b
        ·simp
        ·simpa using ih r' h2
   case struct fs =>
    simp only [eqCells, hu] at h
    split at h
    ·cases h
    ·rename_i hst
     have hag : isAggT P t = true := by simp [isAggT, hu]
     have hf : P.fieldsOf t = fs := by simp [Program.fieldsOf, hu]
     simp only [asVal, hag, if_true]
     rw [show d + (m + 1) = (d + m) + 1 from rfl, run_equalIn_struct w (d + m) t _ _ (by rw [hf]; exact hu) (by simpa using hst), hf]
     generalize fs.toList = l at h
     clear hf hag
     induction l generalizing r with
     | nil => simp [allO] at h; subst h; simp [Op.eqFields]
     | cons f l ih =>
      rw [List.map_cons] at h
      by_cases hn : f.name = "_"
      ·simp [hn, allO] at h
      ·simp only [hn, if_false] at h
       cases h1 : eqCells P m f.type (chunk xs f.offset (P.cellsOf f.type)) (chunk ys f.offset (P.cellsOf f.type)) with
       | none => simp [allO, h1] at h
       | some b =>
        rw [h1] at h
        simp only [allO] at h
        split at h
        ·cases h
        ·rename_i r' h2
         simp only [Option.some.injEq] at h
         subst h
         have p1 := run_part_of (P := P) w (.inl h1)
         have p2 := run_part_of (P := P) w (.inr h1)
         have p3 := run_equalIn_cells d m f.type _ _ b w h1
         simp only [Op.eqFields, ne_eq, hn, not_false_eq_true, if_true, Sem.run_bind, p1, p2, p3, Result.andThen_ok]
         cases b
         ·simp
         ·simpa using ih r' h2
   all_goals (simp [eqCells, hu] at h; done)
theorem run_eql_cells (m : Nat) (hm : m ≤ 10000) {t : TypeId} {xs ys : Array Value} {r : Bool} (hag : isAggT P t = true) (h : eqCells P m t xs.toList ys.toList = some r) :
  ∀ w : World, (binOp .eql t (.agg xs) (.agg ys)).run P w = .ok (.bool r) w := by
 intro w
 have h1 := run_equalIn_cells (P := P) (10000 - m) m t xs.toList ys.toList r w h
 rw [Nat.sub_add_cancel hm] at h1
 simp only [asVal, hag, if_true, Array.toArray_toList] at h1
 simp only [binOp, Op.equal, Op.maxDepth, Sem.run_bind, h1, Result.andThen_ok, Sem.run_pure]
theorem run_neq_cells (m : Nat) (hm : m ≤ 10000) {t : TypeId} {xs ys : Array Value} {r : Bool} (hag : isAggT P t = true) (h : eqCells P m t xs.toList ys.toList = some r) :
  ∀ w : World, (binOp .neq t (.agg xs) (.agg ys)).run P w = .ok (.bool (!r)) w := by
 intro w
 have h1 := run_equalIn_cells (P := P) (10000 - m) m t xs.toList ys.toList r w h
 rw [Nat.sub_add_cancel hm] at h1
 simp only [asVal, hag, if_true, Array.toArray_toList] at h1
 simp only [binOp, Op.equal, Op.maxDepth, Sem.run_bind, h1, Result.andThen_ok, Sem.run_pure]
end
end Go.Proofs.YtebpacmhdkgfeaaGreat

namespace Go.Proofs.YtebpacmhdkgfeaaGreat
open Go.RowKit
theorem hide {p : Prop} (h : p) : Hid p := h
theorem unhide {p : Prop} (h : Hid p) : p := h
def Box (w : World) (g : Nat) (cs : Array Value) (t : TypeId) : Prop := w.heap[g]? = some (.cells cs t (0, 0))
def Stop (p : Prop) : Prop := p
theorem stop {p : Prop} (h : Stop p) : p := h
structure Put (w w1 : World) (g : Nat) : Prop where
 os : w1.os = w.os
 tape : w1.tape = w.tape
 output : w1.output = w.output
 size : w.heap.size ≤ w1.heap.size
 block : ∀ k, k < w.heap.size → k ≠ g → w1.heap[k]? = w.heap[k]?
theorem Put.below {w0 w w1 : World} {g : Nat} (h : Below w0.heap.size w0 w) (hp : Put w w1 g) (hg : w0.heap.size ≤ g) : Below w0.heap.size w0 w1 :=
 h.trans ⟨hp.os, hp.tape, hp.output, hp.size, fun k hk => hp.block k (Nat.lt_of_lt_of_le hk h.size) (by omega)⟩
namespace Box
variable {w w1 : World} {g : Nat} {cs : Array Value} {t : TypeId}
theorem lt (h : Box w g cs t) : g < w.heap.size := (Array.getElem?_eq_some_iff.1 h).1
theorem cell (h : Box w g cs t) : ∀ j, w.cell? ⟨g, j, none⟩ = cs[j]? := fun j => cell_of_row w g j cs t (0, 0) h
theorem frozen (h : Box w g cs t) : ∀ j, w.frozen? ⟨g, j, none⟩ = false := fun j => frozen_of_row w g j cs t h
theorem below (h : Box w g cs t) (hb : Below w.heap.size w w1) : Box w1 g cs t := (hb.block g h.lt).trans h
theorem put (h : Box w g cs t) {g' : Nat} (hp : Put w w1 g') (hne : g ≠ g') : Box w1 g cs t := (hp.block g h.lt hne).trans h
theorem grown (h : Box w g cs t) {row : Option Nat} (hg : w.grownBy w1 row) (hne : some g ≠ row) : Box w1 g cs t := (hg.block g h.lt hne).trans h
theorem alloc (h : Box w g cs t) (o : Obj) : Box (w.alloc o) g cs t := (Below.heap_alloc w o g h.lt).trans h
theorem drew (h : Box w g cs t) : Box w.drew g cs t := h
theorem new (w : World) (cs : Array Value) (t : TypeId) : Box (w.alloc (.cells cs t)) w.heap.size cs t := heap_alloc_new w _
theorem set (h : Box w g cs t) (j : Nat) (v : Value) : Box (w.setCell ⟨g, j, none⟩ v) g (cs.setIfInBounds j v) t := heap_setCell_same w g j cs t v h
end Box
section
variable {P : Program} {ops : Array Oper} {rest : List Oper} {o : Oper} {a : Act} {Q : Exit → Act → World → Prop} {W : World}
theorem gate {N : Tmp} (_h : o.dst = some N) (h : wpList P ops Q (o :: rest) a W) : wpList P ops Q (o :: rest) a W := h
theorem event (hgd : o.guard = none) {v : Value} {w1 : World} (hrun : (execOp a.eval o).run P W = .ok (.value v) w1) (h : wpList P ops Q rest (a.put o.dst v) w1) : wpList P ops Q (o :: rest) a W := by
 refine wpList_plain hgd fun K hK => ?_
 unfold Oper.wp
 rw [hrun]
 exact hK _ _ h
theorem gate0 (_h : o.dst = none) (h : wpList P ops Q (o :: rest) a W) : wpList P ops Q (o :: rest) a W := h
theorem ev_set (hgd : o.guard = none) (ty : TypeId) (p x : Operand) (ho : o.op = .store ty p x) {g j : Nat} (hp : a.eval p = .pointer (some ⟨g, j, none⟩)) {t : TypeId} {cs cs' : Array Value} (hB : Box W g cs t)
  {v : Value} (hv : a.eval x = v) (h1 : ∀ u ∈ v.cells.toList, u.oneCell' = true) (hi : (P.info? ty).map (·.size) = some v.cells.size) (hj : j + v.cells.size ≤ cs.size)
  (hcs : (cs.toList.take j ++ v.cells.toList ++ cs.toList.drop (j + v.cells.toList.length)).toArray = cs')
  (h : ∀ w1, Box w1 g cs' t → Put W w1 g → wpList P ops Q rest (a.put o.dst undef) w1) : wpList P ops Q (o :: rest) a W := by
 refine wpList_plain hgd fun K hK => ?_
 have hst := run_storeCells_at P g j t v.cells.toList 0 cs W hB (by simpa using hj) h1
 simp only [Nat.add_zero] at hst
 obtain ⟨i, hii, hsz⟩ := Option.map_eq_some_iff.1 hi
 have hst2 : (storeVar ty ⟨g, j, none⟩ v).run P W = .ok () (W.setRow g cs') := by
  subst hcs
  simp [storeVar, sizeOf, typeInfo, hii, hsz, hst]
 unfold Oper.wp execOp
 simp only [ho, hp, hv, Instr.storeAt, Instr.sureAddr, Sem.run_bind, Sem.run_pure, Result.andThen_ok, hst2]
 refine hK _ _ (h _ (setRow_heap W g cs cs' t (0, 0) hB) ⟨rfl, rfl, rfl, by simp, fun k _ hk => setRow_other W g k cs' hk⟩)
end
structure Ext (W : World) where
 w : World
 ok : Below W.heap.size W w
namespace Ext
variable {W : World}
instance : Nonempty (Ext W) := ⟨⟨W, Below.refl _ _⟩⟩
theorem cell (e : Ext W) {b o : Nat} (h : b < W.heap.size) : e.w.cell? ⟨b, o, none⟩ = W.cell? ⟨b, o, none⟩ := e.ok.cell (p := ⟨b, o, none⟩) h
theorem frozen (e : Ext W) {b o : Nat} (h : b < W.heap.size) : e.w.frozen? ⟨b, o, none⟩ = W.frozen? ⟨b, o, none⟩ := e.ok.frozen (p := ⟨b, o, none⟩) h
theorem box (e : Ext W) {g : Nat} {cs : Array Value} {t : TypeId} (h : Box W g cs t) : Box e.w g cs t := h.below e.ok
end Ext
attribute [go_sem] Ext.cell Ext.frozen
theorem wp_region_ext {P : Program} {id : Nat} {Q : Exit → Act → World → Prop} {a : Act} {w : World} {l : List Oper} (hm : P.follows .mixedOrders = true) (hB : Region.lexB .any l.toArray = true)
  (h : wpQuiet P l.toArray (fun w' => ∃ e : Ext w, w' = e.w) (fun a' => ∀ w', (∃ e : Ext w, w' = e.w) → Q .normal a' w') l a) : (Code.region id l.toArray true).wp P Q a w :=
 wp_region_quiet (C := fun w' => ∃ e : Ext w, w' = e.w) hm hB ⟨⟨w.drew, ⟨rfl, rfl, rfl, Nat.le_refl _, fun _ _ => rfl⟩⟩, rfl⟩ (by simpa using h)
theorem calls_ext {P : Program} {f : FuncId} {args : Array Value} {W : World} {e : Ext W} {v : Value} (h : Calls P f args e.w fun en w' => en = .returned v ∧ Below e.w.heap.size e.w w') :
  Calls P f args e.w fun en w'' => en = .returned v ∧ ∃ m : Ext W, w'' = m.w :=
 h.mono fun _ w' ⟨he, hb⟩ => ⟨he, ⟨w', bl_then e.ok hb⟩, rfl⟩
end Go.Proofs.YtebpacmhdkgfeaaGreat

namespace Go.Proofs.YtebpacmhdkgfeaaGreat
open Go.RowKit
section
variable {P : Program} {ops : Array Oper} {rest : List Oper} {o : Oper} {a : Act} {Q : Exit → Act → World → Prop} {W : World}
theorem wpList_want (hw : Region.wanted o (yielded ops a.tmps) = true) (h : ∀ K : Act → World → Prop, (∀ a w, wpList P ops Q rest a w → K a w) → o.wp P a W K Q) : wpList P ops Q (o :: rest) a W :=
 wpList_step fun K hK => by simp only [hw, if_true]; exact h K hK
theorem eventG (hw : Region.wanted o (yielded ops a.tmps) = true) {v : Value} {w1 : World} (hrun : (execOp a.eval o).run P W = .ok (.value v) w1) (h : wpList P ops Q rest (a.put o.dst v) w1) : wpList P ops Q (o :: rest) a W := by
 refine wpList_want hw fun K hK => ?_
 unfold Oper.wp
 rw [hrun]
 exact hK _ _ h
end
end Go.Proofs.YtebpacmhdkgfeaaGreat

namespace Go.Proofs.YtebpacmhdkgfeaaGreat
open Go.RowKit
structure Item where
 S : Nat → Prop
 p : World → Prop
structure Item.At (i : Item) (w : World) : Prop where
 p : i.p w
 lt : ∀ k, i.S k → k < w.heap.size
 stay : ∀ w', w.heap.size ≤ w'.heap.size → (∀ k, i.S k → w'.heap[k]? = w.heap[k]?) → i.p w'
theorem Item.At.keep {i : Item} {w w' : World} (h : i.At w) (hz : w.heap.size ≤ w'.heap.size) (hb : ∀ k, i.S k → w'.heap[k]? = w.heap[k]?) : i.At w' :=
 ⟨h.stay w' hz hb, fun k hk => Nat.lt_of_lt_of_le (h.lt k hk) hz, fun w'' hz' hb' => h.stay w'' (Nat.le_trans hz hz') fun k hk => (hb' k hk).trans (hb k hk)⟩
structure Mod (M : Nat → Prop) (w w1 : World) : Prop where
 os : w1.os = w.os
 tape : w1.tape = w.tape
 output : w1.output = w.output
 size : w.heap.size ≤ w1.heap.size
 block : ∀ k, k < w.heap.size → ¬ M k → w1.heap[k]? = w.heap[k]?
def NoM : Nat → Prop := fun _ => False
namespace Mod
variable {M M' : Nat → Prop} {w w1 w2 : World}
theorem refl (M : Nat → Prop) (w : World) : Mod M w w := ⟨rfl, rfl, rfl, Nat.le_refl _, fun _ _ _ => rfl⟩
theorem of_below (h : Below w.heap.size w w1) : Mod M w w1 := ⟨h.os, h.tape, h.output, h.size, fun k hk _ => h.block k hk⟩
theorem below (h : Mod NoM w w1) : Below w.heap.size w w1 := ⟨h.os, h.tape, h.output, h.size, fun k hk => h.block k hk fun e => e⟩
theorem of_put {g : Nat} (h : Put w w1 g) : Mod (· = g) w w1 := ⟨h.os, h.tape, h.output, h.size, fun k hk hn => h.block k hk hn⟩
theorem put {g : Nat} (h : Mod (· = g) w w1) : Put w w1 g := ⟨h.os, h.tape, h.output, h.size, fun k hk hn => h.block k hk hn⟩
theorem of_grown {row : Option Nat} (h : w.grownBy w1 row) : Mod (fun k => some k = row) w w1 := ⟨h.os, h.tape, h.output, h.size, fun k hk hn => h.block k hk hn⟩
theorem mono (h : Mod M w w1) (hM : ∀ k, k < w.heap.size → M k → M' k) : Mod M' w w1 := ⟨h.os, h.tape, h.output, h.size, fun k hk hn => h.block k hk fun e => hn (hM k hk e)⟩
theorem trans (h : Mod M w w1) (k : Mod M' w1 w2) (hM : ∀ b, b < w.heap.size → M' b → M b) : Mod M w w2 :=
 ⟨k.os.trans h.os, k.tape.trans h.tape, k.output.trans h.output, Nat.le_trans h.size k.size, fun i hi hn =>
  (k.block i (Nat.lt_of_lt_of_le hi h.size) (fun e => hn (hM i hi e))).trans (h.block i hi hn)⟩
end Mod
structure Loc (w0 : World) (M : Nat → Prop) (w : World) (l : List Item) : Prop where
 mod : Mod M w0 w
 at_ : ∀ i ∈ l, i.At w
 new : ∀ i ∈ l, ∀ k, i.S k → w0.heap.size ≤ k ∨ M k
 apart : l.Pairwise fun i j => ∀ k, i.S k → ¬ j.S k
def var (g : Nat) (cs : List Value) (t : TypeId) : Item := ⟨(· = g), fun w => Box w g cs.toArray t⟩
def seg (a b : Nat) (p : World → Prop) : Item := ⟨fun k => a ≤ k ∧ k < b, p⟩
def row {α : Type} (E : Enc α) (base : Nat) (e : TypeId) (v : Value) (xs : List α) : Item := ⟨fun k => v.ownBlock = some k, fun w => E.O w base e v xs⟩
inductive Swap (i i' : Item) : List Item → List Item → Prop where
 | here (l : List Item) : Swap i i' (i :: l) (i' :: l)
 | there (j : Item) {l l' : List Item} : Swap i i' l l' → Swap i i' (j :: l) (j :: l')
theorem Swap.mem {i i' : Item} {l l' : List Item} (h : Swap i i' l l') : i ∈ l := by
 induction h with
 | here l => exact .head _
 | there j _ ih => exact .tail _ ih
theorem Swap.out {i i' : Item} {l l' : List Item} (h : Swap i i' l l') : ∀ j ∈ l', j = i' ∨ j ∈ l := by
 induction h with
 | here l => exact fun j hj => (List.mem_cons.1 hj).elim .inl fun h => .inr (.tail _ h)
 | there j _ ih => exact fun k hk => (List.mem_cons.1 hk).elim (fun e => .inr (e ▸ .head _)) fun h => (ih k h).elim .inl fun h => .inr (.tail _ h)
theorem var_at {w : World} {g : Nat} {cs : List Value} {t : TypeId} (h : Box w g cs.toArray t) : (var g cs t).At w :=
 ⟨h, fun k hk => by cases hk; exact h.lt, fun w' _ hb => (hb g rfl).trans h⟩
theorem row_at {α : Type} {E : Enc α} {w : World} {base : Nat} {e : TypeId} {v : Value} {xs : List α} (h : E.O w base e v xs) : (row E base e v xs).At w := by
 refine ⟨h, fun k hk => h.lt k hk, fun w' hz hb => ?_⟩
 unfold Item.p row Enc.O at *
 refine ⟨h.1, ?_⟩
 rcases h.2 with hn | ⟨g, cap, cur, rfl, hbb, hg, rest⟩
 ·exact .inl hn
 ·exact .inr ⟨g, cap, cur, rfl, hbb, (hb g rfl).trans hg, rest⟩
namespace Loc
variable {w0 w w1 : World} {M : Nat → Prop} {l l' : List Item} {i i' : Item}
theorem nil (w : World) (M : Nat → Prop) : Loc w M w [] := ⟨.refl _ _, by simp, by simp, .nil⟩
theorem below (h : Loc w0 NoM w l) : Below w0.heap.size w0 w := h.mod.below
theorem size (h : Loc w0 M w l) : w0.heap.size ≤ w.heap.size := h.mod.size
theorem get (h : Loc w0 M w l) (hm : i ∈ l) : i.p w := (h.at_ i hm).p
theorem box {g : Nat} {cs : List Value} {t : TypeId} (h : Loc w0 M w l) (hm : var g cs t ∈ l) : Box w g cs.toArray t := h.get hm
theorem own {α : Type} {E : Enc α} {base : Nat} {e : TypeId} {v : Value} {xs : List α} (h : Loc w0 M w l) (hm : row E base e v xs ∈ l) : E.O w base e v xs := h.get hm
theorem fact {a b : Nat} {p : World → Prop} (h : Loc w0 M w l) (hm : seg a b p ∈ l) : p w := h.get hm
theorem call (h : Loc w0 M w l) (hb : Below w.heap.size w w1) : Loc w0 M w1 l :=
 ⟨h.mod.trans (.of_below (M := NoM) hb) fun _ _ e => e.elim, fun i hi => (h.at_ i hi).keep hb.size fun k hk => hb.block k ((h.at_ i hi).lt k hk), h.new, h.apart⟩
theorem callNew (h : Loc w0 M w l) (hb : Below w.heap.size w w1) (hi : i.At w1) (hS : ∀ k, i.S k → w.heap.size ≤ k) : Loc w0 M w1 (i :: l) := by
 have h1 := h.call hb
 refine ⟨h1.mod, fun j hj => (List.mem_cons.1 hj).elim (fun e => e ▸ hi) (h1.at_ j), fun j hj k hk => ?_, .cons (fun j hj k hk hk' => ?_) h1.apart⟩
 ·rcases List.mem_cons.1 hj with rfl | hj
  ·exact .inl (Nat.le_trans h.size (hS k hk))
  ·exact h1.new j hj k hk
 ·have := (h.at_ j hj).lt k hk'
  have := hS k hk
  omega
theorem callVar {g : Nat} {cs : List Value} {t : TypeId} (h : Loc w0 M w l) (hb : Below w.heap.size w w1) (hx : Box w1 g cs.toArray t) (hg : w.heap.size ≤ g) : Loc w0 M w1 (var g cs t :: l) :=
 h.callNew hb (var_at hx) fun k hk => by cases hk; exact hg
theorem swap (h : Loc w0 M w l) (hs : Swap i i' l l') (hm : Mod i.S w w1) (hi : i'.At w1) (hS : ∀ k, i'.S k → i.S k ∨ w.heap.size ≤ k) : Loc w0 M w1 l' := by
 have hmi := hs.mem
 refine ⟨h.mod.trans hm fun b hb hk => ?_, ?_, fun j hj k hk => ?_, ?_⟩
 ·rcases h.new i hmi b hk with h1 | h1
  ·omega
  ·exact h1
 ·have key : ∀ {l l' : List Item}, Swap i i' l l' → (∀ j ∈ l, j.At w) → (l.Pairwise fun i j => ∀ k, i.S k → ¬ j.S k) → ∀ j ∈ l', j.At w1 := by
   intro l l' hs
   induction hs with
   | here l =>
    intro ha hp j hj
    rcases List.mem_cons.1 hj with rfl | hj
    ·exact hi
    ·exact (ha j (.tail _ hj)).keep hm.size fun k hk => hm.block k ((ha j (.tail _ hj)).lt k hk) fun e => (List.pairwise_cons.1 hp).1 j hj k e hk
   | there j0 hs ih =>
    intro ha hp j hj
    rcases List.mem_cons.1 hj with rfl | hj
    ·exact (ha j (.head _)).keep hm.size fun k hk => hm.block k ((ha j (.head _)).lt k hk) fun e => (List.pairwise_cons.1 hp).1 i hs.mem k hk e
    ·exact ih (fun j hj => ha j (.tail _ hj)) (List.pairwise_cons.1 hp).2 j hj
  exact key hs h.at_ h.apart
 ·rcases hs.out j hj with rfl | hj
  ·rcases hS k hk with h1 | h1
   ·exact h.new i hmi k h1
   ·exact .inl (Nat.le_trans h.size h1)
  ·exact h.new j hj k hk
 ·have key : ∀ {l l' : List Item}, Swap i i' l l' → (∀ j ∈ l, j.At w) → (l.Pairwise fun i j => ∀ k, i.S k → ¬ j.S k) → l'.Pairwise fun i j => ∀ k, i.S k → ¬ j.S k := by
   intro l l' hs
   induction hs with
   | here l =>
    intro ha hp
    refine .cons (fun j hj k hk hk' => ?_) (List.pairwise_cons.1 hp).2
    rcases hS k hk with h1 | h1
    ·exact (List.pairwise_cons.1 hp).1 j hj k h1 hk'
    ·have := (ha j (.tail _ hj)).lt k hk'; omega
   | there j0 hs ih =>
    intro ha hp
    refine .cons (fun j hj k hk hk' => ?_) (ih (fun j hj => ha j (.tail _ hj)) (List.pairwise_cons.1 hp).2)
    rcases hs.out j hj with rfl | hj
    ·rcases hS k hk' with h1 | h1
     ·exact (List.pairwise_cons.1 hp).1 i hs.mem k hk h1
     ·have := (ha j0 (.head _)).lt k hk; omega
    ·exact (List.pairwise_cons.1 hp).1 j hj k hk hk'
  exact key hs h.at_ h.apart
theorem put {g : Nat} {cs cs' : List Value} {t : TypeId} (h : Loc w0 M w l) (hs : Swap (var g cs t) (var g cs' t) l l') (hp : Put w w1 g) (hx : Box w1 g cs'.toArray t) : Loc w0 M w1 l' :=
 h.swap hs (Mod.of_put hp) (var_at hx) fun _ hk => .inl hk
theorem grow {α : Type} {E : Enc α} {base : Nat} {e : TypeId} {v v' : Value} {xs xs' : List α} (h : Loc w0 M w l) (hs : Swap (row E base e v xs) (row E base e v' xs') l l') (hg : w.grownBy w1 v.ownBlock) (ho : E.O w1 base e v' xs')
  (hv : v'.ownBlock = v.ownBlock ∨ ∃ b, v'.ownBlock = some b ∧ w.heap.size ≤ b) : Loc w0 M w1 l' :=
 h.swap hs ((Mod.of_grown hg).mono fun k _ e => e.symm) (row_at ho) fun k hk => by
  rcases hv with h1 | ⟨b, h1, h2⟩
  ·exact .inl (h1.symm.trans hk)
  ·have hk' : v'.ownBlock = some k := hk
   rw [h1] at hk'
   injection hk' with hk'
   exact .inr (by omega)
theorem drop (h : Loc w0 M w (i :: l)) : Loc w0 M w l := ⟨h.mod, fun j hj => h.at_ j (.tail _ hj), fun j hj => h.new j (.tail _ hj), (List.pairwise_cons.1 h.apart).2⟩
theorem sub (h : Loc w0 M w l) (hs : l'.Sublist l) : Loc w0 M w l' := ⟨h.mod, fun j hj => h.at_ j (hs.mem hj), fun j hj => h.new j (hs.mem hj), h.apart.sublist hs⟩
end Loc
inductive Seg : List Value → Nat → Nat → List Value → Prop where
 | nil (cs : List Value) : Seg cs 0 0 []
 | take {c : Value} {cs vs : List Value} {n : Nat} : Seg cs 0 n vs → Seg (c :: cs) 0 (n + 1) (c :: vs)
 | skip {c : Value} {cs vs : List Value} {j n : Nat} : Seg cs j n vs → Seg (c :: cs) (j + 1) n vs
theorem Seg.len {cs vs : List Value} {j n : Nat} (h : Seg cs j n vs) : vs.length = n := by
 induction h with
 | nil cs => rfl
 | take _ ih => simp [ih]
 | skip _ ih => exact ih
theorem Seg.get {cs vs : List Value} {j n : Nat} (h : Seg cs j n vs) : ∀ k v, vs[k]? = some v → cs[j + k]? = some v := by
 induction h with
 | nil cs => intro k v h; simp at h
 | take _ ih =>
  intro k v h
  cases k with
  | zero => simpa using h
  | succ k => simpa using ih k v (by simpa using h)
 | @skip c cs vs j n _ ih =>
  intro k v h
  have e : j + 1 + k = (j + k) + 1 := by omega
  rw [e]
  simpa using ih k v h
inductive SetAt : List Value → Nat → List Value → List Value → Prop where
 | nil (cs : List Value) : SetAt cs 0 [] cs
 | put {c v : Value} {cs vs cs' : List Value} : SetAt cs 0 vs cs' → SetAt (c :: cs) 0 (v :: vs) (v :: cs')
 | skip {c : Value} {cs vs cs' : List Value} {j : Nat} : SetAt cs j vs cs' → SetAt (c :: cs) (j + 1) vs (c :: cs')
theorem SetAt.eq {cs vs cs' : List Value} {j : Nat} (h : SetAt cs j vs cs') : cs.take j ++ vs ++ cs.drop (j + vs.length) = cs' ∧ j + vs.length ≤ cs.length := by
 induction h with
 | nil cs => simp
 | put _ ih =>
  obtain ⟨h1, h2⟩ := ih
  simp only [List.take_zero, List.nil_append, Nat.zero_add] at h1 h2 ⊢
  refine ⟨?_, by simp only [List.length_cons]; omega⟩
  rw [List.cons_append, List.length_cons, List.drop_succ_cons, h1]
 | @skip c cs vs cs' j _ ih =>
  obtain ⟨h1, h2⟩ := ih
  refine ⟨?_, by simp only [List.length_cons]; omega⟩
  have e : j + 1 + vs.length = (j + vs.length) + 1 := by omega
  rw [e, List.take_succ_cons, List.drop_succ_cons, List.cons_append, List.cons_append, h1]
class SizeT (P : Program) (ty : TypeId) (n : outParam Nat) : Prop where
 size : (P.info? ty).map (·.size) = some n
class AggT (P : Program) (ty : TypeId) : Prop where
 agg : isAggT P ty = true
class OneT (P : Program) (ty : TypeId) : Prop where
 one : isAggT P ty = false
 ty : (P.underlying ty).isSome = true
class ZeroT (P : Program) (ty : TypeId) (z : outParam Value) : Prop where
 zero : (P.info? ty).map (·.zero) = some (some z)
class SliceT (P : Program) (ty : TypeId) (e : outParam TypeId) : Prop where
 slice : P.underlying ty = some (.slice e)
structure CellsOf (v : Value) (cs : List Value) : Prop where
 eq : v.cells = cs.toArray
 one : ∀ u ∈ cs, u.oneCell' = true
theorem cells_agg (cs : List Value) (h : cs.all (·.oneCell') = true) : CellsOf (.agg cs.toArray) cs := ⟨rfl, fun u hu => List.all_eq_true.1 h u hu⟩
theorem cells_int (k : IntKind) (n : Int) : CellsOf (.int k n) [.int k n] := ⟨rfl, by simp [Value.oneCell']⟩
theorem cells_bool (b : Bool) : CellsOf (.bool b) [.bool b] := ⟨rfl, by simp [Value.oneCell']⟩
theorem cells_str (s : ByteArray) : CellsOf (.string s) [.string s] := ⟨rfl, by simp [Value.oneCell']⟩
theorem cells_slice (a : Option Addr) (n c : Nat) : CellsOf (.slice a n c) [.slice a n c] := ⟨rfl, by simp [Value.oneCell']⟩
theorem cells_ptr (a : Option Addr) : CellsOf (.pointer a) [.pointer a] := ⟨rfl, by simp [Value.oneCell']⟩
theorem cells_map (a : Option Nat) : CellsOf (.map a) [.map a] := ⟨rfl, by simp [Value.oneCell']⟩
theorem cells_func (f : Fn) (a c : Array Value) : CellsOf (.func f a c) [.func f a c] := ⟨rfl, by simp [Value.oneCell']⟩
theorem cells_nilFunc : CellsOf .nilFunc [.nilFunc] := ⟨rfl, by simp [Value.oneCell']⟩
theorem cells_one {v : Value} (h : v.oneCell' = true) (hc : v.cells = #[v]) : CellsOf v [v] := ⟨hc, by simp [h]⟩
theorem range_of_box {W : World} {g : Nat} {cs vs : List Value} {t : TypeId} {j n : Nat} (hx : Box W g cs.toArray t) (hs : Seg cs j n vs) : W.rangeAt g j vs := fun k v hv => by
 rw [hx.cell (j + k)]
 simpa using hs.get k v hv
theorem isRow_of {P : Program} {ty : TypeId} (h : isAggT P ty = true) : ∃ d, P.underlying ty = some d ∧ d.isRow = true := by
 cases hu : P.underlying ty with
 | none => simp [isAggT, hu] at h
 | some d => exact ⟨d, rfl, by unfold isAggT at h; rw [hu] at h; cases d <;> simp_all [TypeDesc.isRow]⟩
theorem run_loadVar_cell {P : Program} {ty : TypeId} (h : OneT P ty) (w : World) (a : Addr) (v : Value) (hc : w.cell? a = some v) : (loadVar ty a).run P w = .ok v w := by
 cases hu : P.underlying ty with
 | none => have := h.ty; simp [hu] at this
 | some d =>
  have ha : (isAgg ty).run P w = .ok false w := by
   have h1 := h.one
   unfold isAggT at h1
   rw [hu] at h1
   unfold isAgg
   rw [Sem.run_bind, run_underlying hu w]
   cases d <;> simp_all
  simp [loadVar, Sem.run_bind, ha, hc]
section
variable {P : Program} {ops : Array Oper} {rest : List Oper} {o : Oper} {a : Act} {Q : Exit → Act → World → Prop} {W w0 : World} {M : Nat → Prop} {l l' : List Item}
theorem wz {j d : Nat} {want b : Bool} {tmps : Array Value} (hg : o.guard = some (j, want)) (hd : (ops[j]?).bind (·.dst) = some d) (ht : tmps[d]? = some (.bool b)) (hb : b = want) : Region.wanted o (yielded ops tmps) = true := by
 subst hb
 simp [Region.wanted, hg, yielded, hd, ht]
theorem qD {t : TypeId} (_hg : o.guard = none) (_ho : o.op = .alloc t) (h : wpList P ops Q (o :: rest) a W) : wpList P ops Q (o :: rest) a W := h
theorem qE {t : TypeId} {x : Operand} (_hg : o.guard = none) (_ho : o.op = .box t x) (h : wpList P ops Q (o :: rest) a W) : wpList P ops Q (o :: rest) a W := h
theorem qB {t : TypeId} {x : Operand} (_hg : o.guard = none) (_ho : o.op = .load t x) (h : wpList P ops Q (o :: rest) a W) : wpList P ops Q (o :: rest) a W := h
theorem qC {t : TypeId} {x y : Operand} (_hg : o.guard = none) (_ho : o.op = .store t x y) (h : wpList P ops Q (o :: rest) a W) : wpList P ops Q (o :: rest) a W := h
theorem qA {t : TypeId} {x : Operand} {g : Nat × Bool} (_hg : o.guard = some g) (_ho : o.op = .load t x) (_h : Region.wanted o (yielded ops a.tmps) = true) (h : wpList P ops Q (o :: rest) a W) : wpList P ops Q (o :: rest) a W := h
theorem lI {t : TypeId} {z : Value} {cs : List Value} [hz : ZeroT P t z] (hgd : o.guard = none) (hL : Loc w0 M W l) (ho : o.op = .alloc t) (hc : CellsOf z cs)
  (h : ∀ g w1, Loc w0 M w1 (var g cs t :: l) → wpList P ops Q rest (a.put o.dst (.pointer (some ⟨g, 0, none⟩))) w1) : wpList P ops Q (o :: rest) a W := by
 refine event hgd (v := .pointer (some ⟨W.heap.size, 0, none⟩)) (w1 := W.alloc (.cells cs.toArray t)) ?_ (h _ _ (hL.callVar (bl_alloc (Below.refl _ _) _) (Box.new W _ t) (Nat.le_refl _)))
 obtain ⟨i, hi, hzz⟩ := Option.map_eq_some_iff.1 hz.zero
 simp [execOp, ho, Instr.alloc, zeroValue, typeInfo, hi, hzz, hc.eq, newVar, newRow]
theorem lJ {t : TypeId} {x : Operand} {v : Value} {cs : List Value} (hgd : o.guard = none) (hL : Loc w0 M W l) (ho : o.op = .box t x) (hx : a.eval x = v) (hc : CellsOf v cs)
  (h : ∀ g w1, Loc w0 M w1 (var g cs t :: l) → wpList P ops Q rest (a.put o.dst (.pointer (some ⟨g, 0, none⟩))) w1) : wpList P ops Q (o :: rest) a W := by
 refine event hgd (v := .pointer (some ⟨W.heap.size, 0, none⟩)) (w1 := W.alloc (.cells cs.toArray t)) ?_ (h _ _ (hL.callVar (bl_alloc (Below.refl _ _) _) (Box.new W _ t) (Nat.le_refl _)))
 simp [execOp, ho, Instr.box, hx, hc.eq, newVar, newRow]
theorem lF {ty : TypeId} {x : Operand} {n g j : Nat} {cs vs : List Value} {t : TypeId} [ha : AggT P ty] [hn : SizeT P ty n] (hgd : o.guard = none) (hL : Loc w0 M W l) (ho : o.op = .load ty x) (hx : a.eval x = .pointer (some ⟨g, j, none⟩))
  (hm : var g cs t ∈ l) (hs : Seg cs j n vs) (h : wpList P ops Q rest (a.put o.dst (.agg vs.toArray)) W) : wpList P ops Q (o :: rest) a W := by
 obtain ⟨d, hu, hd⟩ := isRow_of ha.agg
 refine event hgd (v := .agg vs.toArray) (w1 := W) ?_ h
 unfold execOp
 simp only [ho, hx, Instr.loadAt, Instr.sureAddr, Sem.run_bind, Sem.run_pure, Result.andThen_ok, run_loadVar_mid W g j ty vs d (range_of_box (hL.box hm) hs) hu hd (by rw [hs.len]; exact hn.size)]
theorem lA {ty : TypeId} {x : Operand} {n g : Nat} {cs : List Value} {t : TypeId} [ha : AggT P ty] [hn : SizeT P ty n] (hgd : o.guard = none) (hL : Loc w0 M W l) (ho : o.op = .load ty x) (hx : a.eval x = .pointer (some ⟨g, 0, none⟩))
  (hm : var g cs t ∈ l) (hs : cs.length = n) (h : wpList P ops Q rest (a.put o.dst (.agg cs.toArray)) W) : wpList P ops Q (o :: rest) a W := by
 obtain ⟨d, hu, hd⟩ := isRow_of ha.agg
 refine event hgd (v := .agg cs.toArray) (w1 := W) ?_ h
 have hr : W.rangeAt g 0 cs := fun k v hv => by rw [(hL.box hm).cell (0 + k)]; simpa using hv
 unfold execOp
 simp only [ho, hx, Instr.loadAt, Instr.sureAddr, Sem.run_bind, Sem.run_pure, Result.andThen_ok, run_loadVar_mid W g 0 ty cs d hr hu hd (by rw [hs]; exact hn.size)]
theorem lC {ty : TypeId} {x : Operand} {g j : Nat} {cs : List Value} {v : Value} {t : TypeId} [ha : OneT P ty] (hgd : o.guard = none) (hL : Loc w0 M W l) (ho : o.op = .load ty x) (hx : a.eval x = .pointer (some ⟨g, j, none⟩))
  (hm : var g cs t ∈ l) (hv : cs[j]? = some v) (h : wpList P ops Q rest (a.put o.dst v) W) : wpList P ops Q (o :: rest) a W := by
 have hc : W.cell? ⟨g, j, none⟩ = some v := by rw [(hL.box hm).cell j]; simpa using hv
 refine event hgd (v := v) (w1 := W) ?_ h
 unfold execOp
 simp only [ho, hx, Instr.loadAt, Instr.sureAddr, Sem.run_bind, Sem.run_pure, Result.andThen_ok, run_loadVar_cell ha W _ v hc]
theorem lE {ty : TypeId} {x : Operand} {n g j : Nat} {cs vs : List Value} {t : TypeId} [ha : AggT P ty] [hn : SizeT P ty n] (hw : Region.wanted o (yielded ops a.tmps) = true) (hL : Loc w0 M W l) (ho : o.op = .load ty x) (hx : a.eval x = .pointer (some ⟨g, j, none⟩))
  (hm : var g cs t ∈ l) (hs : Seg cs j n vs) (h : wpList P ops Q rest (a.put o.dst (.agg vs.toArray)) W) : wpList P ops Q (o :: rest) a W := by
 obtain ⟨d, hu, hd⟩ := isRow_of ha.agg
 refine eventG hw (v := .agg vs.toArray) (w1 := W) ?_ h
 unfold execOp
 simp only [ho, hx, Instr.loadAt, Instr.sureAddr, Sem.run_bind, Sem.run_pure, Result.andThen_ok, run_loadVar_mid W g j ty vs d (range_of_box (hL.box hm) hs) hu hd (by rw [hs.len]; exact hn.size)]
theorem lB {ty : TypeId} {x : Operand} {n g : Nat} {cs : List Value} {t : TypeId} [ha : AggT P ty] [hn : SizeT P ty n] (hw : Region.wanted o (yielded ops a.tmps) = true) (hL : Loc w0 M W l) (ho : o.op = .load ty x) (hx : a.eval x = .pointer (some ⟨g, 0, none⟩))
  (hm : var g cs t ∈ l) (hs : cs.length = n) (h : wpList P ops Q rest (a.put o.dst (.agg cs.toArray)) W) : wpList P ops Q (o :: rest) a W := by
 obtain ⟨d, hu, hd⟩ := isRow_of ha.agg
 refine eventG hw (v := .agg cs.toArray) (w1 := W) ?_ h
 have hr : W.rangeAt g 0 cs := fun k v hv => by rw [(hL.box hm).cell (0 + k)]; simpa using hv
 unfold execOp
 simp only [ho, hx, Instr.loadAt, Instr.sureAddr, Sem.run_bind, Sem.run_pure, Result.andThen_ok, run_loadVar_mid W g 0 ty cs d hr hu hd (by rw [hs]; exact hn.size)]
theorem lD {ty : TypeId} {x : Operand} {g j : Nat} {cs : List Value} {v : Value} {t : TypeId} [ha : OneT P ty] (hw : Region.wanted o (yielded ops a.tmps) = true) (hL : Loc w0 M W l) (ho : o.op = .load ty x) (hx : a.eval x = .pointer (some ⟨g, j, none⟩))
  (hm : var g cs t ∈ l) (hv : cs[j]? = some v) (h : wpList P ops Q rest (a.put o.dst v) W) : wpList P ops Q (o :: rest) a W := by
 have hc : W.cell? ⟨g, j, none⟩ = some v := by rw [(hL.box hm).cell j]; simpa using hv
 refine eventG hw (v := v) (w1 := W) ?_ h
 unfold execOp
 simp only [ho, hx, Instr.loadAt, Instr.sureAddr, Sem.run_bind, Sem.run_pure, Result.andThen_ok, run_loadVar_cell ha W _ v hc]
theorem ev_storeL {ty : TypeId} {p x : Operand} {n g j : Nat} {cs cs' vs : List Value} {v : Value} {t : TypeId} [hn : SizeT P ty n] (hgd : o.guard = none) (hL : Loc w0 M W l) (ho : o.op = .store ty p x) (hp : a.eval p = .pointer (some ⟨g, j, none⟩)) (hx : a.eval x = v)
  (hc : CellsOf v vs) (hl : vs.length = n) (hs : Swap (var g cs t) (var g cs' t) l l') (hcs : SetAt cs j vs cs')
  (h : ∀ w1, Loc w0 M w1 l' → wpList P ops Q rest (a.put o.dst undef) w1) : wpList P ops Q (o :: rest) a W := by
 obtain ⟨e1, e2⟩ := hcs.eq
 refine ev_set hgd ty p x ho hp (hL.box hs.mem) hx (cs' := cs'.toArray) (by rw [hc.eq]; simpa using hc.one) (by rw [hc.eq]; simpa [hl] using hn.size) (by rw [hc.eq]; simpa using e2) (by rw [hc.eq]; simpa using congrArg List.toArray e1) fun w1 hx1 hp1 => h w1 (hL.put hs hp1 hx1)
end
section
variable {P : Program} {o : Oper} {a : Act} {K : Act → Prop} {W w0 : World} {M : Nat → Prop} {l : List Item}
theorem qI {ty : TypeId} {x : Operand} {n g j : Nat} {cs vs : List Value} {t : TypeId} [ha : AggT P ty] [hn : SizeT P ty n] (hL : Loc w0 M W l) (ho : o.op = .load ty x) (hx : a.eval x = .pointer (some ⟨g, j, none⟩))
  (hm : var g cs t ∈ l) (hs : Seg cs j n vs) (h : K (a.put o.dst (.agg vs.toArray))) : o.quiet P a (fun w' => ∃ e : Ext W, w' = e.w) K := by
 refine ⟨.agg vs.toArray, ?_, h⟩
 rintro _ ⟨e, rfl⟩
 obtain ⟨d, hu, hd⟩ := isRow_of ha.agg
 have hb := (hL.call e.ok).box hm
 unfold Oper.quietAt execOp
 simp only [ho, hx, Instr.loadAt, Instr.sureAddr, Sem.run_bind, Sem.run_pure, Result.andThen_ok, run_loadVar_mid e.w g j ty vs d (range_of_box hb hs) hu hd (by rw [hs.len]; exact hn.size)]
 exact ⟨rfl, rfl⟩
theorem qG {ty : TypeId} {x : Operand} {n g : Nat} {cs : List Value} {t : TypeId} [ha : AggT P ty] [hn : SizeT P ty n] (hL : Loc w0 M W l) (ho : o.op = .load ty x) (hx : a.eval x = .pointer (some ⟨g, 0, none⟩))
  (hm : var g cs t ∈ l) (hs : cs.length = n) (h : K (a.put o.dst (.agg cs.toArray))) : o.quiet P a (fun w' => ∃ e : Ext W, w' = e.w) K := by
 refine ⟨.agg cs.toArray, ?_, h⟩
 rintro _ ⟨e, rfl⟩
 obtain ⟨d, hu, hd⟩ := isRow_of ha.agg
 have hr : e.w.rangeAt g 0 cs := fun k v hv => by rw [((hL.call e.ok).box hm).cell (0 + k)]; simpa using hv
 unfold Oper.quietAt execOp
 simp only [ho, hx, Instr.loadAt, Instr.sureAddr, Sem.run_bind, Sem.run_pure, Result.andThen_ok, run_loadVar_mid e.w g 0 ty cs d hr hu hd (by rw [hs]; exact hn.size)]
 exact ⟨rfl, rfl⟩
theorem qH {ty : TypeId} {x : Operand} {g j : Nat} {cs : List Value} {v : Value} {t : TypeId} [ha : OneT P ty] (hL : Loc w0 M W l) (ho : o.op = .load ty x) (hx : a.eval x = .pointer (some ⟨g, j, none⟩))
  (hm : var g cs t ∈ l) (hv : cs[j]? = some v) (h : K (a.put o.dst v)) : o.quiet P a (fun w' => ∃ e : Ext W, w' = e.w) K := by
 refine ⟨v, ?_, h⟩
 rintro _ ⟨e, rfl⟩
 have hc : e.w.cell? ⟨g, j, none⟩ = some v := by rw [((hL.call e.ok).box hm).cell j]; simpa using hv
 unfold Oper.quietAt execOp
 simp only [ho, hx, Instr.loadAt, Instr.sureAddr, Sem.run_bind, Sem.run_pure, Result.andThen_ok, run_loadVar_cell ha e.w _ v hc]
 exact ⟨rfl, rfl⟩
end
section
variable {P : Program} {fn : Func} {W w0 : World} {M : Nat → Prop} {l : List Item}
theorem res_cell {p : Tmp} {ty : TypeId} {n g : Nat} {cs : List Value} {t : TypeId} [ha : AggT P ty] [hn : SizeT P ty n] (h : fn.results = #[.cell p ty]) (hL : Loc w0 M W l) (tmps : Array Value) (hp : tmps.getD p undef = .pointer (some ⟨g, 0, none⟩)) (hm : var g cs t ∈ l) (hs : cs.length = n) :
  (results fn tmps).run P W = .ok (.agg cs.toArray) W := by
 obtain ⟨d, hu, hd⟩ := isRow_of ha.agg
 exact results_cell_row h tmps W g t cs.toArray (0, 0) d hp (hL.box hm) hu (by cases d <;> simp_all [TypeDesc.isRow]) (by rw [List.size_toArray, hs]; exact hn.size)
end
class HasV (g : Nat) (l : List Item) (cs : outParam (List Value)) (t : outParam TypeId) : Prop where
 mem : var g cs t ∈ l
instance (priority := high) (g : Nat) (cs : List Value) (t : TypeId) (l : List Item) : HasV g (var g cs t :: l) cs t := ⟨.head _⟩
instance (g : Nat) (cs : List Value) (t : TypeId) (j : Item) (l : List Item) [h : HasV g l cs t] : HasV g (j :: l) cs t := ⟨.tail _ h.mem⟩
class SegC (cs : List Value) (j n : Nat) (vs : outParam (List Value)) : Prop where
 seg : Seg cs j n vs
instance (priority := high) (cs : List Value) : SegC cs 0 0 [] := ⟨.nil _⟩
instance (c : Value) (cs vs : List Value) (n : Nat) [h : SegC cs 0 n vs] : SegC (c :: cs) 0 (n + 1) (c :: vs) := ⟨.take h.seg⟩
instance (c : Value) (cs vs : List Value) (j n : Nat) [h : SegC cs j n vs] : SegC (c :: cs) (j + 1) n vs := ⟨.skip h.seg⟩
class SetC (cs : List Value) (j : Nat) (vs : List Value) (cs' : outParam (List Value)) : Prop where
 set : SetAt cs j vs cs'
instance (priority := high) (cs : List Value) : SetC cs 0 [] cs := ⟨.nil _⟩
instance (c v : Value) (cs vs cs' : List Value) [h : SetC cs 0 vs cs'] : SetC (c :: cs) 0 (v :: vs) (v :: cs') := ⟨.put h.set⟩
instance (c : Value) (cs vs cs' : List Value) (j : Nat) [h : SetC cs j vs cs'] : SetC (c :: cs) (j + 1) vs (c :: cs') := ⟨.skip h.set⟩
class StoreC (g : Nat) (l : List Item) (j : Nat) (vs : List Value) (cs cs' : outParam (List Value)) (t : outParam TypeId) (l' : outParam (List Item)) : Prop where
 swp : Swap (var g cs t) (var g cs' t) l l'
 set : SetAt cs j vs cs'
instance (priority := high) (g : Nat) (cs cs' : List Value) (t : TypeId) (l : List Item) (j : Nat) (vs : List Value) [h : SetC cs j vs cs'] : StoreC g (var g cs t :: l) j vs cs cs' t (var g cs' t :: l) := ⟨.here _, h.set⟩
instance (g : Nat) (cs cs' : List Value) (t : TypeId) (i : Item) (l l' : List Item) (j : Nat) (vs : List Value) [h : StoreC g l j vs cs cs' t l'] : StoreC g (i :: l) j vs cs cs' t (i :: l') := ⟨.there _ h.swp, h.set⟩
class SwapV (g : Nat) (l : List Item) (cs' : List Value) (cs : outParam (List Value)) (t : outParam TypeId) (l' : outParam (List Item)) : Prop where
 swp : Swap (var g cs t) (var g cs' t) l l'
instance (priority := high) (g : Nat) (cs cs' : List Value) (t : TypeId) (l : List Item) : SwapV g (var g cs t :: l) cs' cs t (var g cs' t :: l) := ⟨.here _⟩
instance (g : Nat) (cs cs' : List Value) (t : TypeId) (i : Item) (l l' : List Item) [h : SwapV g l cs' cs t l'] : SwapV g (i :: l) cs' cs t (i :: l') := ⟨.there _ h.swp⟩
class OneC (v : Value) : Prop where
 one : v.oneCell' = true
instance (k : IntKind) (n : Int) : OneC (.int k n) := ⟨rfl⟩
instance (b : Bool) : OneC (.bool b) := ⟨rfl⟩
instance (s : ByteArray) : OneC (.string s) := ⟨rfl⟩
instance (a : Option Addr) (n c : Nat) : OneC (.slice a n c) := ⟨rfl⟩
instance (a : Option Addr) : OneC (.pointer a) := ⟨rfl⟩
instance (a : Option Nat) : OneC (.map a) := ⟨rfl⟩
instance (f : Fn) (a c : Array Value) : OneC (.func f a c) := ⟨rfl⟩
instance : OneC .nilFunc := ⟨rfl⟩
class OnesC (cs : List Value) : Prop where
 one : ∀ u ∈ cs, u.oneCell' = true
instance : OnesC [] := ⟨by simp⟩
instance (c : Value) (cs : List Value) [h : OneC c] [hs : OnesC cs] : OnesC (c :: cs) := ⟨fun u hu => (List.mem_cons.1 hu).elim (fun e => e ▸ h.one) (hs.one u)⟩
class CellsC (v : Value) (cs : outParam (List Value)) : Prop where
 of : CellsOf v cs
instance (cs : List Value) [h : OnesC cs] : CellsC (.agg cs.toArray) cs := ⟨⟨rfl, h.one⟩⟩
instance (k : IntKind) (n : Int) : CellsC (.int k n) [.int k n] := ⟨cells_int _ _⟩
instance (b : Bool) : CellsC (.bool b) [.bool b] := ⟨cells_bool _⟩
instance (s : ByteArray) : CellsC (.string s) [.string s] := ⟨cells_str _⟩
instance (a : Option Addr) (n c : Nat) : CellsC (.slice a n c) [.slice a n c] := ⟨cells_slice _ _ _⟩
instance (a : Option Addr) : CellsC (.pointer a) [.pointer a] := ⟨cells_ptr _⟩
instance (a : Option Nat) : CellsC (.map a) [.map a] := ⟨cells_map _⟩
instance (f : Fn) (a c : Array Value) : CellsC (.func f a c) [.func f a c] := ⟨cells_func _ _ _⟩
instance : CellsC .nilFunc [.nilFunc] := ⟨cells_nilFunc⟩
section
variable {P : Program} {ops : Array Oper} {rest : List Oper} {o : Oper} {a : Act} {Q : Exit → Act → World → Prop} {W w0 : World} {M : Nat → Prop} {l l' : List Item}
theorem lH {ty : TypeId} {p x : Operand} {n g j : Nat} {cs cs' vs : List Value} {v : Value} {t : TypeId} [hn : SizeT P ty n] (hgd : o.guard = none) (hL : Loc w0 M W l) (ho : o.op = .store ty p x) (hp : a.eval p = .pointer (some ⟨g, j, none⟩)) (hx : a.eval x = v)
  (hc : CellsOf v vs) [hs : StoreC g l j vs cs cs' t l'] (hl : vs.length = n)
  (h : ∀ w1, Loc w0 M w1 l' → wpList P ops Q rest (a.put o.dst undef) w1) : wpList P ops Q (o :: rest) a W :=
 ev_storeL hgd hL ho hp hx hc hl hs.swp hs.set h
theorem setAt_all {cs vs : List Value} (h : vs.length = cs.length) : SetAt cs 0 vs vs := by
 induction cs generalizing vs with
 | nil => obtain rfl := List.eq_nil_of_length_eq_zero (by simpa using h); exact .nil _
 | cons c cs ih =>
  match vs, h with
  | v :: vs, h => exact .put (ih (by simpa using h))
theorem lG {ty : TypeId} {p x : Operand} {n g : Nat} {cs vs : List Value} {v : Value} {t : TypeId} [hn : SizeT P ty n] (hgd : o.guard = none) (hL : Loc w0 M W l) (ho : o.op = .store ty p x) (hp : a.eval p = .pointer (some ⟨g, 0, none⟩)) (hx : a.eval x = v)
  (hc : CellsOf v vs) (hl : vs.length = n) [hs : SwapV g l vs cs t l'] (hall : vs.length = cs.length)
  (h : ∀ w1, Loc w0 M w1 l' → wpList P ops Q rest (a.put o.dst undef) w1) : wpList P ops Q (o :: rest) a W :=
 ev_storeL hgd hL ho hp hx hc hl hs.swp (setAt_all hall) h
end
universe u
theorem kD {p : Prop} (h : p) : Hid p := Lib.hid h
theorem vM {g : Nat} {l : List Item} {cs : List Value} {t : TypeId} [h : HasV g l cs t] : var g cs t ∈ l := h.mem
theorem zs {α : Type u} (l : List α) (i : Nat) (a : α) : l.toArray.setIfInBounds i a = (l.set i a).toArray := by simp only [List.setIfInBounds_toArray]
theorem zt {α : Type u} (l : List α) (n : Nat) (a b : α) : (a :: l).set (n + 1) b = a :: l.set n b := rfl
theorem zu {α : Type u} (l : List α) (a b : α) : (a :: l).set 0 b = b :: l := rfl
theorem cx {v : Value} {cs : List Value} (h : CellsOf v cs := by first | exact CellsC.of | exact cells_agg _ rfl | exact cells_one (by assumption) (by assumption)) : CellsOf v cs := h
theorem cy {v : Value} {cs : List Value} (h : CellsOf v cs := by first | exact cells_agg _ rfl | exact cells_int _ _ | exact cells_str _ | exact cells_bool _ | exact cells_slice _ _ _ | exact cells_ptr _ | exact cells_map _ | exact cells_func _ _ _ | exact cells_nilFunc | exact cells_one (by assumption) (by assumption)) : CellsOf v cs := h
theorem mx {α : Type u} {x : α} {l : List α} (h : x ∈ l := by first | exact .head _ | exact .tail _ (.head _) | exact .tail _ (.tail _ (.head _)) | exact .tail _ (.tail _ (.tail _ (.head _))) | exact .tail _ (.tail _ (.tail _ (.tail _ (.head _)))) | exact .tail _ (.tail _ (.tail _ (.tail _ (.tail _ (.head _))))) | exact .tail _ (.tail _ (.tail _ (.tail _ (.tail _ (.tail _ (.head _)))))) | exact .tail _ (.tail _ (.tail _ (.tail _ (.tail _ (.tail _ (.tail _ (.head _))))))) | exact .tail _ (.tail _ (.tail _ (.tail _ (.tail _ (.tail _ (.tail _ (.tail _ (.head _))))))))) : x ∈ l := h
theorem sx {i i' : Item} {l l' : List Item} (h : Swap i i' l l' := by first | exact .here _ | exact .there _ (.here _) | exact .there _ (.there _ (.here _)) | exact .there _ (.there _ (.there _ (.here _))) | exact .there _ (.there _ (.there _ (.there _ (.here _)))) | exact .there _ (.there _ (.there _ (.there _ (.there _ (.here _))))) | exact .there _ (.there _ (.there _ (.there _ (.there _ (.there _ (.here _)))))) | exact .there _ (.there _ (.there _ (.there _ (.there _ (.there _ (.there _ (.here _)))))))) : Swap i i' l l' := h
end Go.Proofs.YtebpacmhdkgfeaaGreat

namespace Go.Proofs.YtebpacmhdkgfeaaGreat
open Go.RowKit
class BytesT (P : Program) (ty : TypeId) (n : outParam Nat) : Prop where
 bytes : (P.info? ty).map (·.bytes) = some n
theorem info_of {P : Program} {e : TypeId} {z : Value} {sz by_ : Nat} [hz : ZeroT P e z] [hs : SizeT P e sz] [hb : BytesT P e by_] : (P.info? e).map (fun i => (i.zero, i.size, i.bytes)) = some (some z, sz, by_) := by
 obtain ⟨i, hi, h1⟩ := Option.map_eq_some_iff.1 hz.zero
 have h2 := hs.size
 have h3 := hb.bytes
 simp only [hi, Option.map_some, Option.some.injEq] at h2 h3 ⊢
 rw [h1, h2, h3]
theorem SetAt.all {cs vs : List Value} (h : vs.length = cs.length) : SetAt cs 0 vs vs := by
 induction vs generalizing cs with
 | nil => cases cs with
  | nil => exact .nil _
  | cons c cs => simp at h
 | cons v vs ih => cases cs with
  | nil => simp at h
  | cons c cs => exact .put (ih (by simpa using h))
theorem Seg.of {cs vs : List Value} {j n : Nat} (h : (cs.drop j).take n = vs) (hl : j + n ≤ cs.length) : Seg cs j n vs := by
 subst h
 induction j generalizing cs with
 | zero =>
  induction n generalizing cs with
  | zero => exact .nil _
  | succ n ih => cases cs with
   | nil => simp at hl
   | cons c cs => exact .take (ih (by simp at hl ⊢; omega))
 | succ j ih => cases cs with
  | nil => simp at hl
  | cons c cs => exact .skip (ih (by simp at hl; omega))
theorem range_below {w w1 : World} {g off : Nat} {cs : List Value} (h : w.rangeAt g off cs) (hb : Below w.heap.size w w1) : w1.rangeAt g off cs := fun j v hj => by
 have h1 := h j v hj
 exact (hb.cell (World.block_lt_of_cell? w _ h1)).trans h1
theorem R_elem {α : Type} {E : Enc α} {w : World} {v : Value} {xs : List α} (h : E.R w v xs) : ∃ ao c, v = .slice ao xs.length c ∧ ∀ i, (hi : i < xs.length) → ∃ g off, ao = some ⟨g, off, none⟩ ∧ w.rangeAt g (off + i * E.sz) (E.cells xs[i]) := by
 obtain ⟨ao, c, rfl, hc, hm, hi⟩ := h.open_
 refine ⟨ao, c, rfl, fun i hl => ?_⟩
 obtain ⟨⟨g, off, spot⟩, rfl, hcell⟩ := hi i hl
 obtain ⟨ad0, e0, h0⟩ := hi 0 (by omega)
 injection e0 with e0
 subst e0
 have h00 := h0 0 E.pos
 have hsp : spot = none := by
  have hl0 : 0 < (E.cells xs[0]).length := by rw [E.len]; exact E.pos
  have h1 : w.cell? ((⟨g, off, spot⟩ : Addr).add (0 * E.sz + 0)) = some ((E.cells xs[0])[0]) := by rw [h00, List.getElem?_eq_getElem hl0]
  simpa [Addr.add] using World.cell?_spot h1
 subst hsp
 refine ⟨g, off, rfl, fun j u hj => ?_⟩
 have hj' : j < E.sz := by have := (List.getElem?_eq_some_iff.1 hj).1; rwa [E.len] at this
 have h1 := hcell j hj'
 have e : (⟨g, off, none⟩ : Addr).add (i * E.sz + j) = ⟨g, off + i * E.sz + j, none⟩ := by
  unfold Addr.add; split <;> simp <;> omega
 rw [e] at h1
 exact h1.trans hj
theorem R_max {α : Type} {E : Enc α} {w : World} {v : Value} {xs : List α} (h : E.R w v xs) : xs.length ≤ 9223372036854775807 := by
 obtain ⟨_, _, _, _, _, hm, _⟩ := h
 exact hm
section
variable {P : Program} {ops : Array Oper} {rest : List Oper} {o : Oper} {a : Act} {Q : Exit → Act → World → Prop} {W w0 : World} {M : Nat → Prop} {l l' : List Item}
theorem qF {t : TypeId} {x y : Operand} (_hg : o.guard = none) (_ho : o.op = .indexAddr t x y) (h : wpList P ops Q (o :: rest) a W) : wpList P ops Q (o :: rest) a W := h
theorem gLit {t : TypeId} {n : Nat} {ps : Array (Nat × Operand)} (_hg : o.guard = none) (_ho : o.op = .buildSlice t n ps) (h : wpList P ops Q (o :: rest) a W) : wpList P ops Q (o :: rest) a W := h
theorem run_index {t : TypeId} {x ix : Operand} {g off n c i sz : Nat} {k : IntKind} {e : TypeId} [ht : SliceT P t e] [hsz : SizeT P e sz] (ho : o.op = .indexAddr t x ix) (hx : a.eval x = .slice (some ⟨g, off, none⟩) n c) (hix : a.eval ix = .int k i) (hi : i < n) (w : World) :
  (execOp a.eval o).run P w = .ok (.value (.pointer (some ⟨g, off + i * sz, none⟩))) w := by
 have he : P.elem t = e := by simp [Program.elem, ht.slice]
 obtain ⟨inf, hinf, hs⟩ := Option.map_eq_some_iff.1 hsz.size
 have h1 : (0 : Int) ≤ (i : Int) ∧ (i : Int) < (n : Int) := by omega
 have ha : (⟨g, off, none⟩ : Addr).add (i * sz) = ⟨g, off + i * sz, none⟩ := Addr.add_mid g off _
 simp only [execOp, ho, hx, hix, Sem.run_bind]
 rw [run_indexAt_slice (h := by rw [he]; exact ht.slice), if_pos h1, he]
 simp [sizeOf, typeInfo, hinf, hs, ha]
theorem lL {t : TypeId} {x ix : Operand} {g off n c i sz : Nat} {k : IntKind} {e : TypeId} [ht : SliceT P t e] [hsz : SizeT P e sz] (hgd : o.guard = none) (ho : o.op = .indexAddr t x ix) (hx : a.eval x = .slice (some ⟨g, off, none⟩) n c) (hix : a.eval ix = .int k i) (hi : i < n)
  (h : wpList P ops Q rest (a.put o.dst (.pointer (some ⟨g, off + i * sz, none⟩))) W) : wpList P ops Q (o :: rest) a W :=
 event hgd (run_index (sz := sz) ho hx hix hi W) h
theorem lK {ty : TypeId} {x : Operand} {n g off : Nat} {cs : List Value} [ha : AggT P ty] [hn : SizeT P ty n] (hgd : o.guard = none) (ho : o.op = .load ty x) (hx : a.eval x = .pointer (some ⟨g, off, none⟩))
  (hr : W.rangeAt g off cs) (hs : cs.length = n) (h : wpList P ops Q rest (a.put o.dst (.agg cs.toArray)) W) : wpList P ops Q (o :: rest) a W := by
 obtain ⟨d, hu, hd⟩ := isRow_of ha.agg
 refine event hgd (v := .agg cs.toArray) (w1 := W) ?_ h
 unfold execOp
 simp only [ho, hx, Instr.loadAt, Instr.sureAddr, Sem.run_bind, Sem.run_pure, Result.andThen_ok, run_loadVar_mid W g off ty cs d hr hu hd (by rw [hs]; exact hn.size)]
theorem ev_loadR1 {ty : TypeId} {x : Operand} {g off : Nat} {v : Value} [ha : OneT P ty] (hgd : o.guard = none) (ho : o.op = .load ty x) (hx : a.eval x = .pointer (some ⟨g, off, none⟩))
  (hr : W.rangeAt g off [v]) (h : wpList P ops Q rest (a.put o.dst v) W) : wpList P ops Q (o :: rest) a W := by
 have hc : W.cell? ⟨g, off, none⟩ = some v := by simpa using hr 0 v rfl
 refine event hgd (v := v) (w1 := W) ?_ h
 unfold execOp
 simp only [ho, hx, Instr.loadAt, Instr.sureAddr, Sem.run_bind, Sem.run_pure, Result.andThen_ok, run_loadVar_cell ha W _ v hc]
theorem lM {t : TypeId} {n : Nat} {parts : Array (Nat × Operand)} {e : TypeId} {sz : Nat} {z : Value} {cs : List Value} [ht : SliceT P t e] [hz : ZeroT P e z] [hs : SizeT P e sz] (hgd : o.guard = none) (hL : Loc w0 M W l) (ho : o.op = .buildSlice t n parts)
  (hn : decide (n * sz ≤ 16777216) = true) (h0 : decide (0 < n * sz) = true) (hfill : Instr.fill (fun i => some (i * sz, sz)) ((Array.range (n * sz)).map fun j => z.cells[j % z.cells.size]!) (parts.map fun (i, x) => (i, a.eval x)).toList = some cs.toArray)
  (h : ∀ g w1, Loc w0 M w1 (var g cs e :: l) → wpList P ops Q rest (a.put o.dst (.slice (some ⟨g, 0, none⟩) n n)) w1) : wpList P ops Q (o :: rest) a W := by
 refine event hgd (v := .slice (some ⟨W.heap.size, 0, none⟩) n n) (w1 := W.alloc (.cells cs.toArray e)) ?_ (h _ _ (hL.callVar (bl_alloc (Below.refl _ _) _) (Box.new W _ e) (Nat.le_refl _)))
 obtain ⟨i, hi, hzz⟩ := Option.map_eq_some_iff.1 hz.zero
 have hsz : i.size = sz := by have := hs.size; simpa [hi] using this
 have h1 : ¬ n * sz > 2 ^ 24 := by have := of_decide_eq_true hn; omega
 have h2 : ¬ n * sz = 0 := by have := of_decide_eq_true h0; omega
 simp at hfill
 simp [execOp, ho, Instr.buildSlice, run_underlying ht.slice, sizeOf, typeInfo, hi, hsz, zeroValue, hzz, h1, h2, hfill, newRow]
theorem ev_app1L {α : Type} {E : Enc α} {s x : Operand} {t e e2 : TypeId} {z : Value} {by_ : Nat} {base g c : Nat} {v : Value} {xs : List α} {cs : List Value} {f : Value → List Item} [ht : SliceT P t e] [hz : ZeroT P e z] [hsz : SizeT P e E.sz] [hb : BytesT P e by_]
  (y : α) (hgd : o.guard = none) (hL : Loc w0 M W l) (ho : o.op = .call { callee := .builtin .append, args := #[s, x], argTypes := #[t, t] }) (hs : a.eval s = v) (hx : a.eval x = .slice (some ⟨g, 0, none⟩) 1 c)
  (hm : var g cs e2 ∈ l) (hsw : ∀ v', Swap (row E base e v xs) (row E base e v' (xs ++ [y])) l (f v')) (hy : cs = E.cells y) (hzc : z.cells.size = E.sz) (hby : decide (by_ ≤ 1000) = true) (h63 : xs.length < 100000000000) (hbase : base ≤ W.heap.size)
  (h : ∀ ao c' w1, Loc w0 M w1 (f (.slice ao (xs.length + 1) c')) → wpList P ops Q rest (a.put o.dst (.slice ao (xs.length + 1) c')) w1) : wpList P ops Q (o :: rest) a W := by
 have hown : E.O W base e v xs := hL.own (hsw v).mem
 have hbx := hL.box hm
 subst hy
 have hR : E.R W (.slice (some ⟨g, 0, none⟩) 1 1) [y] := by
  refine ⟨by rw [Enc.all_length], some ⟨g, 0, none⟩, 1, rfl, Nat.le_refl _, by simp, .inr ⟨_, rfl, fun j u hj => ?_⟩⟩
  have ha : (⟨g, 0, none⟩ : Addr).add j = ⟨g, j, none⟩ := by unfold Addr.add; split <;> simp_all
  rw [ha, hbx.cell j]
  rw [Enc.all_one_elem] at hj
  simpa using hj
 have hsrc : Src P E.sz t (.slice (some ⟨g, 0, none⟩) 1 c) [y].length (E.all [y]) W := Src.ofSlice W ht.slice ⟨g, 0, none⟩ 1 c (E.all [y]) (by rw [Enc.all_length]; rfl) (fun j u hj => by
  have ha : (⟨g, 0, none⟩ : Addr).add j = ⟨g, j, none⟩ := by unfold Addr.add; split <;> simp_all
  rw [ha, hbx.cell j]
  rw [Enc.all_one_elem] at hj
  simpa using hj) (E.all_one [y])
 refine Enc.app (E := E) hgd s x t t ho z by_ ht.slice info_of hzc hs hown hx hsrc (by simp; omega) (of_decide_eq_true hby) hbase ?_
 intro v' w1 h1 h2 h3
 obtain ⟨ao, c', e1, -⟩ := R_elem h1.read
 rw [List.length_append, List.length_singleton] at e1
 subst e1
 exact h ao c' w1 (hL.grow (hsw _) h2 h1 (h3.imp id fun h => ⟨_, h, Nat.le_refl _⟩))
end
section
variable {P : Program} {o : Oper} {a : Act} {K : Act → Prop} {W : World} {C : World → Prop}
theorem quiet_index {t : TypeId} {x ix : Operand} {g off n c i sz : Nat} {k : IntKind} {e : TypeId} [ht : SliceT P t e] [hsz : SizeT P e sz] (ho : o.op = .indexAddr t x ix) (hx : a.eval x = .slice (some ⟨g, off, none⟩) n c) (hix : a.eval ix = .int k i) (hi : i < n)
  (h : K (a.put o.dst (.pointer (some ⟨g, off + i * sz, none⟩)))) : o.quiet P a C K := by
 refine ⟨_, fun w hw => ?_, h⟩
 unfold Oper.quietAt
 rw [run_index (sz := sz) ho hx hix hi w]
 exact ⟨rfl, rfl⟩
theorem quiet_loadR {ty : TypeId} {x : Operand} {n g off : Nat} {cs : List Value} [ha : AggT P ty] [hn : SizeT P ty n] (ho : o.op = .load ty x) (hx : a.eval x = .pointer (some ⟨g, off, none⟩))
  (hr : W.rangeAt g off cs) (hs : cs.length = n) (h : K (a.put o.dst (.agg cs.toArray))) : o.quiet P a (fun w' => ∃ e : Ext W, w' = e.w) K := by
 refine ⟨.agg cs.toArray, ?_, h⟩
 rintro _ ⟨e, rfl⟩
 obtain ⟨d, hu, hd⟩ := isRow_of ha.agg
 unfold Oper.quietAt execOp
 simp only [ho, hx, Instr.loadAt, Instr.sureAddr, Sem.run_bind, Sem.run_pure, Result.andThen_ok, run_loadVar_mid e.w g off ty cs d (range_below hr e.ok) hu hd (by rw [hs]; exact hn.size)]
 exact ⟨rfl, rfl⟩
end
end Go.Proofs.YtebpacmhdkgfeaaGreat

namespace Go.Proofs.YtebpacmhdkgfeaaGreat
open Go.RowKit
section
variable {P : Program} {ops : Array Oper} {rest : List Oper} {o : Oper} {a : Act} {Q : Exit → Act → World → Prop} {W : World}
theorem ev_loadB1 {ty : TypeId} {x : Operand} {g j : Nat} {cs : List Value} {v : Value} {t : TypeId} [ha : OneT P ty] (hgd : o.guard = none) (hB : Box W g cs.toArray t) (ho : o.op = .load ty x) (hx : a.eval x = .pointer (some ⟨g, j, none⟩))
  (hv : cs[j]? = some v) (h : wpList P ops Q rest (a.put o.dst v) W) : wpList P ops Q (o :: rest) a W := by
 have hc : W.cell? ⟨g, j, none⟩ = some v := by rw [hB.cell j]; simpa using hv
 refine event hgd (v := v) (w1 := W) ?_ h
 unfold execOp
 simp only [ho, hx, Instr.loadAt, Instr.sureAddr, Sem.run_bind, Sem.run_pure, Result.andThen_ok, run_loadVar_cell ha W _ v hc]
theorem ev_loadB1G {ty : TypeId} {x : Operand} {g j : Nat} {cs : List Value} {v : Value} {t : TypeId} [ha : OneT P ty] (hw : Region.wanted o (yielded ops a.tmps) = true) (hB : Box W g cs.toArray t) (ho : o.op = .load ty x) (hx : a.eval x = .pointer (some ⟨g, j, none⟩))
  (hv : cs[j]? = some v) (h : wpList P ops Q rest (a.put o.dst v) W) : wpList P ops Q (o :: rest) a W := by
 have hc : W.cell? ⟨g, j, none⟩ = some v := by rw [hB.cell j]; simpa using hv
 refine eventG hw (v := v) (w1 := W) ?_ h
 unfold execOp
 simp only [ho, hx, Instr.loadAt, Instr.sureAddr, Sem.run_bind, Sem.run_pure, Result.andThen_ok, run_loadVar_cell ha W _ v hc]
theorem ev_loadBA {ty : TypeId} {x : Operand} {n g j : Nat} {cs vs : List Value} {t : TypeId} [ha : AggT P ty] [hn : SizeT P ty n] (hgd : o.guard = none) (hB : Box W g cs.toArray t) (ho : o.op = .load ty x) (hx : a.eval x = .pointer (some ⟨g, j, none⟩))
  (hs : Seg cs j n vs) (h : wpList P ops Q rest (a.put o.dst (.agg vs.toArray)) W) : wpList P ops Q (o :: rest) a W :=
 lK hgd ho hx (range_of_box hB hs) hs.len h
end
theorem Loc.old {w0 w : World} {M : Nat → Prop} {l : List Item} {g : Nat} {cs : Array Value} {t : TypeId} (h : Loc w0 M w l) (hB : Box w0 g cs t) (hn : ¬ M g) : Box w g cs t := (h.mod.block g hB.lt hn).trans hB
theorem not_noM {g : Nat} : ¬ NoM g := fun h => h
end Go.Proofs.YtebpacmhdkgfeaaGreat

namespace Go.Proofs.YtebpacmhdkgfeaaGreat
open Go.RowKit
section
variable {P : Program} {ops : Array Oper} {rest : List Oper} {o : Oper} {a : Act} {Qs : Act → Prop} {Q : Exit → Act → World → Prop} {W w0 : World} {M : Nat → Prop} {l : List Item}
end
section
variable {P : Program} {md : Region.Mode} {ops : Array Oper} {Q : Exit → Act → World → Prop}
theorem region_any {id : Nat} {ol : List Oper} {Q : Exit → Act → World → Prop} {a : Act} {W w0 : World} {M : Nat → Prop} {l : List Item} (hm : P.follows .mixedOrders = true) (hL : Loc w0 M W l)
  (h : ∀ w1, Loc w0 M w1 l → Below W.heap.size W w1 → w1.heap.size = W.heap.size → wpAny P .any ol.toArray Q ol.toArray.size (Array.replicate ol.toArray.size false) a w1) : (Code.region id ol.toArray true).wp P Q a W :=
 wp_region_any hm (h { W with drawn := W.drawn + 1 } ⟨⟨hL.mod.os, hL.mod.tape, hL.mod.output, hL.mod.size, hL.mod.block⟩, fun i hi => (hL.at_ i hi).keep (w' := { W with drawn := W.drawn + 1 }) (Nat.le_refl _) fun _ _ => rfl, hL.new, hL.apart⟩ ⟨rfl, rfl, rfl, Nat.le_refl _, fun _ _ => rfl⟩ rfl)
theorem wpAny_drop {ol : List Oper} {f : Nat} {listed : Array Bool} {a : Act} {w : World} (k : Nat) (hf : (ol.drop k).length = f) (hB : Region.seqB md ol.toArray f k listed = true) (h : wpList P ol.toArray Q (ol.drop k) a w) : wpAny P md ol.toArray Q f listed a w := by
 subst hf
 exact wpAny_of_seq _ k listed a w (fun j => by simp [List.getElem?_drop]) hB h
theorem wpOp_run {i : Nat} {o : Oper} {a : Act} {w w' : World} {v : Value} {K : Act → World → Prop} (hi : ops[i]? = some o) (hg : o.guard = none) (hr : (execOp a.eval o).run P w = .ok (.value v) w') (h : K (a.put o.dst v) w') : wpOp P ops Q i K a w := by
 have hw : Region.wanted o (yielded ops a.tmps) = true := by simp [Region.wanted, hg]
 unfold wpOp
 simp only [hi, hw, if_true]
 refine .inl ?_
 unfold Oper.wp
 rw [hr]
 exact h
end
section
variable {P : Program} {o : Oper} {a : Act} {W w0 : World} {M : Nat → Prop} {l : List Item}
theorem eval_put_ne {p : Tmp} {d : Option Tmp} {v : Value} (h : d ≠ some p) : (a.put d v).eval (.tmp p) = a.eval (.tmp p) := by
 cases d with
 | none => rfl
 | some d =>
  have hne : d ≠ p := fun e => h (by rw [e])
  simp [Act.put, Act.eval, Array.getElem?_setIfInBounds, hne]
inductive Nth : List Oper → Nat → Oper → Prop where
 | zero (o : Oper) (l : List Oper) : Nth (o :: l) 0 o
 | succ {x o : Oper} {l : List Oper} {i : Nat} : Nth l i o → Nth (x :: l) (i + 1) o
theorem Nth.get {l : List Oper} {i : Nat} {o : Oper} (h : Nth l i o) : l.toArray[i]? = some o := by
 have : l[i]? = some o := by
  induction h with
  | zero o l => rfl
  | succ _ ih => simpa using ih
 simpa using this
theorem wpAny_takeN {md : Region.Mode} {ol : List Oper} {Q : Exit → Act → World → Prop} {i : Nat} {oi : Oper} {v : Value} {fuel : Nat} {listed : Array Bool} (hi : Nth ol i oi)
  (hs : Region.noSelect ol.toArray = true) (hf : Region.free md ol.toArray listed i = true) (hr : (Region.ready md ol.toArray listed).contains i = true)
  (hQ : ∀ c a w, Q (.panic c) (a.put oi.dst v) w → Q (.panic c) a w) (hy : Yields P ol.toArray oi v a)
  (h : wpAny P md ol.toArray Q fuel (listed.setIfInBounds i true) (a.put oi.dst v) W) : wpAny P md ol.toArray Q (fuel + 1) listed a W := wpAny_take hi.get hs hf hr hQ hy h
end
theorem nx {l : List Oper} {i : Nat} {o : Oper} (h : Nth l i o := by repeat (first | exact .zero _ _ | with_reducible apply Nth.succ)) : Nth l i o := h
section
variable {P : Program} {Q : Exit → Act → World → Prop} {a : Act} {W : World}
theorem tQ {md : Region.Mode} {ol : List Oper} {i : Nat} {oi : Oper} {v : Value} {fuel : Nat} {listed : Array Bool} (hi : Nth ol i oi := by repeat (first | exact .zero _ _ | with_reducible apply Nth.succ))
  (hs : Region.noSelect ol.toArray = true := by kernel_rfl) (hf : Region.free md ol.toArray listed i = true := by kernel_rfl) (hr : (Region.ready md ol.toArray listed).contains i = true := by kernel_rfl)
  (hQ : ∀ c a w, Q (.panic c) (a.put oi.dst v) w → Q (.panic c) a w := by exact fun _ _ _ h => h) (y : Yields P ol.toArray oi v a)
  (z : wpAny P md ol.toArray Q fuel (listed.setIfInBounds i true) (a.put oi.dst v) W) : wpAny P md ol.toArray Q (fuel + 1) listed a W := wpAny_takeN hi hs hf hr hQ y z
end
end Go.Proofs.YtebpacmhdkgfeaaGreat

namespace Go.Proofs.YtebpacmhdkgfeaaGreat
open Go.RowKit
theorem Loc.rowOff {α : Type} {w0 w : World} {M : Nat → Prop} {l : List Item} (h : Loc w0 M w l) (E : Enc α) (base : Nat) (e : TypeId) : Loc w0 M w (row E base e (.slice none 0 0) [] :: l) :=
 h.callNew (Below.refl _ _) (row_at (Enc.O.none _ _ _)) fun k hk => by cases hk
section
variable {P : Program} {ops : Array Oper} {rest : List Oper} {o : Oper} {a : Act} {Q : Exit → Act → World → Prop} {W w0 : World} {M : Nat → Prop} {l : List Item}
theorem ev_lit0 {α : Type} (E : Enc α) {t e : TypeId} {z : Value} (base : Nat) [ht : SliceT P t e] [hz : ZeroT P e z] [hs : SizeT P e E.sz] (hgd : o.guard = none) (hL : Loc w0 M W l) (ho : o.op = .buildSlice t 0 #[]) (hbase : base ≤ w0.heap.size)
  (h : ∀ g w1, Loc w0 M w1 (row E base e (.slice (some ⟨g, 0, none⟩) 0 0) [] :: l) → wpList P ops Q rest (a.put o.dst (.slice (some ⟨g, 0, none⟩) 0 0)) w1) : wpList P ops Q (o :: rest) a W := by
 have hb : base ≤ W.heap.size := Nat.le_trans hbase hL.size
 refine event hgd (v := .slice (some ⟨W.heap.size, 0, none⟩) 0 0) (w1 := W.alloc (.cells #[] e)) ?_ (h _ _ (hL.callNew (bl_alloc (Below.refl _ _) _) (row_at (Enc.O.lit (E := E) (w := W) (base := base) (e := e) #[] [] rfl hb (by simp [maxLen]))) fun k hk => by
  have hk' : (Value.slice (some ⟨W.heap.size, 0, none⟩) 0 0).ownBlock = some k := hk
  simp [Value.ownBlock] at hk'
  omega))
 obtain ⟨i, hi, hzz⟩ := Option.map_eq_some_iff.1 hz.zero
 have hsz : i.size = E.sz := by have := hs.size; simpa [hi] using this
 simp [execOp, ho, Instr.buildSlice, run_underlying ht.slice, sizeOf, typeInfo, hi, hsz, zeroValue, hzz, Instr.fill, newRow]
 congr 2
 exact Array.eq_empty_of_size_eq_zero (by simp)
theorem ev_appL {α : Type} {E : Enc α} {s x : Operand} {t e : TypeId} {z : Value} {by_ : Nat} {base : Nat} {v xv : Value} {xs : List α} {f : Value → List Item} [ht : SliceT P t e] [hz : ZeroT P e z] [hsz : SizeT P e E.sz] [hb : BytesT P e by_]
  (ys : List α) (hgd : o.guard = none) (hL : Loc w0 M W l) (ho : o.op = .call { callee := .builtin .append, args := #[s, x], argTypes := #[t, t] }) (hs : a.eval s = v) (hx : a.eval x = xv)
  (hR : E.R W xv ys) (hsw : ∀ v', Swap (row E base e v xs) (row E base e v' (xs ++ ys)) l (f v')) (hzc : z.cells.size = E.sz) (hby : decide (by_ ≤ 1000) = true) (h63 : xs.length + ys.length ≤ 100000000000) (hbase : base ≤ W.heap.size)
  (h : ∀ v' w1, Loc w0 M w1 (f v') → wpList P ops Q rest (a.put o.dst v') w1) : wpList P ops Q (o :: rest) a W := by
 have hown : E.O W base e v xs := hL.own (hsw v).mem
 refine Enc.app (E := E) hgd s x t t ho z by_ ht.slice info_of hzc hs hown hx (hR.src ht.slice) h63 (of_decide_eq_true hby) hbase ?_
 intro v' w1 h1 h2 h3
 exact h v' w1 (hL.grow (hsw _) h2 h1 (h3.imp id fun h => ⟨_, h, Nat.le_refl _⟩))
end
end Go.Proofs.YtebpacmhdkgfeaaGreat

namespace Go.Proofs.YtebpacmhdkgfeaaGreat
open Go.RowKit
theorem Enc.all_set {α : Type} (E : Enc α) (xs : List α) (i : Nat) (hi : i < xs.length) (y : α) : E.all (xs.set i y) = (E.all xs).take (i * E.sz) ++ E.cells y ++ (E.all xs).drop (i * E.sz + E.sz) := by
 induction xs generalizing i with
 | nil => simp at hi
 | cons x xs ih =>
  have h : E.all (x :: xs) = E.cells x ++ E.all xs := by simp [Enc.all]
  cases i with
  | zero =>
   have h2 : E.all ((x :: xs).set 0 y) = E.cells y ++ E.all xs := by simp [Enc.all]
   rw [h2, h]
   simp [List.drop_append, E.len]
  | succ i =>
   have h2 : E.all ((x :: xs).set (i + 1) y) = E.cells x ++ E.all (xs.set i y) := by simp [Enc.all]
   have e1 : (i + 1) * E.sz = E.sz + i * E.sz := by rw [Nat.add_mul]; omega
   rw [h2, h, ih i (by simpa using hi), e1, List.take_append, List.drop_append]
   rw [List.take_of_length_le (l := E.cells x) (by rw [E.len]; omega), E.len, List.drop_of_length_le (l := E.cells x) (by rw [E.len]; omega)]
   simp only [List.append_assoc, List.nil_append]
   rw [Nat.add_sub_cancel_left, show E.sz + i * E.sz + E.sz - E.sz = i * E.sz + E.sz from by omega]
section
variable {P : Program} {ops : Array Oper} {rest : List Oper} {o : Oper} {a : Act} {Q : Exit → Act → World → Prop} {W w0 : World} {M : Nat → Prop} {l l' : List Item}
theorem O_set {α : Type} {E : Enc α} {w : World} {base g n c : Nat} {e : TypeId} {xs : List α} (h : E.O w base e (.slice (some ⟨g, 0, none⟩) n c) xs) (i : Nat) (hi : i < xs.length) (y : α) :
  ∃ w1, (storeCells ⟨g, i * E.sz, none⟩ (E.cells y) 0).run P w = .ok () w1 ∧ E.O w1 base e (.slice (some ⟨g, 0, none⟩) n c) (xs.set i y) ∧ Mod (· = g) w w1 := by
 obtain ⟨hl, h2⟩ := h
 rcases h2 with ⟨hn, _⟩ | ⟨g', cap, cur, hv, hb, hg, hnc, hcm, hcs, htake⟩
 ·cases hn
 ·injection hv with hv1 hv2 hv3
  injection hv1 with hv1
  injection hv1 with hv1
  subst hv1 hv2 hv3
  have hsz : i * E.sz + E.sz ≤ xs.length * E.sz := by
   have : (i + 1) * E.sz ≤ xs.length * E.sz := Nat.mul_le_mul_right _ hi
   rw [Nat.add_mul] at this; omega
  have hcap : xs.length * E.sz ≤ c * E.sz := Nat.mul_le_mul_right _ hnc
  have hst := run_storeCells_at P g (i * E.sz) e (E.cells y) 0 cur w hg (by rw [E.len, hcs]; omega) (E.one y)
  simp only [Nat.add_zero, E.len] at hst
  refine ⟨_, hst, ⟨E.all_length _, .inr ⟨g, c, _, by rw [List.length_set], hb, setRow_heap w g cur _ e _ hg, by rw [List.length_set]; exact hnc, hcm, ?_, ?_⟩⟩, ⟨rfl, rfl, rfl, by simp, fun k _ hk => setRow_other w g k _ hk⟩⟩
  ·simp only [List.size_toArray, List.length_append, List.length_take, List.length_drop, Array.length_toList, E.len, hcs]
   omega
  ·rw [List.length_set, E.all_set xs i hi y, ← htake, List.take_take, Nat.min_eq_left (by omega)]
   have hlen : cur.toList.length = c * E.sz := by rw [Array.length_toList, hcs]
   rw [List.append_assoc, List.append_assoc, List.take_append, List.take_append, List.length_take, hlen, Nat.min_eq_left (a := i * E.sz) (b := c * E.sz) (by omega), E.len,
    List.take_of_length_le (l := cur.toList.take (i * E.sz)) (by rw [List.length_take]; omega), List.take_of_length_le (l := E.cells y) (by rw [E.len]; omega), List.drop_take]
   rw [show xs.length * E.sz - i * E.sz - E.sz = xs.length * E.sz - (i * E.sz + E.sz) from by omega]
theorem ev_setRow {α : Type} {E : Enc α} {ty e : TypeId} {p x : Operand} {g base n c off : Nat} {xs : List α} {v : Value} [hn : SizeT P ty E.sz] (i : Nat) (y : α) (hgd : o.guard = none) (hL : Loc w0 M W l) (ho : o.op = .store ty p x)
  (hp : a.eval p = .pointer (some ⟨g, off, none⟩)) (hoff : off = i * E.sz) (hx : a.eval x = v) (hc : CellsOf v (E.cells y)) (hi : i < xs.length)
  (hs : Swap (row E base e (.slice (some ⟨g, 0, none⟩) n c) xs) (row E base e (.slice (some ⟨g, 0, none⟩) n c) (xs.set i y)) l l')
  (h : ∀ w1, Loc w0 M w1 l' → wpList P ops Q rest (a.put o.dst undef) w1) : wpList P ops Q (o :: rest) a W := by
 subst hoff
 obtain ⟨w1, hst, hO, hm⟩ := O_set (P := P) (hL.own hs.mem) i hi y
 refine wpList_plain hgd fun K hK => ?_
 obtain ⟨inf, hii, hsz⟩ := Option.map_eq_some_iff.1 hn.size
 have hst2 : (storeVar ty ⟨g, i * E.sz, none⟩ v).run P W = .ok () w1 := by
  simp [storeVar, sizeOf, typeInfo, hii, hsz, hc.eq, E.len, hst]
 unfold Oper.wp execOp
 simp only [ho, hp, hx, Instr.storeAt, Instr.sureAddr, Sem.run_bind, Sem.run_pure, Result.andThen_ok, hst2]
 refine hK _ _ (h _ (hL.swap hs (hm.mono fun k _ hk => ?_) (row_at hO) fun _ hk => .inl hk))
 show (Value.slice (some ⟨g, 0, none⟩) n c).ownBlock = some k
 rw [hk]; rfl
end
theorem Loc.gone {w0 w w1 : World} {M : Nat → Prop} {l : List Item} {g : Nat} {cs : List Value} {t : TypeId} (h : Loc w0 M w (var g cs t :: l)) (hp : Put w w1 g) : Loc w0 M w1 l := by
 have hg := h.new (var g cs t) (.head _) g rfl
 have ha := (List.pairwise_cons.1 h.apart).1
 refine ⟨h.mod.trans (Mod.of_put hp) fun b hb hk => ?_, fun i hi => (h.at_ i (.tail _ hi)).keep hp.size fun k hk => hp.block k ((h.at_ i (.tail _ hi)).lt k hk) fun e => ha i hi g rfl (e ▸ hk), fun i hi => h.new i (.tail _ hi), (List.pairwise_cons.1 h.apart).2⟩
 cases hk
 rcases hg with h1 | h1
 ·omega
 ·exact h1
theorem Loc.turn {w0 w w1 : World} {M : Nat → Prop} {l : List Item} {g : Nat} {cs cs' : List Value} {t : TypeId} (h : Loc w0 M w (var g cs t :: l)) (hp : Put w w1 g) (hx : Box w1 g cs'.toArray t) : Loc w0 M w1 (var g cs' t :: l) := h.put (.here _) hp hx
end Go.Proofs.YtebpacmhdkgfeaaGreat

namespace Go.Proofs.YtebpacmhdkgfeaaGreat
instance : SizeT Tryz.prog 3 1 := ⟨by kernel_rfl⟩
instance : OneT Tryz.prog 3 := ⟨by kernel_rfl, by kernel_rfl⟩
instance : BytesT Tryz.prog 3 8 := ⟨by kernel_rfl⟩
instance : ZeroT Tryz.prog 3 (.int .i64 0) := ⟨by kernel_rfl⟩
instance : SizeT Tryz.prog 4 1 := ⟨by kernel_rfl⟩
instance : OneT Tryz.prog 4 := ⟨by kernel_rfl, by kernel_rfl⟩
instance : BytesT Tryz.prog 4 1 := ⟨by kernel_rfl⟩
instance : ZeroT Tryz.prog 4 (.bool false) := ⟨by kernel_rfl⟩
instance : SizeT Tryz.prog 9 1 := ⟨by kernel_rfl⟩
instance : OneT Tryz.prog 9 := ⟨by kernel_rfl, by kernel_rfl⟩
instance : SizeT Tryz.prog 23 8 := ⟨by kernel_rfl⟩
instance : AggT Tryz.prog 23 := ⟨by kernel_rfl⟩
instance : ZeroT Tryz.prog 23 (.agg #[.int .i64 0, .int .i64 0, .int .i64 0, .int .i64 0, .int .i64 0, .int .i64 0, .int .i64 0, .int .i64 0]) := ⟨by kernel_rfl⟩
instance : SizeT Tryz.prog 24 1 := ⟨by kernel_rfl⟩
instance : OneT Tryz.prog 24 := ⟨by kernel_rfl, by kernel_rfl⟩
instance : ZeroT Tryz.prog 24 (.slice none 0 0) := ⟨by kernel_rfl⟩
instance : SliceT Tryz.prog 24 58 := ⟨by kernel_rfl⟩
instance : SizeT Tryz.prog 25 1 := ⟨by kernel_rfl⟩
instance : OneT Tryz.prog 25 := ⟨by kernel_rfl, by kernel_rfl⟩
instance : ZeroT Tryz.prog 25 (.slice none 0 0) := ⟨by kernel_rfl⟩
instance : SliceT Tryz.prog 25 46 := ⟨by kernel_rfl⟩
instance : SizeT Tryz.prog 27 10 := ⟨by kernel_rfl⟩
instance : AggT Tryz.prog 27 := ⟨by kernel_rfl⟩
instance : ZeroT Tryz.prog 27 (.agg #[.int .i64 0, .int .i64 0, .int .i64 0, .int .i64 0, .int .i64 0, .int .i64 0, .int .i64 0, .int .i64 0, .slice none 0 0, .slice none 0 0]) := ⟨by kernel_rfl⟩
instance : SliceT Tryz.prog 41 27 := ⟨by kernel_rfl⟩
instance : SizeT Tryz.prog 44 2 := ⟨by kernel_rfl⟩
instance : AggT Tryz.prog 44 := ⟨by kernel_rfl⟩
instance : ZeroT Tryz.prog 44 (.agg #[.int .i64 0, .int .i64 0]) := ⟨by kernel_rfl⟩
instance : SizeT Tryz.prog 46 25 := ⟨by kernel_rfl⟩
instance : AggT Tryz.prog 46 := ⟨by kernel_rfl⟩
instance : BytesT Tryz.prog 46 208 := ⟨by kernel_rfl⟩
instance : ZeroT Tryz.prog 46 (.agg #[.int .i64 0, .int .i64 0, .int .i64 0, .int .i64 0, .int .i64 0, .int .i64 0, .int .i64 0, .int .i64 0, .string ⟨#[]⟩, .int .i64 0, .int .i64 0, .int .i64 0, .int .i64 0, .int .i64 0, .int .i64 0, .int .i64 0, .int .i64 0, .int .i64 0, .int .i64 0, .int .i64 0, .int .i64 0, .int .i64 0, .int .i64 0, .int .i64 0, .int .i64 0]) := ⟨by kernel_rfl⟩
instance : OneT Tryz.prog 50 := ⟨by kernel_rfl, by kernel_rfl⟩
instance : SizeT Tryz.prog 52 4 := ⟨by kernel_rfl⟩
instance : AggT Tryz.prog 52 := ⟨by kernel_rfl⟩
instance : ZeroT Tryz.prog 52 (.agg #[.int .i64 0, .int .i64 0, .int .i64 0, .int .u64 0]) := ⟨by kernel_rfl⟩
instance : SizeT Tryz.prog 54 3 := ⟨by kernel_rfl⟩
instance : AggT Tryz.prog 54 := ⟨by kernel_rfl⟩
instance : ZeroT Tryz.prog 54 (.agg #[.int .i64 0, .int .i64 0, .int .i64 0]) := ⟨by kernel_rfl⟩
instance : SizeT Tryz.prog 55 1 := ⟨by kernel_rfl⟩
instance : OneT Tryz.prog 55 := ⟨by kernel_rfl, by kernel_rfl⟩
instance : ZeroT Tryz.prog 55 (.slice none 0 0) := ⟨by kernel_rfl⟩
instance : SliceT Tryz.prog 55 61 := ⟨by kernel_rfl⟩
instance : SizeT Tryz.prog 56 1 := ⟨by kernel_rfl⟩
instance : OneT Tryz.prog 56 := ⟨by kernel_rfl, by kernel_rfl⟩
instance : ZeroT Tryz.prog 56 (.slice none 0 0) := ⟨by kernel_rfl⟩
instance : SliceT Tryz.prog 56 64 := ⟨by kernel_rfl⟩
instance : SizeT Tryz.prog 58 13 := ⟨by kernel_rfl⟩
instance : AggT Tryz.prog 58 := ⟨by kernel_rfl⟩
instance : BytesT Tryz.prog 58 144 := ⟨by kernel_rfl⟩
instance : ZeroT Tryz.prog 58 (.agg #[.int .i64 0, .int .i64 0, .int .i64 0, .string ⟨#[]⟩, .int .i64 0, .int .i64 0, .int .i64 0, .int .u64 0, .int .i64 0, .int .i64 0, .int .i64 0, .slice none 0 0, .slice none 0 0]) := ⟨by kernel_rfl⟩
instance : SizeT Tryz.prog 61 4 := ⟨by kernel_rfl⟩
instance : AggT Tryz.prog 61 := ⟨by kernel_rfl⟩
instance : BytesT Tryz.prog 61 40 := ⟨by kernel_rfl⟩
instance : ZeroT Tryz.prog 61 (.agg #[.int .i64 0, .int .i64 0, .int .i64 0, .string ⟨#[]⟩]) := ⟨by kernel_rfl⟩
instance : SizeT Tryz.prog 64 5 := ⟨by kernel_rfl⟩
instance : AggT Tryz.prog 64 := ⟨by kernel_rfl⟩
instance : BytesT Tryz.prog 64 56 := ⟨by kernel_rfl⟩
instance : ZeroT Tryz.prog 64 (.agg #[.string ⟨#[]⟩, .int .i64 0, .int .i64 0, .string ⟨#[]⟩, .bool false]) := ⟨by kernel_rfl⟩
instance : OneT Tryz.prog 78 := ⟨by kernel_rfl, by kernel_rfl⟩
instance : OneT Tryz.prog 82 := ⟨by kernel_rfl, by kernel_rfl⟩
instance : SizeT Tryz.prog 89 1 := ⟨by kernel_rfl⟩
instance : ZeroT Tryz.prog 89 (.map none) := ⟨by kernel_rfl⟩
instance : OneT Tryz.prog 102 := ⟨by kernel_rfl, by kernel_rfl⟩
instance : SliceT Tryz.prog 174 4 := ⟨by kernel_rfl⟩
instance : ZeroT Tryz.prog 177 (.slice none 0 0) := ⟨by kernel_rfl⟩
instance : SliceT Tryz.prog 177 3 := ⟨by kernel_rfl⟩
instance : SliceT Tryz.prog 178 24 := ⟨by kernel_rfl⟩
instance : SliceT Tryz.prog 183 55 := ⟨by kernel_rfl⟩
instance : SliceT Tryz.prog 185 56 := ⟨by kernel_rfl⟩
instance : SliceT Tryz.prog 187 25 := ⟨by kernel_rfl⟩
end Go.Proofs.YtebpacmhdkgfeaaGreat

namespace Go.Proofs.YtebpacmhdkgfeaaGreat
open Go.RowKit
section
variable {P : Program} {ops : Array Oper} {rest : List Oper} {o : Oper} {a : Act} {Q : Exit → Act → World → Prop} {Qs : Act → Prop} {K : Act → Prop} {C : World → Prop} {W w0 : World} {M : Nat → Prop} {l l' : List Item}
variable {α : Type} {E : Enc α} {T te : TypeId}
theorem run_indexRow {x ix : Operand} {g n c i : Nat} {k : IntKind} [ht : SliceT P te T] [hsz : SizeT P T E.sz] (ho : o.op = .indexAddr te x ix) (hx : a.eval x = .slice (some ⟨g, 0, none⟩) n c) (hix : a.eval ix = .int k i) (hi : i < n) (w : World) :
  (execOp a.eval o).run P w = .ok (.value (.pointer (some ⟨g, i * E.sz, none⟩))) w := by
 have := run_index (P := P) (e := T) (sz := E.sz) ho hx hix hi w
 rwa [Nat.zero_add] at this
theorem qK (E : Enc α) {x ix : Operand} {g n c i : Nat} {k : IntKind} [ht : SliceT P te T] [hsz : SizeT P T E.sz] (ho : o.op = .indexAddr te x ix) (hx : a.eval x = .slice (some ⟨g, 0, none⟩) n c) (hix : a.eval ix = .int k i) (hi : i < n)
  (h : K (a.put o.dst (.pointer (some ⟨g, i * E.sz, none⟩)))) : o.quiet P a C K := by
 refine ⟨_, fun w hw => ?_, h⟩
 unfold Oper.quietAt
 rw [run_indexRow (E := E) ho hx hix hi w]
 exact ⟨rfl, rfl⟩
theorem row_range {w : World} {base g n c i : Nat} {te : TypeId} {xs : List α} {y : α} (h : E.O w base te (.slice (some ⟨g, 0, none⟩) n c) xs) (hy : xs[i]? = some y) : w.rangeAt g (i * E.sz) (E.cells y) := by
 obtain ⟨hi, rfl⟩ := List.getElem?_eq_some_iff.1 hy
 obtain ⟨ao, c', e1, hel⟩ := R_elem h.read
 obtain ⟨g', off, e2, hr⟩ := hel i hi
 injection e1 with e1 _ _
 rw [e2] at e1
 injection e1 with e1
 injection e1 with e3 e4
 subst e3 e4
 rwa [Nat.zero_add] at hr
theorem run_loadRow {x : Operand} {base g n c i : Nat} {te' : TypeId} {xs : List α} {y : α} [ha : AggT P T] [hn : SizeT P T E.sz] (hO : E.O W base te' (.slice (some ⟨g, 0, none⟩) n c) xs) (ho : o.op = .load T x) (hx : a.eval x = .pointer (some ⟨g, i * E.sz, none⟩)) (hy : xs[i]? = some y) :
  (execOp a.eval o).run P W = .ok (.value (.agg (E.cells y).toArray)) W := by
 obtain ⟨d, hu, hd⟩ := isRow_of ha.agg
 unfold execOp
 simp only [ho, hx, Instr.loadAt, Instr.sureAddr, Sem.run_bind, Sem.run_pure, Result.andThen_ok, run_loadVar_mid W g (i * E.sz) T (E.cells y) d (row_range hO hy) hu hd (by rw [E.len]; exact hn.size)]
theorem qJ {x : Operand} {base g n c i : Nat} {te' : TypeId} {xs : List α} {y : α} [ha : AggT P T] [hn : SizeT P T E.sz] (hL : Loc w0 M W l) (hm : row E base te' (.slice (some ⟨g, 0, none⟩) n c) xs ∈ l) (ho : o.op = .load T x) (hx : a.eval x = .pointer (some ⟨g, i * E.sz, none⟩)) (hy : xs[i]? = some y)
  (h : K (a.put o.dst (.agg (E.cells y).toArray))) : o.quiet P a (fun w' => ∃ e : Ext W, w' = e.w) K := by
 refine ⟨.agg (E.cells y).toArray, ?_, h⟩
 rintro _ ⟨e, rfl⟩
 unfold Oper.quietAt
 rw [run_loadRow (E := E) ((hL.call e.ok).own hm) ho hx hy]
 exact ⟨rfl, rfl⟩
theorem run_setRow {p x : Operand} {base g n c i : Nat} {te' : TypeId} {xs : List α} {y : α} [hn : SizeT P T E.sz] (hL : Loc w0 M W l) (hs : Swap (row E base te' (.slice (some ⟨g, 0, none⟩) n c) xs) (row E base te' (.slice (some ⟨g, 0, none⟩) n c) (xs.set i y)) l l')
  (ho : o.op = .store T p x) (hp : a.eval p = .pointer (some ⟨g, i * E.sz, none⟩)) (hx : a.eval x = .agg (E.cells y).toArray) (hi : i < xs.length) :
  ∃ w1, (execOp a.eval o).run P W = .ok .skip w1 ∧ Loc w0 M w1 l' := by
 obtain ⟨w1, hst, hO, hm⟩ := O_set (P := P) (hL.own hs.mem) i hi y
 obtain ⟨inf, hii, hsz⟩ := Option.map_eq_some_iff.1 hn.size
 have hst2 : (storeVar T ⟨g, i * E.sz, none⟩ (.agg (E.cells y).toArray)).run P W = .ok () w1 := by
  simp [storeVar, sizeOf, typeInfo, hii, hsz, Value.cells, E.len, hst]
 refine ⟨w1, ?_, hL.swap hs (hm.mono fun k _ hk => ?_) (row_at hO) fun _ hk => .inl hk⟩
 ·unfold execOp
  simp only [ho, hp, hx, Instr.storeAt, Instr.sureAddr, Sem.run_bind, Sem.run_pure, Result.andThen_ok, hst2]
 ·show (Value.slice (some ⟨g, 0, none⟩) n c).ownBlock = some k
  rw [hk]; rfl
theorem wpOp_skip {i : Nat} {w w' : World} {K : Act → World → Prop} (hi : ops[i]? = some o) (hg : o.guard = none) (hr : (execOp a.eval o).run P w = .ok .skip w') (h : K (a.put o.dst undef) w') : wpOp P ops Q i K a w := by
 have hw : Region.wanted o (yielded ops a.tmps) = true := by simp [Region.wanted, hg]
 unfold wpOp
 simp only [hi, hw, if_true]
 refine .inl ?_
 unfold Oper.wp
 rw [hr]
 exact h
end
section
variable {P : Program} {ops : Array Oper} {o : Oper} {a : Act}
theorem run_addN (t : TypeId) (m n : Nat) (h : m + n ≤ 9223372036854775807) (w : World) : (binOp .add t (.int .i64 m) (.int .i64 n)).run P w = .ok (.int .i64 ((m + n : Nat) : Int)) w := by
 have h1 : ((m : Int) + (n : Int)) ≤ 9223372036854775807 := by omega
 simp [go_sem]
 rw [IntKind.wrap_i64]; omega
theorem run_subN (t : TypeId) (m n : Nat) (h : n ≤ m) (hm : m ≤ 9223372036854775807) (w : World) : (binOp .sub t (.int .i64 m) (.int .i64 n)).run P w = .ok (.int .i64 ((m - n : Nat) : Int)) w := by
 simp [go_sem]
 rw [IntKind.wrap_i64]; omega
theorem y_move {x : Operand} (v : Value) (hg : o.guard = none) (ho : o.op = .move x) (hx : a.eval x = v) : Yields P ops o v a := by
 refine .inl ⟨by simp [Region.wanted, hg], fun w => ?_⟩
 simp [execOp, ho, hx]
theorem y_add {t r : TypeId} {x y : Operand} (m n : Nat) (hg : o.guard = none) (ho : o.op = .binOp .add t x y r) (hx : a.eval x = .int .i64 m) (hy : a.eval y = .int .i64 n) (h : m + n ≤ 9223372036854775807) : Yields P ops o (.int .i64 ((m + n : Nat) : Int)) a := by
 refine .inl ⟨by simp [Region.wanted, hg], fun w => ?_⟩
 simp [execOp, ho, hx, hy, eqGuard, Sem.run_bind, run_addN t m n h w]
theorem y_sub {t r : TypeId} {x y : Operand} (m n : Nat) (hg : o.guard = none) (ho : o.op = .binOp .sub t x y r) (hx : a.eval x = .int .i64 m) (hy : a.eval y = .int .i64 n) (h : n ≤ m) (hm : m ≤ 9223372036854775807) : Yields P ops o (.int .i64 ((m - n : Nat) : Int)) a := by
 refine .inl ⟨by simp [Region.wanted, hg], fun w => ?_⟩
 simp [execOp, ho, hx, hy, eqGuard, Sem.run_bind, run_subN t m n h hm w]
theorem y_index {α : Type} (E : Enc α) {T te : TypeId} {x ix : Operand} {g n c : Nat} {k : IntKind} (i : Nat) [ht : SliceT P te T] [hsz : SizeT P T E.sz] (hg : o.guard = none) (ho : o.op = .indexAddr te x ix) (hx : a.eval x = .slice (some ⟨g, 0, none⟩) n c) (hix : a.eval ix = .int k i) (hi : i < n) :
  Yields P ops o (.pointer (some ⟨g, i * E.sz, none⟩)) a := .inl ⟨by simp [Region.wanted, hg], fun w => run_indexRow ho hx hix hi w⟩
end
theorem wpAny_loads {P : Program} {md : Region.Mode} {ol : List Oper} {Q : Exit → Act → World → Prop} {a : Act} {W w0 : World} {M : Nat → Prop} {l : List Item} {α : Type} {E : Enc α} {T : TypeId} {base g n c ix jx : Nat} {te : TypeId} {xs : List α} {x y : α} [ha : AggT P T] [hn : SizeT P T E.sz]
  {f i j : Nat} {oi oj : Oper} {listed : Array Bool} {pi pj di dj : Tmp} (hi : Nth ol i oi) (hj : Nth ol j oj) (gi : oi.guard = none) (gj : oj.guard = none)
  (r1 : Region.ready md ol.toArray listed = [i, j]) (r2 : Region.ready md ol.toArray (listed.setIfInBounds i true) = [j]) (r3 : Region.ready md ol.toArray (listed.setIfInBounds j true) = [i])
  (nij : i ≠ j) (oi1 : oi.op = .load T (.tmp pi)) (oj1 : oj.op = .load T (.tmp pj)) (di1 : oi.dst = some di) (dj1 : oj.dst = some dj)
  (nd : (decide (di ≠ dj ∧ di ≠ pj ∧ dj ≠ pi)) = true)
  (hL : Loc w0 M W l) (hmem : row E base te (.slice (some ⟨g, 0, none⟩) n c) xs ∈ l) (xi : a.eval (.tmp pi) = .pointer (some ⟨g, jx * E.sz, none⟩)) (xj : a.eval (.tmp pj) = .pointer (some ⟨g, ix * E.sz, none⟩)) (hyj : xs[jx]? = some y) (hxi : xs[ix]? = some x)
  (H : wpAny P md ol.toArray Q f ((listed.setIfInBounds i true).setIfInBounds j true) ((a.put (some di) (.agg (E.cells y).toArray)).put (some dj) (.agg (E.cells x).toArray)) W) :
  wpAny P md ol.toArray Q (f + 2) listed a W := by
 simp only [decide_eq_true_eq] at nd
 obtain ⟨n1, n3, n6⟩ := nd
 have ne : ∀ {p q : Tmp}, p ≠ q → (some p : Option Tmp) ≠ some q := fun h e => h (Option.some.inj e)
 have c1 : (a.put (some dj) (.agg (E.cells x).toArray)).put (some di) (.agg (E.cells y).toArray) = (a.put (some di) (.agg (E.cells y).toArray)).put (some dj) (.agg (E.cells x).toArray) :=
  Act.put_comm a _ _ (fun d h1 h2 => n1 (Option.some.inj (h2.trans h1.symm)))
 have l1' : (listed.setIfInBounds j true).setIfInBounds i true = (listed.setIfInBounds i true).setIfInBounds j true := Array.setIfInBounds_comm _ _ nij.symm
 refine wpAny_all r1 (by simp) fun z hz => ?_
 rcases List.mem_cons.1 hz with rfl | hz
 ·refine wpOp_run hi.get gi (run_loadRow (hL.own hmem) oi1 xi hyj) (wpAny_all r2 (by simp) fun z hz => ?_)
  obtain rfl := List.mem_singleton.1 hz
  rw [di1]
  refine wpOp_run hj.get gj (run_loadRow (hL.own hmem) oj1 (by rw [eval_put_ne (ne n3)]; exact xj) hxi) ?_
  rw [dj1]
  exact H
 ·obtain rfl := List.mem_singleton.1 hz
  refine wpOp_run hj.get gj (run_loadRow (hL.own hmem) oj1 xj hxi) (wpAny_all r3 (by simp) fun z hz => ?_)
  obtain rfl := List.mem_singleton.1 hz
  rw [dj1]
  refine wpOp_run hi.get gi (run_loadRow (hL.own hmem) oi1 (by rw [eval_put_ne (ne n6)]; exact xi) hyj) ?_
  rw [di1, c1, l1']
  exact H
theorem Loc.overRow {α : Type} {E : Enc α} {w0 w w1 : World} {base g n c : Nat} {te : TypeId} {xs ys : List α} (h : Loc w0 (· = g) w [row E base te (.slice (some ⟨g, 0, none⟩) n c) xs]) (h2 : Loc w (· = g) w1 [row E base te (.slice (some ⟨g, 0, none⟩) n c) ys]) :
  Loc w0 (· = g) w1 [row E base te (.slice (some ⟨g, 0, none⟩) n c) ys] :=
 ⟨h.mod.trans h2.mod fun _ _ e => e, h2.at_, fun i hi k hk => by
  rcases h2.new i hi k hk with h3 | h3
  ·exact .inl (Nat.le_trans h.size h3)
  ·exact .inr h3, h2.apart⟩
end Go.Proofs.YtebpacmhdkgfeaaGreat

namespace Go.Proofs.YtebpacmhdkgfeaaGreat
open Go.RowKit
section
variable {P : Program} {ops : Array Oper} {md : Region.Mode} {C : World → Prop}
def headQ (P : Program) (md : Region.Mode) (ops : Array Oper) (C : World → Prop) (n : Nat) (L : Array Bool → Act → Prop) : Nat → Array Bool → Act → Prop
 | 0, done, a => L done a
 | f + 1, done, a => Region.ready md ops done ≠ [] ∧ ∀ i ∈ Region.ready md ops done, i < n ∧ qOp P ops C i (headQ P md ops C n L f (done.setIfInBounds i true)) a
theorem wpAny_headQ {n g : Nat} {L : Array Bool → Act → Prop} {Q : Exit → Act → World → Prop} (hL : ∀ done a w, C w → L done a → wpAny P md ops Q g done a w) (f : Nat) :
  ∀ (done : Array Bool) (a : Act) (w : World), C w → headQ P md ops C n L f done a → wpAny P md ops Q (f + g) done a w := by
 induction f with
 | zero => intro done a w hw h; rw [Nat.zero_add]; exact hL _ _ _ hw h
 | succ f ih =>
  intro done a w hw h
  rw [Nat.succ_add]
  exact ⟨fun h0 => absurd h0 h.1, fun i hi => wpOp_of_qOp hw (fun a' w' hw' h' => ih _ a' w' hw' h') (h.2 i hi).2⟩
def sinkF (md : Region.Mode) (ops : Array Oper) (k n : Nat) : Bool := (List.range n).all fun i => decide (i < k) || (List.range (n + 1)).any fun j => decide (i < j) && Region.waitsFor md ops j i
theorem waitsF {k n : Nat} {done : Array Bool} (hs : sinkF md ops k n = true) (hc : Region.chainB md ops n = true) (hn : n < ops.size) (inv : HeadInv md ops n done) (d : Nat) :
  ∀ i, n - i = d → k ≤ i → i < n → done.getD i true = false → ∀ t, n ≤ t → t ∉ Region.ready md ops done := by
 induction d using Nat.strongRecOn with
 | _ d ih =>
  intro i hd hki hi hun t ht hr
  obtain ⟨_, ot, hot, hall⟩ := mem_ready.1 hr
  have htlt : t < ops.size := (Array.getElem?_eq_some_iff.1 hot).1
  by_cases htn : t = n
  ·subst htn
   have h1 := List.all_eq_true.1 hs i (List.mem_range.2 hi)
   simp only [Bool.or_eq_true, decide_eq_true_eq] at h1
   obtain ⟨j, hj, hj2⟩ := List.any_eq_true.1 (h1.resolve_left (by omega))
   simp only [Bool.and_eq_true, decide_eq_true_eq] at hj2
   obtain ⟨oj, hoj, e, he, hb, hon⟩ := Region.waitsFor_spec hj2.2
   have hjle : j ≤ t := by have := List.mem_range.1 hj; omega
   by_cases hjt : j = t
   ·subst hjt
    obtain rfl : oj = ot := Option.some.inj (hoj.symm.trans hot)
    have h2 := hall e he hb
    rw [hon, getD_both hun] at h2
    cases h2
   ·cases hl : done.getD j false with
    | true =>
     have h2 := inv.closed j oj hoj hl e he hb
     rw [hon, getD_both hun] at h2
     cases h2
    | false => exact ih (t - j) (by omega) j rfl (by omega) (by omega) (getD_in (by rw [inv.size]; omega) hl) t (Nat.le_refl _) hr
  ·have h1 := List.all_eq_true.1 hc t (List.mem_range.2 htlt)
   simp only [Bool.or_eq_true, decide_eq_true_eq] at h1
   obtain ⟨o', ho', e, he, hb, hon⟩ := Region.waitsFor_spec (h1.resolve_left (by omega))
   obtain rfl : o' = ot := Option.some.inj (ho'.symm.trans hot)
   have h2 := hall e he hb
   rw [hon, getD_both (inv.tail (t - 1) (by omega) (by omega))] at h2
   cases h2
theorem headQ_take {k n i : Nat} {oi : Oper} {v : Value} {L : Array Bool → Act → Prop} (hi : ops[i]? = some oi) (hsel : ∀ (j : Nat) (o : Oper) cs b, ops[j]? = some o → o.op ≠ .select cs b)
  (hs : sinkF md ops k n = true) (hc : Region.chainB md ops n = true) (hn : n < ops.size) (hki : k ≤ i) (hin : i < n) (hend : ∀ done a, L done a → ∀ j ∈ Region.ready md ops done, n ≤ j) (f : Nat) :
  ∀ (done : Array Bool) (a : Act), HeadInv md ops n done →
   (∀ j oj, ops[j]? = some oj → j ≠ i → done.getD j true = false → (∀ e ∈ oj.after, Region.binds md e = true → e.on ≠ i) → oi.apart ops oj = true) →
   i ∈ Region.ready md ops done → YieldsIn P ops C oi v a → headQ P md ops C n L f (done.setIfInBounds i true) (a.put oi.dst v) → headQ P md ops C n L (f + 1) done a := by
 have inHead : ∀ done, HeadInv md ops n done → i ∈ Region.ready md ops done → ∀ j ∈ Region.ready md ops done, j < n := fun done inv hr j hj => by
  rcases Nat.lt_or_ge j n with h | h
  ·exact h
  ·exact absurd hj (waitsF hs hc hn inv _ i rfl hki hin (mem_ready.1 hr).1 j h)
 induction f with
 | zero =>
  intro done a inv _ hr hy H
  refine ⟨fun h => (by rw [h] at hr; cases hr), fun j hj => ⟨inHead done inv hr j hj, ?_⟩⟩
  by_cases hji : j = i
  ·subst hji; exact hy.qOp hi H
  ·exact absurd (hend _ _ H j (ready_mono hj hji)) (by have := inHead done inv hr j hj; omega)
 | succ f ih =>
  intro done a inv hfree hr hy H
  refine ⟨fun h => (by rw [h] at hr; cases hr), fun j hj => ⟨inHead done inv hr j hj, ?_⟩⟩
  by_cases hji : j = i
  ·subst hji; exact hy.qOp hi H
  ·obtain ⟨hjun, oj, hoj, hall⟩ := mem_ready.1 hj
   have hnot : ∀ e ∈ oj.after, Region.binds md e = true → e.on ≠ i := fun e he hb heq => by
    have h1 := hall e he hb
    rw [heq, getD_both (mem_ready.1 hr).1] at h1
    cases h1
   have h2 := qOp_put hoj (hfree j oj hoj hji hjun hnot) (fun cs b => hsel i oi cs b hi) (fun cs b => hsel j oj cs b hoj) hy (H.2 j (ready_mono hj hji)).2
   refine qOp_mono (fun a' h3 => ih (done.setIfInBounds j true) a' (inv.set hj (inHead done inv hr j hj)) (fun q oq hq hqi hun hno => hfree q oq hq hqi ?_ hno) (ready_mono hr (Ne.symm hji)) h3.1 ?_) h2
   ·by_cases hjk : j = q
    ·subst hjk; exact hjun
    ·rw [getD_set_ne true hjk] at hun; exact hun
   ·rw [Array.setIfInBounds_comm _ _ hji]
    exact h3.2
theorem headQ_lex {n g k0 : Nat} {L : Act → Prop} (hsel : Region.noSelect ops = true) (hs : sinkF md ops k0 n = true) (hc : Region.chainB md ops n = true) (hn : n < ops.size) (l : List Oper) :
  ∀ (k : Nat) (done : Array Bool) (a : Act), k0 ≤ k → (∀ j, j < l.length → l[j]? = ops[k + j]?) → k + l.length = n → HeadInv md ops n done → Region.lexHead md ops g l.length k done = true → wpQuiet P ops C L l a →
  headQ P md ops C n (fun done' a' => Region.seqB md ops g n done' = true ∧ L a') l.length done a := by
 induction l with
 | nil =>
  intro k done a _ _ hk _ hB h
  obtain rfl : k = n := by simpa using hk
  exact ⟨by simpa [Region.lexHead] using hB, h⟩
 | cons o l ih =>
  intro k done a hk0 hl hk inv hB h
  have h0 : ops[k]? = some o := by simpa using (hl 0 (by simp)).symm
  simp only [List.length_cons, Region.lexHead, Bool.and_eq_true] at hB
  simp only [List.length_cons] at hk
  obtain ⟨⟨hr, hf⟩, hB'⟩ := hB
  have hr' : k ∈ Region.ready md ops done := by simpa using hr
  have hst : qOp P ops C k (wpQuiet P ops C L l) a := by unfold qOp; simp only [h0]; exact h
  obtain ⟨v, hy, hK⟩ := yieldsIn_of_qOp h0 hst
  exact headQ_take h0 (Region.noSelect_spec hsel) hs hc hn hk0 (by omega) (fun done' a' hL => seqB_ready hL.1) l.length done a inv (Region.free_spec h0 hf) hr' hy
   (ih (k + 1) _ _ (by omega) (fun j hj => by have := hl (j + 1) (by simp; omega); simpa [Nat.add_assoc, Nat.add_comm 1 j] using this) (by omega) (inv.set hr' (by omega)) hB' hK)
def closedB (md : Region.Mode) (ops : Array Oper) (n : Nat) (done : Array Bool) : Bool :=
 decide (done.size = ops.size) && ((List.range ops.size).all fun j => !(done.getD j false) || (match ops[j]? with | some oj => oj.after.all fun e => !(Region.binds md e) || done.getD e.on false | none => true)) && (List.range ops.size).all fun t => decide (t < n) || !(done.getD t true)
theorem closedB_spec {n : Nat} {done : Array Bool} (h : closedB md ops n done = true) : HeadInv md ops n done := by
 simp only [closedB, Bool.and_eq_true, decide_eq_true_eq] at h
 obtain ⟨⟨h1, h2⟩, h3⟩ := h
 refine ⟨h1, fun j oj hj hl e he hb => ?_, fun t ht ht2 => ?_⟩
 ·have h4 := List.all_eq_true.1 h2 j (List.mem_range.2 (Array.getElem?_eq_some_iff.1 hj).1)
  rw [hl, hj] at h4
  simp only [Bool.not_true, Bool.false_or] at h4
  have h5 := Array.all_eq_true'.1 h4 e he
  rw [hb] at h5
  simpa using h5
 ·have h4 := List.all_eq_true.1 h3 t (List.mem_range.2 ht2)
  simp only [Bool.or_eq_true, decide_eq_true_eq, Bool.not_eq_true'] at h4
  exact h4.resolve_left (by omega)
def tailB (ops : Array Oper) (k n : Nat) (done : Array Bool) : Bool :=
 Region.noSelect ops && decide (n < ops.size) && decide (k ≤ n) && sinkF .any ops k n && Region.chainB .any ops n && closedB .any ops n done && Region.lexHead .any ops (ops.size - n) (n - k) k done
theorem any_qtail {Q : Exit → Act → World → Prop} {a : Act} {w : World} {l : List Oper} {done : Array Bool} {f : Nat} (k n : Nat) (hf : l.toArray.size - k = f) (hB : tailB l.toArray k n done = true)
  (h : wpQuiet P l.toArray (fun w' => ∃ e : Ext w, w' = e.w) (fun a' => ∀ w', (∃ e : Ext w, w' = e.w) → wpList P l.toArray Q (l.drop n) a' w') ((l.take n).drop k) a) : wpAny P .any l.toArray Q f done a w := by
 simp only [tailB, Bool.and_eq_true, decide_eq_true_eq] at hB
 obtain ⟨⟨⟨⟨⟨⟨hsel, hn⟩, hkn⟩, hs⟩, hc⟩, hcl⟩, hlex⟩ := hB
 have hn' : n < l.length := by simpa using hn
 have htl : ((l.take n).drop k).length = n - k := by simp; omega
 have hdl : (l.drop n).length = l.toArray.size - n := by simp
 have H := headQ_lex (md := .any) (g := l.toArray.size - n) hsel hs hc hn ((l.take n).drop k) k _ a (Nat.le_refl _) (fun j hj => by
  rw [htl] at hj
  rw [List.getElem?_drop, List.getElem?_take_of_lt (by omega)]
  simp) (by rw [htl]; omega) (closedB_spec hcl) (by rw [htl]; exact hlex) h
 have := wpAny_headQ (Q := Q) (g := l.toArray.size - n) (fun done a' w' hw' hL => by
  have := wpAny_of_seq (md := .any) (Q' := Q) (l.drop n) n done a' w' (fun j => by simp [List.getElem?_drop]) (by rw [hdl]; exact hL.1) (hL.2 w' hw')
  rwa [hdl] at this) _ _ _ w ⟨⟨w, Below.refl _ _⟩, rfl⟩ H
 rw [htl, show n - k + (l.toArray.size - n) = l.toArray.size - k by omega, hf] at this
 exact this
theorem region_qtail {id : Nat} {Q : Exit → Act → World → Prop} {a : Act} {w w0 : World} {M : Nat → Prop} {its : List Item} {l : List Oper} (n : Nat) (hm : P.follows .mixedOrders = true) (hL : Loc w0 M w its) (hB : tailB l.toArray 0 n (Array.replicate l.toArray.size false) = true)
  (h : ∀ w1, Loc w0 M w1 its → wpQuiet P l.toArray (fun w' => ∃ e : Ext w1, w' = e.w) (fun a' => ∀ w', (∃ e : Ext w1, w' = e.w) → wpList P l.toArray Q (l.drop n) a' w') (l.take n) a) : (Code.region id l.toArray true).wp P Q a w :=
 region_any hm hL fun w1 hL1 _ _ => any_qtail 0 n rfl hB (by simpa using h w1 hL1)
end
end Go.Proofs.YtebpacmhdkgfeaaGreat

namespace Go.Proofs.YtebpacmhdkgfeaaGreat
open Go.RowKit
section
variable {P : Program} {ops : Array Oper} {rest : List Oper} {o : Oper} {a : Act} {Q : Exit → Act → World → Prop} {W w0 : World} {M : Nat → Prop} {l : List Item}
theorem ev_growNil {α : Type} (E : Enc α) {s x : Operand} {t tn e : TypeId} {z : Value} {by_ n : Nat} {k kn : IntKind} (base : Nat) [ht : SliceT P t e] [hz : ZeroT P e z] [hsz : SizeT P e E.sz] [hb : BytesT P e by_]
  (hgd : o.guard = none) (hL : Loc w0 M W l) (ho : o.op = .call { callee := .builtin .append, args := #[s, x], argTypes := #[t, tn] }) (hs : a.eval s = .slice none 0 0) (hx : a.eval x = .int k (n : Int)) (htn : P.underlying tn = some (.int kn))
  (hzc : z.cells.size = E.sz) (hby : decide (by_ ≤ 1000) = true) (h0 : 0 < n) (hn : n ≤ 100000000000) (hbase : base ≤ w0.heap.size)
  (h : ∀ g G w1, n ≤ G → G ≤ 9223372036854775807 → Loc w0 M w1 (row E base e (.slice (some ⟨g, 0, none⟩) 0 G) [] :: l) → wpList P ops Q rest (a.put o.dst (.slice (some ⟨g, 0, none⟩) n G)) w1) : wpList P ops Q (o :: rest) a W := by
 obtain ⟨i, hi, hzz⟩ := Option.map_eq_some_iff.1 hz.zero
 have his : i.size = E.sz := by have := hsz.size; simpa [hi] using this
 have hib : i.bytes = by_ := by have := hb.bytes; simpa [hi] using this
 have hb1 := of_decide_eq_true hby
 have hp := E.pos
 have hbig : n * i.bytes ≤ 140737488355328 := by
  rw [hib]
  calc n * by_ ≤ 100000000000 * 1000 := Nat.mul_le_mul hn hb1
   _ ≤ 140737488355328 := by decide
 have hr := Lib.run_append_grow_zeros W t tn o.type e i z k kn ht.slice htn hi hzz none 0 0 [] (run_firstCells_none W.drew i.size 0 0 0) n h0 (by rw [his]; exact hp) (by omega) (by omega) (by omega) (growslice_fits (by omega) (by rw [Nat.zero_add]; exact hbig))
 rw [Nat.zero_add] at hr
 have hG := grownCap_ge W n 0 e
 have hG63 := grownCap_le_maxLen W n 0 e (by unfold maxLen; omega)
 generalize grownCap W n 0 e = G at *
 unfold maxLen at hG63
 have hbb : base ≤ W.heap.size := Nat.le_trans hbase hL.size
 refine event hgd (v := .slice (some ⟨W.heap.size, 0, none⟩) n G) ?_ (h W.heap.size G _ hG (by omega) (hL.callNew (w1 := W.drew.alloc (.cells (#[] ++ Builtin.zeroCells z.cells n ++ Builtin.zeroCells z.cells (G - n)) e)) (bl_alloc (show Below W.heap.size W W.drew from ⟨rfl, rfl, rfl, Nat.le_refl _, fun _ _ => rfl⟩) _) (row_at ⟨by simp [Enc.all], .inr ⟨W.heap.size, G, #[] ++ Builtin.zeroCells z.cells n ++ Builtin.zeroCells z.cells (G - n), rfl, hbb, ?_, by simp, by unfold maxLen; omega, ?_, by simp [Enc.all]⟩⟩) fun k hk => ?_))
 ·simp only [execOp, ho, resolve, invoke, builtin, Sem.run_bind, Sem.run_pure, Result.andThen_ok, List.map_toArray, List.map_cons, List.map_nil, hs, hx, hr]
 ·exact heap_alloc_new W.drew _
 ·simp only [Array.empty_append, Array.size_append, Builtin.zeroCells, Array.size_map, Array.size_range, hzc, ← Nat.add_mul]
  congr 1
  omega
 ·have hk' : (Value.slice (some ⟨W.heap.size, 0, none⟩) 0 G).ownBlock = some k := hk
  simp [Value.ownBlock] at hk'
  omega
end
theorem Loc.takeRow {α : Type} {E : Enc α} {w0 w w1 : World} {M : Nat → Prop} {l : List Item} {e : TypeId} {v : Value} {xs : List α} (h : Loc w0 M w l) (h3 : Loc w NoM w1 [row E w.heap.size e v xs]) : Loc w0 M w1 (row E w0.heap.size e v xs :: l) :=
 h.callNew h3.below (row_at ((h3.own (.head _)).weaken h.size)) fun k hk => (h3.new _ (.head _) k hk).elim id fun h => h.elim
theorem R_box {α : Type} {E : Enc α} {w : World} {g : Nat} {cs : List Value} {t : TypeId} (xs : List α) (h : Box w g cs.toArray t) (hc : cs = E.all xs) (hm : xs.length ≤ 9223372036854775807) : E.R w (.slice (some ⟨g, 0, none⟩) xs.length xs.length) xs := by
 subst hc
 refine ⟨by rw [Enc.all_length], some ⟨g, 0, none⟩, xs.length, rfl, Nat.le_refl _, hm, .inr ⟨_, rfl, fun j u hj => ?_⟩⟩
 have ha : (⟨g, 0, none⟩ : Addr).add j = ⟨g, j, none⟩ := by unfold Addr.add; split <;> simp_all
 rw [ha, h.cell j]
 simpa using hj
structure Sl where
 a : Option Addr
 (n c : Nat)
def Sl.val (s : Sl) : Value := .slice s.a s.n s.c
def encSl : Enc Sl := ⟨1, by decide, fun s => [.slice s.a s.n s.c], fun _ => rfl, fun _ u hu => by rw [List.mem_singleton.1 hu]; rfl⟩
end Go.Proofs.YtebpacmhdkgfeaaGreat

namespace Go.Proofs.YtebpacmhdkgfeaaGreat
open Go.RowKit
theorem enters {P : Program} {f : FuncId} {fn : Func} (hf : P.funcs[f]? = some fn) (hname : (fn.name == "runtime.NumGoroutine") = false) (hb : fn.body.isNone = false) (args : Array Value) (w : World) :
  (callFunc f args).run P w = .ok (.enter f args) w := by
 have h1 : fn.name ≠ "runtime.NumGoroutine" := by simpa using hname
 have h2 : ¬ fn.body = none := by intro h; simp [h] at hb
 simp [callFunc, hf, h1, h2, Sem.run, program]
theorem Loc.comm {w0 w : World} {M : Nat → Prop} {l : List Item} {i j : Item} (h : Loc w0 M w (i :: j :: l)) : Loc w0 M w (j :: i :: l) := by
 have ha := h.apart
 rw [List.pairwise_cons, List.pairwise_cons] at ha
 obtain ⟨h1, h2, h3⟩ := ha
 refine ⟨h.mod, fun k hk => h.at_ k ?_, fun k hk => h.new k ?_, List.pairwise_cons.2 ⟨fun k hk => ?_, List.pairwise_cons.2 ⟨fun k hk => h1 k (.tail _ hk), h3⟩⟩⟩
 ·rcases List.mem_cons.1 hk with rfl | hk
  ·exact .tail _ (.head _)
  ·rcases List.mem_cons.1 hk with rfl | hk
   ·exact .head _
   ·exact .tail _ (.tail _ hk)
 ·rcases List.mem_cons.1 hk with rfl | hk
  ·exact .tail _ (.head _)
  ·rcases List.mem_cons.1 hk with rfl | hk
   ·exact .head _
   ·exact .tail _ (.tail _ hk)
 ·rcases List.mem_cons.1 hk with rfl | hk
  ·exact fun b hb hb' => h1 j (.head _) b hb' hb
  ·exact h2 k hk
section
variable {P : Program} {md : Region.Mode} {ops : Array Oper} {Q : Exit → Act → World → Prop}
theorem wpOp_runW {i : Nat} {o : Oper} {a : Act} {w w' : World} {v : Value} {K : Act → World → Prop} (hi : ops[i]? = some o) (hw : Region.wanted o (yielded ops a.tmps) = true) (hr : (execOp a.eval o).run P w = .ok (.value v) w') (h : K (a.put o.dst v) w') : wpOp P ops Q i K a w := by
 unfold wpOp
 simp only [hi, hw, if_true]
 refine .inl ?_
 unfold Oper.wp
 rw [hr]
 exact h
def Wd (ops : Array Oper) (o : Oper) (a : Act) (ds : List Tmp) : Prop := ∀ b : Act, b.tmps.size = a.tmps.size → (∀ p, p ∉ ds → b.eval (.tmp p) = a.eval (.tmp p)) → Region.wanted o (yielded ops b.tmps) = true
theorem Wd.put {o : Oper} {a b : Act} {ds : List Tmp} (h : Wd ops o a ds) (hz : b.tmps.size = a.tmps.size) (hb : ∀ p, p ∉ ds → b.eval (.tmp p) = a.eval (.tmp p)) : Region.wanted o (yielded ops b.tmps) = true := h b hz hb
theorem wpAny_one {f i : Nat} {done : Array Bool} {a : Act} {w : World} (r : Region.ready md ops done = [i]) (h : wpOp P ops Q i (fun a' w' => wpAny P md ops Q f (done.setIfInBounds i true) a' w') a w) : wpAny P md ops Q (f + 1) done a w :=
 wpAny_all r (by simp) fun x hx => by obtain rfl := List.mem_singleton.1 hx; exact h
theorem run_litL {o : Oper} {a : Act} {W : World} {t : TypeId} {n : Nat} {parts : Array (Nat × Operand)} {e : TypeId} {sz : Nat} {z : Value} {cs : List Value} [ht : SliceT P t e] [hz : ZeroT P e z] [hs : SizeT P e sz] (ho : o.op = .buildSlice t n parts)
  (hn : decide (n * sz ≤ 16777216) = true) (h0 : decide (0 < n * sz) = true) (hfill : Instr.fill (fun i => some (i * sz, sz)) ((Array.range (n * sz)).map fun j => z.cells[j % z.cells.size]!) (parts.map fun (i, x) => (i, a.eval x)).toList = some cs.toArray) :
  (execOp a.eval o).run P W = .ok (.value (.slice (some ⟨W.heap.size, 0, none⟩) n n)) (W.alloc (.cells cs.toArray e)) := by
 obtain ⟨i, hi, hzz⟩ := Option.map_eq_some_iff.1 hz.zero
 have hsz : i.size = sz := by have := hs.size; simpa [hi] using this
 have h1 : ¬ n * sz > 2 ^ 24 := by have := of_decide_eq_true hn; omega
 have h2 : ¬ n * sz = 0 := by have := of_decide_eq_true h0; omega
 simp at hfill
 simp [execOp, ho, Instr.buildSlice, run_underlying ht.slice, sizeOf, typeInfo, hi, hsz, zeroValue, hzz, h1, h2, hfill, newRow]
end
end Go.Proofs.YtebpacmhdkgfeaaGreat

namespace Go.Proofs.YtebpacmhdkgfeaaGreat
open Go.RowKit
set_option maxHeartbeats 1000000
def icmp (a b : Int) : Int := if a < b then -1 else if b < a then 1 else 0
def slt (a b : ByteArray) : Bool := Op.bytesLess a.toList b.toList
def scmp (a b : ByteArray) : Int := if slt a b = true then -1 else if slt b a = true then 1 else 0
def orL : List Int → Int
 | [] => 0
 | x :: t => if x ≠ 0 then x else orL t
theorem orL_cons (x : Int) (t : List Int) : orL (x :: t) = if x ≠ 0 then x else orL t := rfl
theorem bless_irr : ∀ l : List UInt8, Op.bytesLess l l = false
 | [] => rfl
 | a :: l => by unfold Op.bytesLess; rw [bless_irr l]; simp
theorem bless_tri : ∀ x y : List UInt8, Op.bytesLess x y = false → Op.bytesLess y x = false → x = y
 | [], [] => fun _ _ => rfl
 | [], b :: y => fun h _ => by simp [Op.bytesLess] at h
 | a :: x, [] => fun _ h => by simp [Op.bytesLess] at h
 | a :: x, b :: y => fun h1 h2 => by
  unfold Op.bytesLess at h1 h2
  simp only [Bool.or_eq_false_iff, decide_eq_false_iff_not, UInt8.not_lt, Bool.and_eq_false_iff, beq_eq_false_iff_ne] at h1 h2
  have e : a = b := UInt8.le_antisymm h2.1 h1.1
  subst e
  rw [bless_tri x y (h1.2.resolve_left (by simp)) (h2.2.resolve_left (by simp))]
theorem bless_asymm : ∀ x y : List UInt8, Op.bytesLess x y = true → Op.bytesLess y x = false
 | [], [] => fun h => by simp [Op.bytesLess] at h
 | _ :: _, [] => fun h => by simp [Op.bytesLess] at h
 | [], b :: y => fun _ => by simp [Op.bytesLess]
 | a :: x, b :: y => fun h => by
  unfold Op.bytesLess at h ⊢
  simp only [Bool.or_eq_true, decide_eq_true_eq, Bool.and_eq_true, beq_iff_eq] at h
  rcases h with h | ⟨rfl, h⟩
  ·have h1 : ¬ b < a := by rw [UInt8.lt_iff_toNat_lt] at *; omega
   have h2 : ¬ b = a := by rintro rfl; rw [UInt8.lt_iff_toNat_lt] at h; omega
   simp [h1, h2]
  ·simp [bless_asymm x y h, UInt8.lt_irrefl]
theorem bless_trans : ∀ x y z : List UInt8, Op.bytesLess x y = true → Op.bytesLess y z = true → Op.bytesLess x z = true
 | _, [], [] => fun _ h => by simp [Op.bytesLess] at h
 | _, _ :: _, [] => fun _ h => by simp [Op.bytesLess] at h
 | [], [], _ :: _ => fun h _ => by simp [Op.bytesLess] at h
 | _ :: _, [], _ :: _ => fun h _ => by simp [Op.bytesLess] at h
 | [], _ :: _, _ :: _ => fun _ _ => rfl
 | a :: x, b :: y, c :: z => fun h1 h2 => by
  unfold Op.bytesLess at h1 h2 ⊢
  simp only [Bool.or_eq_true, decide_eq_true_eq, Bool.and_eq_true, beq_iff_eq] at h1 h2 ⊢
  rcases h1 with h1 | ⟨rfl, h1⟩
  ·rcases h2 with h2 | ⟨rfl, h2⟩
   ·left; rw [UInt8.lt_iff_toNat_lt] at *; omega
   ·exact .inl h1
  ·rcases h2 with h2 | ⟨rfl, h2⟩
   ·exact .inl h2
   ·exact .inr ⟨rfl, bless_trans x y z h1 h2⟩
theorem toList_inj {a b : ByteArray} (h : a.toList = b.toList) : a = b := by
 rw [Lib.toList_data, Lib.toList_data] at h
 cases a with | mk x => cases b with | mk y => cases x; cases y; simp at h; rw [h]
theorem slt_irr (a : ByteArray) : slt a a = false := bless_irr _
theorem slt_tri {a b : ByteArray} (h1 : slt a b = false) (h2 : slt b a = false) : a = b := toList_inj (bless_tri _ _ h1 h2)
theorem slt_trans {a b c : ByteArray} (h1 : slt a b = true) (h2 : slt b c = true) : slt a c = true := bless_trans _ _ _ h1 h2
theorem str_neq (t : TypeId) (a : ByteArray) (w : World) : (binOp .neq t (.string a) (.string a)).run Tryz.prog w = .ok (.bool false) w := by
 simp [binOp, Op.stringOp]
theorem int_neq (t : TypeId) (k : IntKind) (a : Int) (w : World) : (binOp .neq t (.int k a) (.int k a)).run Tryz.prog w = .ok (.bool false) w := by
 simp [binOp, Op.intCmp]
theorem isNaN_int (a : Int) (w : World) : Calls Tryz.prog 160 #[.int .i64 a] w fun e w' => e = .returned (.bool false) ∧ w' = w := by
 have hne := fun t w => int_neq t .i64 a w
 go_enter Tryz.func160, Tryz.ntmps160
 go_wp2
 go_ret
 exact ⟨rfl, rfl⟩
theorem compare_int (a b : Int) (w : World) : Calls Tryz.prog 79 #[.int .i64 a, .int .i64 b] w fun e w' => e = .returned (.int .i64 (icmp a b)) ∧ w' = w := by
 have hc : ∃ r, r = icmp a b := ⟨_, rfl⟩
 obtain ⟨r, hr⟩ := hc
 rw [← hr]
 unfold icmp at hr
 by_cases h1 : a < b
 ·rw [if_pos h1] at hr
  have t1 : decide (a < b) = true := decide_eq_true h1
  subst hr
  go_enter Tryz.func79, Tryz.ntmps79
  go_wp2_with (go_at_call 160; (with_reducible refine (isNaN_int _ _).mono ?_); rintro e w1 ⟨rfl, rfl⟩)
  go_ret
  exact ⟨rfl, rfl⟩
 ·by_cases h2 : b < a
  ·rw [if_neg h1, if_pos h2] at hr
   have t1 : decide (a < b) = false := decide_eq_false h1
   have t2 : decide (b < a) = true := decide_eq_true h2
   subst hr
   go_enter Tryz.func79, Tryz.ntmps79
   go_wp2_with (go_at_call 160; (with_reducible refine (isNaN_int _ _).mono ?_); rintro e w1 ⟨rfl, rfl⟩)
   go_ret
   exact ⟨rfl, rfl⟩
  ·rw [if_neg h1, if_neg h2] at hr
   have t1 : decide (a < b) = false := decide_eq_false h1
   have t2 : decide (b < a) = false := decide_eq_false h2
   subst hr
   go_enter Tryz.func79, Tryz.ntmps79
   go_wp2_with (go_at_call 160; (with_reducible refine (isNaN_int _ _).mono ?_); rintro e w1 ⟨rfl, rfl⟩)
   go_ret
   exact ⟨rfl, rfl⟩
theorem isNaN_uint64 (a : Int) (w : World) : Calls Tryz.prog 198 #[.int .u64 a] w fun e w' => e = .returned (.bool false) ∧ w' = w := by
 have hne := fun t w => int_neq t .u64 a w
 go_enter Tryz.func198, Tryz.ntmps198
 go_wp2
 go_ret
 exact ⟨rfl, rfl⟩
theorem compare_uint64 (a b : Int) (w : World) : Calls Tryz.prog 161 #[.int .u64 a, .int .u64 b] w fun e w' => e = .returned (.int .i64 (icmp a b)) ∧ w' = w := by
 have hc : ∃ r, r = icmp a b := ⟨_, rfl⟩
 obtain ⟨r, hr⟩ := hc
 rw [← hr]
 unfold icmp at hr
 by_cases h1 : a < b
 ·rw [if_pos h1] at hr
  have t1 : decide (a < b) = true := decide_eq_true h1
  subst hr
  go_enter Tryz.func161, Tryz.ntmps161
  go_wp2_with (go_at_call 198; (with_reducible refine (isNaN_uint64 _ _).mono ?_); rintro e w1 ⟨rfl, rfl⟩)
  go_ret
  exact ⟨rfl, rfl⟩
 ·by_cases h2 : b < a
  ·rw [if_neg h1, if_pos h2] at hr
   have t1 : decide (a < b) = false := decide_eq_false h1
   have t2 : decide (b < a) = true := decide_eq_true h2
   subst hr
   go_enter Tryz.func161, Tryz.ntmps161
   go_wp2_with (go_at_call 198; (with_reducible refine (isNaN_uint64 _ _).mono ?_); rintro e w1 ⟨rfl, rfl⟩)
   go_ret
   exact ⟨rfl, rfl⟩
  ·rw [if_neg h1, if_neg h2] at hr
   have t1 : decide (a < b) = false := decide_eq_false h1
   have t2 : decide (b < a) = false := decide_eq_false h2
   subst hr
   go_enter Tryz.func161, Tryz.ntmps161
   go_wp2_with (go_at_call 198; (with_reducible refine (isNaN_uint64 _ _).mono ?_); rintro e w1 ⟨rfl, rfl⟩)
   go_ret
   exact ⟨rfl, rfl⟩
theorem isNaN_string (a : ByteArray) (w : World) : Calls Tryz.prog 168 #[.string a] w fun e w' => e = .returned (.bool false) ∧ w' = w := by
 have hne := fun t w => str_neq t a w
 go_enter Tryz.func168, Tryz.ntmps168
 go_wp2
 go_ret
 exact ⟨rfl, rfl⟩
theorem compare_string (a b : ByteArray) (w : World) : Calls Tryz.prog 98 #[.string a, .string b] w fun e w' => e = .returned (.int .i64 (scmp a b)) ∧ w' = w := by
 have hc : ∃ r, r = scmp a b := ⟨_, rfl⟩
 obtain ⟨r, hr⟩ := hc
 rw [← hr]
 unfold scmp at hr
 have e1 : slt a b = Op.bytesLess a.toList b.toList := rfl
 have e2 : slt b a = Op.bytesLess b.toList a.toList := rfl
 rw [e1, e2] at hr
 cases h1 : Op.bytesLess a.toList b.toList
 ·rw [h1] at hr
  cases h2 : Op.bytesLess b.toList a.toList
  ·rw [h2] at hr
   have h3 : (a.toList == b.toList) = true := by rw [bless_tri _ _ h1 h2]; simp
   replace hr : r = 0 := hr
   clear e1 e2
   subst hr
   go_enter Tryz.func98, Tryz.ntmps98
   go_wp2_with (go_at_call 168; (with_reducible refine (isNaN_string _ _).mono ?_); rintro e w1 ⟨rfl, rfl⟩)
   go_ret
   exact ⟨rfl, rfl⟩
  ·rw [h2] at hr
   have h3 : (a.toList == b.toList) = false := by
    cases h4 : a.toList == b.toList
    ·rfl
    ·rw [eq_of_beq h4, bless_irr] at h2; cases h2
   replace hr : r = 1 := hr
   clear e1 e2
   subst hr
   go_enter Tryz.func98, Tryz.ntmps98
   go_wp2_with (go_at_call 168; (with_reducible refine (isNaN_string _ _).mono ?_); rintro e w1 ⟨rfl, rfl⟩)
   go_ret
   exact ⟨rfl, rfl⟩
 ·rw [h1] at hr
  replace hr : r = -1 := hr
  clear e1 e2
  subst hr
  go_enter Tryz.func98, Tryz.ntmps98
  go_wp2_with (go_at_call 168; (with_reducible refine (isNaN_string _ _).mono ?_); rintro e w1 ⟨rfl, rfl⟩)
  go_ret
  exact ⟨rfl, rfl⟩
instance : SizeT Tryz.prog 3 (encI .i64).sz := inferInstanceAs (SizeT Tryz.prog 3 1)
theorem cmp_or (v : Value) (xs : List Int) (w : World) (h : (encI .i64).R w v xs) : Calls Tryz.prog 78 #[v] w fun e w' => e = .returned (.int .i64 (orL xs)) ∧ w' = w := by
 have hm := R_max h
 obtain ⟨ao, c, rfl, hel⟩ := R_elem h
 clear h
 go_enter Tryz.func78, Tryz.ntmps78
 go_wp2
 go_loopw [8] (fun i wr => ∃ k : Nat, k ≤ xs.length ∧ i = .int .i64 k ∧ orL (xs.drop k) = orL xs ∧ wr = w) (fun i _ => xs.length - (intOf i).toNat)
 case atStart => exact ⟨0, by omega, rfl, rfl, rfl⟩
 case round =>
  obtain ⟨k, hk, rfl, ho, rfl⟩ := hrel
  by_cases hlt : k < xs.length
  ·obtain ⟨g, off, rfl, hr⟩ := hel k hlt
   have hd : xs.drop k = xs[k] :: xs.drop (k + 1) := List.drop_eq_getElem_cons hlt
   rw [hd] at ho
   have hrW : World.rangeAt _ g (off + k * 1) [.int .i64 xs[k]] := hr
   clear hr hd
   generalize xs[k] = x at *
   have HO := kD ho
   clear ho
   by_cases hx : x = 0
   ·have t1 : (x == 0) = true := by simpa using hx
    have HO2 : Hid (orL (xs.drop (k + 1)) = orL xs) := kD (by have h9 := HO.out; rw [orL_cons, if_neg (by simpa using hx)] at h9; exact h9)
    go_wp2_with (first | ((with_reducible refine qF rfl rfl ?_); refine lL rfl rfl rfl rfl hlt ?_) | ((with_reducible refine gate (N := 11) rfl ?_); refine ev_loadR1 rfl rfl rfl hrW ?_))
    go_roundw
    case rel => exact ⟨k + 1, by omega, by go_num, HO2.out, by trivial⟩
    case measure => simp [intOf]; omega
   ·have t1 : (x == 0) = false := by simpa using hx
    have HO2 : Hid (x = orL xs) := kD (by have h9 := HO.out; rw [orL_cons, if_pos hx] at h9; exact h9)
    go_wp2_with (first | ((with_reducible refine qF rfl rfl ?_); refine lL rfl rfl rfl rfl hlt ?_) | ((with_reducible refine gate (N := 11) rfl ?_); refine ev_loadR1 rfl rfl rfl hrW ?_))
    go_ret
    exact ⟨by rw [← HO2.out]; rfl, by trivial⟩
  ·obtain rfl : k = xs.length := by omega
   have HO2 : Hid (0 = orL xs) := kD (by rw [List.drop_length] at ho; exact ho)
   clear ho
   go_wp2
   go_ret
   exact ⟨by rw [← HO2.out]; rfl, by trivial⟩
end Go.Proofs.YtebpacmhdkgfeaaGreat
