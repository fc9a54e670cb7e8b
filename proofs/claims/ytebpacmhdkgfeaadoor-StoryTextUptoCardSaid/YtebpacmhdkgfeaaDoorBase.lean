/- Lemmas over any program: rows that a call owns, appends of whatever source, what is read of a slice. -/
import Derived.WalkKit
import Derived.Below
import Derived.Lib.Hide
import Derived.Outline
import Derived.IntWalk
import Derived.Deep.DeepFit
import Derived.BigQuiet
import Derived.Deep.QuietTactic
import Derived.Deep.LoopGhost
import Derived.WalkLawsBesides
import Derived.WalkSpells
import Derived.Deep.RegionHeld3
import Derived.Deep.DeepCutAuto
import Derived.Deep.RegionWith
import Derived.Deep.AppendSrc
import Derived.StillTailTactics
import Derived.Lib.ConvBytes
import Derived.Laws.BytesArg
import Derived.RowKit3
namespace Go.Proofs.YtebpacmhdkgfeaaDoor
open Go.RowKit

theorem bcell {W w1 : World} (hb : Below W.heap.size W w1) : (∀ b o, b < W.heap.size → w1.cell? ⟨b, o, none⟩ = W.cell? ⟨b, o, none⟩) ∧ (∀ b o, b < W.heap.size → w1.frozen? ⟨b, o, none⟩ = W.frozen? ⟨b, o, none⟩) :=
  ⟨fun b o h => hb.cell (p := ⟨b, o, none⟩) h, fun b o h => hb.frozen (p := ⟨b, o, none⟩) h⟩
theorem bl_drewN {B : Nat} {a w : World} (h : Below B a w) (n : Nat) : Below B a (w.drewN n) := ⟨h.os, h.tape, h.output, h.size, h.block⟩
theorem bl_alloc {w W : World} (h : Below w.heap.size w W) (o : Obj) : Below w.heap.size w (W.alloc o) := h.alloc h.size o
theorem bl_set {w W : World} (h : Below w.heap.size w W) {p : Addr} (hp : w.heap.size ≤ p.block) (u : Value) : Below w.heap.size w (W.setCell p u) := h.setCell hp u
theorem bl_of_drew {w w1 : World} (h : Below w.drew.heap.size w.drew w1) : Below w.heap.size w w1 := ⟨h.os, h.tape, h.output, h.size, h.block⟩
theorem bl_of_drewN {n : Nat} {w w1 : World} (h : Below (w.drewN n).heap.size (w.drewN n) w1) : Below w.heap.size w w1 := ⟨h.os, h.tape, h.output, h.size, h.block⟩
/-- One call behind another. -/
theorem bl_then {w w1 w2 : World} (h : Below w.heap.size w w1) (k : Below w1.heap.size w1 w2) : Below w.heap.size w w2 := h.trans (k.mono h.size)
theorem bl_grown {w w1 w2 : World} {row : Option Nat} (h : Below w.heap.size w w1) (hg : w1.grownBy w2 row) (hr : ∀ k, row = some k → w.heap.size ≤ k) : Below w.heap.size w w2 := h.grown hg h.size hr
theorem gr_of_below {w w1 : World} (h : Below w.heap.size w w1) (row : Option Nat) : w.grownBy w1 row := ⟨h.os, h.tape, h.output, h.size, fun i hi _ => h.block i hi⟩

/-! ### A slice that is read: n elements of 'size' cells each -/
def Rd (w : World) (size : Nat) (v : Value) (n : Nat) (cs : List Value) : Prop :=
  cs.length = n * size ∧ ∃ ao c, v = .slice ao n c ∧ n ≤ c ∧ n ≤ 9223372036854775807 ∧ (n = 0 ∨ ∃ ad, ao = some ad ∧ ∀ j u, cs[j]? = some u → w.cell? (ad.add j) = some u)

theorem Rd.below {w w1 : World} {size n : Nat} {v : Value} {cs : List Value} (h : Rd w size v n cs) (hb : Below w.heap.size w w1) : Rd w1 size v n cs := by
  obtain ⟨hl, ao, c, rfl, hc, hm, h0⟩ := h
  refine ⟨hl, ao, c, rfl, hc, hm, ?_⟩
  rcases h0 with h0 | ⟨ad, rfl, hcell⟩
  · exact .inl h0
  · refine .inr ⟨ad, rfl, fun j u hu => ?_⟩
    have hc := hcell j u hu
    exact (hb.cell (World.block_lt_of_cell? w _ hc)).trans hc

theorem own_lt {w : World} {base : Nat} {e : TypeId} {size n : Nat} {v : Value} {xs : List Value} (h : w.ownsRow base e size v n xs) (k : Nat) (hk : v.ownBlock = some k) : k < w.heap.size := (h.lt k hk).2
theorem own_base {w : World} {base : Nat} {e : TypeId} {size n : Nat} {v : Value} {xs : List Value} (h : w.ownsRow base e size v n xs) (k : Nat) (hk : v.ownBlock = some k) : base ≤ k := (h.lt k hk).1
theorem own_below {w w1 : World} {base : Nat} {e : TypeId} {size n : Nat} {v : Value} {xs : List Value} (h : w.ownsRow base e size v n xs) (hb : Below w.heap.size w w1) : w1.ownsRow base e size v n xs :=
  h.kept (gr_of_below hb none) (by cases v.ownBlock <;> simp)
theorem own_weaken {w : World} {base base' : Nat} {e : TypeId} {size n : Nat} {v : Value} {xs : List Value} (h : w.ownsRow base e size v n xs) (hb : base' ≤ base) : w.ownsRow base' e size v n xs := by
  refine ⟨h.1, ?_⟩
  rcases h.2 with hn | ⟨g, cap, cur, rfl, hg, rest⟩
  · exact .inl hn
  · exact .inr ⟨g, cap, cur, rfl, by omega, rest⟩
theorem own_rd {w : World} {base : Nat} {e : TypeId} {size n : Nat} {v : Value} {xs : List Value} (h : w.ownsRow base e size v n xs) : Rd w size v n xs := by
  refine ⟨h.1, ?_⟩
  rcases h.2 with ⟨rfl, rfl⟩ | ⟨g, cap, cur, rfl, hb, hg, h1, h2, h3, h4⟩
  · exact ⟨none, 0, rfl, Nat.le_refl _, by omega, .inl rfl⟩
  · refine ⟨_, cap, rfl, h1, by simp only [maxLen] at h2; omega, .inr ⟨_, rfl, fun j u hu => h.cells (g := g) rfl j u hu⟩⟩
/-- Of a world that has the same blocks. -/
theorem own_drewN {w : World} {base : Nat} {e : TypeId} {size n : Nat} {v : Value} {xs : List Value} (h : w.ownsRow base e size v n xs) (k : Nat) : (w.drewN k).ownsRow base e size v n xs := h

theorem Rd.src {P : Program} {w : World} {size n : Nat} {v : Value} {cs : List Value} {tx e' : TypeId} (h : Rd w size v n cs) (hk : P.underlying tx = some (.slice e')) (h1 : ∀ u ∈ cs, u.oneCell' = true) : Src P size tx v n cs w := by
  obtain ⟨hl, ao, c, rfl, hc, hm, h0⟩ := h
  rcases h0 with rfl | ⟨ad, rfl, hcell⟩
  · have : cs = [] := List.eq_nil_of_length_eq_zero (by simpa using hl)
    subst this
    cases ao with
    | none => exact Src.ofNil w hk c
    | some ad => exact Src.ofSlice w hk ad 0 c [] (by simp) (fun j u hu => by simp at hu) (fun u hu => by cases hu)
  · exact Src.ofSlice w hk ad n c cs hl hcell h1

/-! ### append, of whatever source, onto a row of the call's own -/
section
variable {P : Program} (w : World)
theorem run_append_own_src (base : Nat) (t tx ty e : TypeId) (i : TypeInfo) (z : Value) (size bytes : Nat) (ht : P.underlying t = some (.slice e)) (hi : P.info? e = some i) (hz : i.zero = some z)
    (hsize : i.size = size) (hby : i.bytes = bytes) (hzs : z.cells.size = size) (hsz : 0 < size)
    (v : Value) (n : Nat) (xs : List Value) (hown : w.ownsRow base e size v n xs)
    (x : Value) (m : Nat) (news : List Value) (hs : Src P size tx x m news w)
    (h63 : n + m ≤ maxLen) (hbytes : (n + m) * bytes ≤ 140737488355328) (hbase : base ≤ w.heap.size) :
    ∃ v' w', (Builtin.append_ #[t, tx] ty #[v, x]).run P w = .ok v' w' ∧ w'.ownsRow base e size v' (n + m) (xs ++ news) ∧ w.grownBy w' v.ownBlock ∧
      (v'.ownBlock = v.ownBlock ∨ v'.ownBlock = some w.heap.size) := by
  subst hsize
  subst hby
  have hlen : (xs ++ news).length = (n + m) * i.size := by rw [List.length_append, hown.1, hs.newsLen, Nat.add_mul]
  have grown : ∀ (old : Nat), old < n + m → ∀ (row : Option Nat),
      (w.drew.alloc (.cells ((xs ++ news).toArray ++ Builtin.zeroCells z.cells (grownCap w (n + m) old e - (n + m))) e)).ownsRow base e i.size
        (.slice (some ⟨w.heap.size, 0, none⟩) (n + m) (grownCap w (n + m) old e)) (n + m) (xs ++ news) ∧
      w.grownBy (w.drew.alloc (.cells ((xs ++ news).toArray ++ Builtin.zeroCells z.cells (grownCap w (n + m) old e - (n + m))) e)) row := by
    intro old ho row
    have hge := grownCap_ge w (n + m) old e
    have hcm : grownCap w (n + m) old e ≤ maxLen := grownCap_le_maxLen w (n + m) old e h63
    refine ⟨⟨hlen, .inr ⟨w.heap.size, _, _, rfl, hbase, heap_alloc_new w.drew _, hge, hcm, ?_, ?_⟩⟩, ⟨rfl, rfl, rfl, by simp, fun k hk _ => Below.heap_alloc w.drew _ k hk⟩⟩
    · simp only [Array.size_append, List.size_toArray, size_zeroCells, hzs, hlen, ← Nat.add_mul]
      congr 1
      omega
    · simp only [Array.toList_append]
      rw [← hlen]
      exact List.take_left
  have h63' : ((n + m : Nat) : Int) ≤ 9223372036854775807 := by simp only [maxLen] at h63; omega
  rcases hown.2 with ⟨rfl, rfl⟩ | ⟨g, cap, cur, rfl, hbg, hg, hnc, hcm, hcs, htake⟩
  · have hx : xs = [] := List.eq_nil_of_length_eq_zero (by simpa using hown.1)
    subst hx
    by_cases hm : m = 0
    · subst hm
      have hn : news = [] := List.eq_nil_of_length_eq_zero (by simpa using hs.newsLen)
      subst hn
      refine ⟨.slice none 0 0, w, ?_, World.ownsRow_nil w base e i.size, ⟨rfl, rfl, rfl, Nat.le_refl _, fun _ _ _ => rfl⟩, .inl rfl⟩
      rcases hs.kind with ⟨e', hk⟩ | hk <;>
        simp [Builtin.append_, run_underlying ht, run_underlying hk, sizeOf, typeInfo, hi, hs.len, hs.cells]
    · have hr := run_append_grow_src (P := P) w t tx ty e i z ht hi hz none 0 0 [] (run_firstCells_none w.drew i.size 0 0 0) x m news hs (by omega) h63' (growslice_fits (by omega) hbytes)
      have hgr := grown 0 (by omega) (Value.ownBlock (.slice none 0 0))
      simp only [Nat.zero_add, List.nil_append] at hgr hr ⊢
      exact ⟨_, _, hr, hgr.1, hgr.2, .inr rfl⟩
  · by_cases hroom : n + m ≤ cap
    · have hfit : n * i.size + news.length ≤ cur.size := by rw [hs.newsLen, hcs, ← Nat.add_mul]; exact Nat.mul_le_mul_right _ hroom
      have hst := run_storeCells_at P g (n * i.size) e news 0 cur w hg (by simpa using hfit) hs.one
      simp only [Nat.add_zero] at hst
      refine ⟨.slice (some ⟨g, 0, none⟩) (n + m) cap, w.setRow g (cur.toList.take (n * i.size) ++ news ++ cur.toList.drop (n * i.size + news.length)).toArray, ?_, ⟨hlen, .inr ⟨g, cap, _, rfl, hbg, setRow_heap w g cur _ e _ hg, hroom, hcm, ?_, ?_⟩⟩, ⟨rfl, rfl, rfl, by simp, fun k _ hk => setRow_other w g k _ (fun e => hk (by simp [Value.ownBlock, e]))⟩, .inl rfl⟩
      · rcases hs.kind with ⟨e', hk⟩ | hk <;>
          simp [Builtin.append_, run_underlying ht, run_underlying hk, sizeOf, typeInfo, hi, hs.len, hroom, hs.cells, Addr.add_lit, hst]
      · simp only [List.size_toArray, List.length_append, List.length_take, List.length_drop, Array.length_toList]
        omega
      · rw [htake, ← hlen]
        exact List.take_left
    · have holds : ∀ j u, xs[j]? = some u → w.cell? ((⟨g, 0, none⟩ : Addr).add j) = some u := hown.cells (g := g) rfl
      have hr := run_append_grow_src (P := P) w t tx ty e i z ht hi hz (some ⟨g, 0, none⟩) n cap xs (run_firstCells_some w.drew i.size n ⟨g, 0, none⟩ n cap xs hown.1 (by simpa using holds)) x m news hs (by omega) h63' (growslice_fits (by omega) hbytes)
      have hgr := grown cap (by omega) (Value.ownBlock (.slice (some ⟨g, 0, none⟩) n cap))
      exact ⟨_, _, hr, hgr.1, hgr.2, .inr rfl⟩

/-- The same at the operation; the type's row of the table by one closed fact. -/
theorem wpList_app {w : World} {ops : Array Oper} {rest : List Oper} {o : Oper} {a : Act} {Q : Exit → Act → World → Prop} (hgd : o.guard = none) (s x : Operand) (t tx : TypeId)
    (ho : o.op = .call { callee := .builtin .append, args := #[s, x], argTypes := #[t, tx] })
    (base : Nat) (e : TypeId) (z : Value) (size bytes : Nat) (ht : P.underlying t = some (.slice e)) (hinfo : (P.info? e).map (fun i => (i.zero, i.size, i.bytes)) = some (some z, size, bytes)) (hzs : z.cells.size = size) (hsz : 0 < size)
    (v : Value) (n : Nat) (xs : List Value) (hs : a.eval s = v) (hown : w.ownsRow base e size v n xs)
    (xv : Value) (m : Nat) (news : List Value) (hx : a.eval x = xv) (hsrc : Src P size tx xv m news w)
    (h63 : n + m ≤ 140737488355328) (hbytes : (n + m) * bytes ≤ 140737488355328) (hbase : base ≤ w.heap.size)
    (h : ∀ v' w', w'.ownsRow base e size v' (n + m) (xs ++ news) → w.grownBy w' v.ownBlock → (v'.ownBlock = v.ownBlock ∨ v'.ownBlock = some w.heap.size) → wpList P ops Q rest (a.put o.dst v') w') :
    wpList P ops Q (o :: rest) a w := by
  obtain ⟨i, hi, hz, hsize, hby⟩ := info_parts hinfo
  refine wpList_plain hgd fun K hK => ?_
  obtain ⟨v', w', hr, h2, h3, h4⟩ := run_append_own_src (P := P) w base t tx o.type e i z size bytes ht hi hz hsize hby hzs hsz v n xs hown xv m news hsrc (by simp only [maxLen]; omega) hbytes hbase
  unfold Oper.wp execOp
  simp only [ho, resolve, invoke, builtin, Sem.run_bind, Sem.run_pure, Result.andThen_ok, List.map_toArray, List.map_cons, List.map_nil, hs, hx, hr]
  exact hK _ _ (h v' w' h2 h3 h4)

/-- A literal's box of one element, that is appended: its own source. -/
theorem src_box {size : Nat} {tx e' : TypeId} (hk : P.underlying tx = some (.slice e')) (cs : Array Value) (e : TypeId) (h1 : ∀ u ∈ cs.toList, u.oneCell' = true) (hl : cs.size = size) :
    Src P size tx (.slice (some ⟨w.heap.size, 0, none⟩) 1 1) 1 cs.toList (w.alloc (.cells cs e)) :=
  Src.ofSlice (w.alloc (.cells cs e)) hk ⟨w.heap.size, 0, none⟩ 1 1 cs.toList (by simp [hl]) (fun j u hu => by
    have ha : (⟨w.heap.size, 0, none⟩ : Addr).add j = ⟨w.heap.size, j, none⟩ := by unfold Addr.add; split <;> simp_all
    rw [ha, World.cell?_alloc_new]
    simpa using hu) h1
end

/-! ### Rows of elements without memory of their own -/
structure Enc (α : Type) where
  sz : Nat
  pos : 0 < sz
  cells : α → List Value
  len : ∀ x, (cells x).length = sz
  one : ∀ x, ∀ u ∈ cells x, u.oneCell' = true
namespace Enc
variable {α : Type} (E : Enc α)
def all (xs : List α) : List Value := xs.flatMap E.cells
theorem all_nil : E.all [] = [] := rfl
theorem all_append (xs ys : List α) : E.all (xs ++ ys) = E.all xs ++ E.all ys := by simp [all]
theorem all_one_elem (x : α) : E.all [x] = E.cells x := by simp [all]
theorem all_length (xs : List α) : (E.all xs).length = xs.length * E.sz := by
  induction xs with
  | nil => simp [all]
  | cons x xs ih =>
    have h : E.all (x :: xs) = E.cells x ++ E.all xs := by simp [all]
    rw [h, List.length_append, E.len, ih, List.length_cons, Nat.add_mul, Nat.one_mul, Nat.add_comm]
theorem all_one (xs : List α) : ∀ u ∈ E.all xs, u.oneCell' = true := by
  intro u hu
  simp only [all, List.mem_flatMap] at hu
  obtain ⟨x, _, h⟩ := hu
  exact E.one x u h
theorem all_get (xs : List α) (i j : Nat) (hi : i < xs.length) (hj : j < E.sz) : (E.all xs)[i * E.sz + j]? = (E.cells xs[i])[j]? := by
  induction xs generalizing i with
  | nil => simp at hi
  | cons x xs ih =>
    have h : E.all (x :: xs) = E.cells x ++ E.all xs := by simp [all]
    rw [h]
    cases i with
    | zero => rw [Nat.zero_mul, Nat.zero_add, List.getElem?_append_left (by rw [E.len]; exact hj)]; rfl
    | succ i =>
      have h1 : (i + 1) * E.sz + j = E.sz + (i * E.sz + j) := by rw [Nat.add_mul]; omega
      rw [h1, List.getElem?_append_right (by rw [E.len]; omega), E.len, Nat.add_sub_cancel_left, ih i (by simpa using hi)]
      rfl
/-- The call's own row that holds xs. -/
def O (w : World) (base : Nat) (e : TypeId) (v : Value) (xs : List α) : Prop := w.ownsRow base e E.sz v xs.length (E.all xs)
/-- A slice that reads as xs. -/
def R (w : World) (v : Value) (xs : List α) : Prop := Rd w E.sz v xs.length (E.all xs)
variable {E}
theorem O.read {w : World} {base : Nat} {e : TypeId} {v : Value} {xs : List α} (h : E.O w base e v xs) : E.R w v xs := own_rd h
theorem O.below {w w1 : World} {base : Nat} {e : TypeId} {v : Value} {xs : List α} (h : E.O w base e v xs) (hb : Below w.heap.size w w1) : E.O w1 base e v xs := own_below h hb
theorem O.weaken {w : World} {base base' : Nat} {e : TypeId} {v : Value} {xs : List α} (h : E.O w base e v xs) (hb : base' ≤ base) : E.O w base' e v xs := own_weaken h hb
theorem O.base {w : World} {base : Nat} {e : TypeId} {v : Value} {xs : List α} (h : E.O w base e v xs) (k : Nat) (hk : v.ownBlock = some k) : base ≤ k := own_base h k hk
theorem O.lt {w : World} {base : Nat} {e : TypeId} {v : Value} {xs : List α} (h : E.O w base e v xs) (k : Nat) (hk : v.ownBlock = some k) : k < w.heap.size := own_lt h k hk
theorem O.alloc {w : World} {base : Nat} {e : TypeId} {v : Value} {xs : List α} (h : E.O w base e v xs) (o : Obj) : E.O (w.alloc o) base e v xs := World.ownsRow.alloc h o
theorem O.drewN {w : World} {base : Nat} {e : TypeId} {v : Value} {xs : List α} (h : E.O w base e v xs) (k : Nat) : E.O (w.drewN k) base e v xs := h
theorem O.none (w : World) (base : Nat) (e : TypeId) : E.O w base e (.slice none 0 0) [] := World.ownsRow_nil _ _ _ _
theorem O.lit {w : World} {base : Nat} {e : TypeId} (cs : Array Value) (xs : List α) (hc : cs.toList = E.all xs) (hb : base ≤ w.heap.size) (hm : xs.length ≤ maxLen) :
    E.O (w.alloc (.cells cs e)) base e (.slice (some ⟨w.heap.size, 0, Option.none⟩) xs.length xs.length) xs := by
  unfold O
  rw [← hc]
  exact World.ownsRow_lit w cs xs.length hb hm (by rw [← Array.length_toList, hc, E.all_length])
theorem R.below {w w1 : World} {v : Value} {xs : List α} (h : E.R w v xs) (hb : Below w.heap.size w w1) : E.R w1 v xs := Rd.below h hb
theorem R.src {P : Program} {w : World} {v : Value} {xs : List α} {tx e' : TypeId} (h : E.R w v xs) (hk : P.underlying tx = some (.slice e')) : Src P E.sz tx v xs.length (E.all xs) w := Rd.src h hk (E.all_one xs)
theorem R.none (w : World) : E.R w (.slice none 0 0) [] := (O.none (E := E) w 0 0).read
/-- The shape of what is read, and its cells. -/
theorem R.open_ {w : World} {v : Value} {xs : List α} (h : E.R w v xs) : ∃ ao c, v = .slice ao xs.length c ∧ xs.length ≤ c ∧ xs.length ≤ 9223372036854775807 ∧
    ∀ i, (hi : i < xs.length) → ∃ ad, ao = some ad ∧ ∀ j, j < E.sz → w.cell? (ad.add (i * E.sz + j)) = (E.cells xs[i])[j]? := by
  obtain ⟨_, ao, c, rfl, hc, hm, h0⟩ := h
  refine ⟨ao, c, rfl, hc, hm, fun i hi => ?_⟩
  rcases h0 with h0 | ⟨ad, rfl, hcell⟩
  · omega
  · refine ⟨ad, rfl, fun j hj => ?_⟩
    have hg := E.all_get xs i j hi hj
    rw [← hg]
    have hlt : i * E.sz + j < (E.all xs).length := by
      rw [E.all_length]
      calc i * E.sz + j < i * E.sz + E.sz := by omega
        _ = (i + 1) * E.sz := by rw [Nat.add_mul, Nat.one_mul]
        _ ≤ xs.length * E.sz := Nat.mul_le_mul_right _ hi
    rw [List.getElem?_eq_getElem hlt]
    exact hcell _ _ (List.getElem?_eq_getElem hlt)
/-- append, of whatever reads as ys. -/
theorem app {P : Program} {w : World} {ops : Array Oper} {rest : List Oper} {o : Oper} {a : Act} {Q : Exit → Act → World → Prop} (hgd : o.guard = Option.none) (s x : Operand) (t tx : TypeId)
    (ho : o.op = .call { callee := .builtin .append, args := #[s, x], argTypes := #[t, tx] })
    {base : Nat} {e : TypeId} (z : Value) (bytes : Nat) (ht : P.underlying t = some (.slice e)) (hinfo : (P.info? e).map (fun i => (i.zero, i.size, i.bytes)) = some (some z, E.sz, bytes)) (hzs : z.cells.size = E.sz)
    {v : Value} {xs : List α} (hs : a.eval s = v) (hown : E.O w base e v xs)
    {xv : Value} {ys : List α} (hx : a.eval x = xv) (hsrc : Src P E.sz tx xv ys.length (E.all ys) w)
    (h63 : xs.length + ys.length ≤ 100000000000) (hbytes : bytes ≤ 1000) (hbase : base ≤ w.heap.size)
    (h : ∀ v' w', E.O w' base e v' (xs ++ ys) → w.grownBy w' v.ownBlock → (v'.ownBlock = v.ownBlock ∨ v'.ownBlock = some w.heap.size) → wpList P ops Q rest (a.put o.dst v') w') :
    wpList P ops Q (o :: rest) a w := by
  refine wpList_app hgd s x t tx ho base e z E.sz bytes ht hinfo hzs E.pos v xs.length (E.all xs) hs hown xv ys.length (E.all ys) hx hsrc (by omega) ?_ hbase ?_
  · calc (xs.length + ys.length) * bytes ≤ 100000000000 * 1000 := Nat.mul_le_mul h63 hbytes
      _ ≤ 140737488355328 := by decide
  · intro v' w' h1 h2 h3
    refine h v' w' ?_ h2 h3
    unfold O
    rw [E.all_append, List.length_append]
    exact h1
/-- append of one element, boxed by a literal. -/
theorem app1 {P : Program} {w : World} {ops : Array Oper} {rest : List Oper} {o : Oper} {a : Act} {Q : Exit → Act → World → Prop} (hgd : o.guard = Option.none) (s x : Operand) (t : TypeId)
    (ho : o.op = .call { callee := .builtin .append, args := #[s, x], argTypes := #[t, t] })
    {base : Nat} {e : TypeId} (z : Value) (bytes : Nat) (ht : P.underlying t = some (.slice e)) (hinfo : (P.info? e).map (fun i => (i.zero, i.size, i.bytes)) = some (some z, E.sz, bytes)) (hzs : z.cells.size = E.sz)
    {v : Value} {xs : List α} (hs : a.eval s = v) (hown : E.O w base e v xs)
    {cs : Array Value} {e2 : TypeId} (y : α) (hcs : cs.toList = E.cells y) (hx : a.eval x = .slice (some ⟨w.heap.size, 0, Option.none⟩) 1 1)
    (h63 : xs.length < 100000000000) (hbytes : bytes ≤ 1000) (hbase : base ≤ w.heap.size)
    (h : ∀ v' w', E.O w' base e v' (xs ++ [y]) → w.grownBy w' v.ownBlock → (v'.ownBlock = v.ownBlock ∨ ∃ b, v'.ownBlock = some b ∧ w.heap.size ≤ b) → wpList P ops Q rest (a.put o.dst v') w') :
    wpList P ops Q (o :: rest) a (w.alloc (.cells cs e2)) := by
  refine app (E := E) hgd s x t t ho z bytes ht hinfo hzs hs (hown.alloc _) (ys := [y]) hx ?_ (by simp; omega) hbytes (by simp; omega) ?_
  · rw [E.all_one_elem, ← hcs]
    exact src_box w ht cs e2 (by rw [hcs]; exact E.one y) (by rw [← Array.length_toList, hcs, E.len])
  · intro v' w' h1 h2 h3
    refine h v' w' h1 (World.grownBy.trans (World.grownBy_alloc w _ _) h2) ?_
    rcases h3 with h3 | h3
    · exact .inl h3
    · exact .inr ⟨_, h3, by simp⟩
end Enc

def encB : Enc UInt8 := ⟨1, by decide, fun b => [.int .u8 b.toNat], fun _ => rfl, fun _ u hu => by rw [List.mem_singleton.1 hu]; rfl⟩
def encS : Enc ByteArray := ⟨1, by decide, fun s => [.string s], fun _ => rfl, fun _ u hu => by rw [List.mem_singleton.1 hu]; rfl⟩
def encI (k : IntKind) : Enc Int := ⟨1, by decide, fun n => [.int k n], fun _ => rfl, fun _ u hu => by rw [List.mem_singleton.1 hu]; rfl⟩
def encT : Enc Bool := ⟨1, by decide, fun n => [.bool n], fun _ => rfl, fun _ u hu => by rw [List.mem_singleton.1 hu]; rfl⟩
theorem encB_all (l : List UInt8) : encB.all l = l.map fun b => Value.int .u8 b.toNat := by
  induction l with
  | nil => rfl
  | cons b l ih => simp [Enc.all, encB] at ih ⊢; exact ih
theorem byteCells_all (s : ByteArray) : byteCells s = encB.all s.data.toList := by rw [encB_all]; rfl
theorem src_str {P : Program} {tx : TypeId} (w : World) (hk : P.underlying tx = some .string) (s : ByteArray) : Src P encB.sz tx (.string s) s.data.toList.length (encB.all s.data.toList) w := by
  have h := Src.ofString (P := P) w hk s
  rw [byteCells_all] at h
  have e : s.data.toList.length = s.size := by rw [Array.length_toList]; rfl
  rw [e]
  exact h

/-- 'string(b)'. -/
theorem conv_bytes {P : Program} {w : World} {v : Value} {l : List UInt8} (h : encB.R w v l) (src dst e : TypeId) (hs : P.underlying src = some (.slice e)) (he : P.underlying e = some (.int .u8)) (hd : P.underlying dst = some .string) :
    (convert src dst v).run P w = .ok (.string ⟨l.toArray⟩) w := by
  obtain ⟨hl, ao, c, rfl, hc, hm, h0⟩ := h
  rcases h0 with h0 | ⟨ad, rfl, hcell⟩
  · obtain rfl : l = [] := List.eq_nil_of_length_eq_zero h0
    cases ao with
    | none => exact run_convert_bytes_nil w src e hs he 0 c dst hd
    | some ad =>
      have hload := run_loadCells_list (P := P) w ad [] (fun j v hj => by simp at hj)
      rw [run_convert_bytes_string w src dst e _ _ c hs he hd, run_bytesToString w _ _ c [] (by simpa using hload)]
      rfl
  · rw [encB_all] at hcell
    have hload := run_loadCells_list (P := P) w ad (l.map fun b => Value.int .u8 (b.toNat : Int)) (fun j v hj => hcell j v hj)
    rw [run_convert_bytes_string w src dst e _ _ c hs he hd, run_bytesToString w _ _ c (l.map fun b => (b.toNat : Int)) (by simpa [Function.comp_def] using hload), foldl_push_bytes]
    simp [ByteArray.empty, ByteArray.emptyWithCapacity, Function.comp_def]
    rfl

end Go.Proofs.YtebpacmhdkgfeaaDoor
