/- '==' of structs and arrays of whole numbers, bools and strings: one Bool, reckoned off the types. Over any program. -/
import Derived.Test.YtebpacmhdkgfeaaDoorBase
import Derived.ChangeKeysEq
import Derived.Laws.StructEq
namespace Go.Proofs.YtebpacmhdkgfeaaDoor
open Go.RowKit

def allO : List (Option Bool) → Option Bool
  | [] => some true
  | none :: _ => none
  | some b :: l => match allO l with
    | none => none
    | some r => some (b && r)
def chunk (xs : List Value) (off n : Nat) : List Value := (xs.drop off).take n
def eqCells (P : Program) : Nat → TypeId → List Value → List Value → Option Bool
  | 0, _, _, _ => none
  | m + 1, t, xs, ys =>
    match P.underlying t with
    | some .bool => (match xs, ys with | [.bool a], [.bool b] => some (a == b) | _, _ => none)
    | some (.int _) => (match xs, ys with | [.int k a], [.int k' b] => if k = k' then some (a == b) else none | _, _ => none)
    | some .string => (match xs, ys with | [.string a], [.string b] => some (a == b) | _, _ => none)
    | some (.array n e) => if (P.info? e).isSome = true then allO ((List.range n).map fun i => eqCells P m e (chunk xs (i * P.cellsOf e) (P.cellsOf e)) (chunk ys (i * P.cellsOf e) (P.cellsOf e))) else none
    | some (.struct fs) => if P.stoodInHeld t = true then none else allO (fs.toList.map fun f => if f.name = "_" then none else eqCells P m f.type (chunk xs f.offset (P.cellsOf f.type)) (chunk ys f.offset (P.cellsOf f.type)))
    | _ => none
def isAggT (P : Program) (t : TypeId) : Bool := match P.underlying t with | some (.array _ _) | some (.struct _) => true | _ => false
def asVal (P : Program) (t : TypeId) (cs : List Value) : Value := if isAggT P t = true then .agg cs.toArray else cs.headD undef

def fldEq (P : Program) (m : Nat) (xs ys : List Value) (f : Field) : Option Bool := if f.name = "_" then none else eqCells P m f.type (chunk xs f.offset (P.cellsOf f.type)) (chunk ys f.offset (P.cellsOf f.type))
/-- A struct field by field; 'stoodInHeld' by its closed fact. -/
theorem eqCells_struct {P : Program} {m : Nat} {t : TypeId} {xs ys : List Value} {r : Bool} {fs : Array Field} (hu : P.underlying t = some (.struct fs)) (hs : P.stoodInHeld t = false) (h : allO (fs.toList.map (fldEq P m xs ys)) = some r) : eqCells P (m + 1) t xs ys = some r := by
  simp only [eqCells, hu, hs, Bool.false_eq_true, if_false]
  exact h

section
variable {P : Program} (w : World)
theorem run_part_of {m : Nat} {e : TypeId} {xs : List Value} {ys : List Value} {off : Nat} {r : Bool} (h : eqCells P m e (chunk xs off (P.cellsOf e)) ys = some r ∨ eqCells P m e ys (chunk xs off (P.cellsOf e)) = some r) :
    (part e xs.toArray off).run P w = .ok (asVal P e (chunk xs off (P.cellsOf e))) w := by
  cases m with
  | zero => simp [eqCells] at h
  | succ m =>
    cases hu : P.underlying e with
    | none => simp [eqCells, hu] at h
    | some d =>
      obtain ⟨i, hi⟩ := info_of_underlying hu
      have one : (∃ v, chunk xs off (P.cellsOf e) = [v]) → isAggT P e = false → (part e xs.toArray off).run P w = .ok (asVal P e (chunk xs off (P.cellsOf e))) w := by
        rintro ⟨v, hv⟩ hag
        have hx : xs[off]? = some v := by
          have h1 : (chunk xs off (P.cellsOf e))[0]? = some v := by rw [hv]; rfl
          simp only [chunk] at h1
          rw [List.getElem?_take] at h1
          split at h1
          · simpa using h1
          · cases h1
        have h2 : asVal P e (chunk xs off (P.cellsOf e)) = v := by rw [hv]; simp [asVal, hag]
        rw [h2]
        unfold isAggT at hag
        rw [hu] at hag
        cases d <;> simp at hag <;> simp [part, isAgg, run_underlying hu, hx]
      have agg : isAggT P e = true → (part e xs.toArray off).run P w = .ok (asVal P e (chunk xs off (P.cellsOf e))) w := by
        intro hag
        have h2 : asVal P e (chunk xs off (P.cellsOf e)) = .agg (xs.toArray.extract off (off + P.cellsOf e)) := by
          simp only [asVal, hag, if_true, chunk]
          congr 1
          apply Array.ext'
          simp [List.extract]
        rw [h2]
        unfold isAggT at hag
        rw [hu] at hag
        cases d <;> simp at hag <;> simp [part, isAgg, run_underlying hu, run_sizeOf w hi]
      cases d
      case bool =>
        refine one ?_ (by simp [isAggT, hu])
        simp only [eqCells, hu] at h
        rcases h with h | h <;> (split at h <;> simp_all)
      case int q =>
        refine one ?_ (by simp [isAggT, hu])
        simp only [eqCells, hu] at h
        rcases h with h | h <;> (split at h <;> simp_all)
      case string =>
        refine one ?_ (by simp [isAggT, hu])
        simp only [eqCells, hu] at h
        rcases h with h | h <;> (split at h <;> simp_all)
      case array n e' => exact agg (by simp [isAggT, hu])
      case struct fs => exact agg (by simp [isAggT, hu])
      all_goals (simp [eqCells, hu] at h; done)

theorem run_equalIn_cells (d : Nat) : ∀ (m : Nat) (t : TypeId) (xs ys : List Value) (r : Bool) (w : World), eqCells P m t xs ys = some r →
    (Op.equalIn (d + m) t (asVal P t xs) (asVal P t ys)).run P w = .ok r w
  | 0, _, _, _, _, _, h => by simp [eqCells] at h
  | m + 1, t, xs, ys, r, w, h => by
    cases hu : P.underlying t with
    | none => simp [eqCells, hu] at h
    | some dd =>
      obtain ⟨i, hi⟩ := info_of_underlying hu
      cases dd
      case bool =>
        simp only [eqCells, hu] at h
        split at h
        · simp only [Option.some.injEq] at h
          subst h
          simp [asVal, isAggT, hu, Op.equalIn, run_underlying hu]
        · cases h
      case int q =>
        simp only [eqCells, hu] at h
        split at h
        · split at h
          · rename_i hk
            subst hk
            simp only [Option.some.injEq] at h
            subst h
            simp [asVal, isAggT, hu, Op.equalIn, run_underlying hu]
          · cases h
        · cases h
      case string =>
        simp only [eqCells, hu] at h
        split at h
        · simp only [Option.some.injEq] at h
          subst h
          simp [asVal, isAggT, hu, Op.equalIn, run_underlying hu]
        · cases h
      case array n e =>
        simp only [eqCells, hu] at h
        have hag : isAggT P t = true := by simp [isAggT, hu]
        simp only [asVal, hag, if_true]
        split at h
        case isFalse => cases h
        case isTrue hse =>
          obtain ⟨ie, hie⟩ := Option.isSome_iff_exists.1 hse
          rw [show d + (m + 1) = (d + m) + 1 from rfl, run_equalIn_array w (d + m) _ _ hu hie]
          generalize List.range n = is at h
          induction is generalizing r with
          | nil => simp [allO] at h; subst h; simp [Op.eqItems]
          | cons j is ih =>
            rw [List.map_cons] at h
            cases h1 : eqCells P m e (chunk xs (j * P.cellsOf e) (P.cellsOf e)) (chunk ys (j * P.cellsOf e) (P.cellsOf e)) with
            | none => simp [allO, h1] at h
            | some b =>
              rw [h1] at h
              simp only [allO] at h
              split at h
              · cases h
              · rename_i r' h2
                simp only [Option.some.injEq] at h
                subst h
                have p1 := run_part_of (P := P) w (.inl h1)
                have p2 := run_part_of (P := P) w (.inr h1)
                have p3 := run_equalIn_cells d m e _ _ b w h1
                simp only [Op.eqItems, Sem.run_bind, p1, p2, p3, Result.andThen_ok]
                cases b
                · simp
                · simpa using ih r' h2
      case struct fs =>
        simp only [eqCells, hu] at h
        split at h
        · cases h
        · rename_i hst
          have hag : isAggT P t = true := by simp [isAggT, hu]
          have hf : P.fieldsOf t = fs := by simp [Program.fieldsOf, hu]
          simp only [asVal, hag, if_true]
          rw [show d + (m + 1) = (d + m) + 1 from rfl, run_equalIn_struct w (d + m) t _ _ (by rw [hf]; exact hu) (by simpa using hst), hf]
          generalize fs.toList = l at h
          clear hf hag
          induction l generalizing r with
          | nil => simp [allO] at h; subst h; simp [Op.eqFields]
          | cons f l ih =>
            rw [List.map_cons] at h
            by_cases hn : f.name = "_"
            · simp [hn, allO] at h
            · simp only [hn, if_false] at h
              cases h1 : eqCells P m f.type (chunk xs f.offset (P.cellsOf f.type)) (chunk ys f.offset (P.cellsOf f.type)) with
              | none => simp [allO, h1] at h
              | some b =>
                rw [h1] at h
                simp only [allO] at h
                split at h
                · cases h
                · rename_i r' h2
                  simp only [Option.some.injEq] at h
                  subst h
                  have p1 := run_part_of (P := P) w (.inl h1)
                  have p2 := run_part_of (P := P) w (.inr h1)
                  have p3 := run_equalIn_cells d m f.type _ _ b w h1
                  simp only [Op.eqFields, ne_eq, hn, not_false_eq_true, if_true, Sem.run_bind, p1, p2, p3, Result.andThen_ok]
                  cases b
                  · simp
                  · simpa using ih r' h2
      all_goals (simp [eqCells, hu] at h; done)

/-- 'x == y' of aggregates. -/
theorem run_eql_cells (m : Nat) (hm : m ≤ 10000) {t : TypeId} {xs ys : Array Value} {r : Bool} (hag : isAggT P t = true) (h : eqCells P m t xs.toList ys.toList = some r) :
    ∀ w : World, (binOp .eql t (.agg xs) (.agg ys)).run P w = .ok (.bool r) w := by
  intro w
  have h1 := run_equalIn_cells (P := P) (10000 - m) m t xs.toList ys.toList r w h
  rw [Nat.sub_add_cancel hm] at h1
  simp only [asVal, hag, if_true, Array.toArray_toList] at h1
  simp only [binOp, Op.equal, Op.maxDepth, Sem.run_bind, h1, Result.andThen_ok, Sem.run_pure]
theorem run_neq_cells (m : Nat) (hm : m ≤ 10000) {t : TypeId} {xs ys : Array Value} {r : Bool} (hag : isAggT P t = true) (h : eqCells P m t xs.toList ys.toList = some r) :
    ∀ w : World, (binOp .neq t (.agg xs) (.agg ys)).run P w = .ok (.bool (!r)) w := by
  intro w
  have h1 := run_equalIn_cells (P := P) (10000 - m) m t xs.toList ys.toList r w h
  rw [Nat.sub_add_cancel hm] at h1
  simp only [asVal, hag, if_true, Array.toArray_toList] at h1
  simp only [binOp, Op.equal, Op.maxDepth, Sem.run_bind, h1, Result.andThen_ok, Sem.run_pure]
end
end Go.Proofs.YtebpacmhdkgfeaaDoor
