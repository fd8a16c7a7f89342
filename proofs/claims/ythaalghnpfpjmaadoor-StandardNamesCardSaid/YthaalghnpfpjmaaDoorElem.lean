import Derived.Test.YthaalghnpfpjmaaDoorDraw
set_option linter.all false
/-! Own words: elements of rows that are read and written. -/
namespace Go.Sv
open Go.RowKit
def ptrAt (a : Option Addr) (k : Nat) : Value := .pointer (a.map fun x => ⟨x.block, x.off + k, none⟩)
section
variable {P : Program} {β : Base} {a : Act} {w : World} {n : Nat} {D : List Deferred} {E : List (Nat × Value)} {ty : TypeId} {H R0 : HProp} {α : Type} {Eb sz cap : Nat} {enc : α → List Value} {xs : List α} {ad : Option Addr}
theorem Mem.row_some (h : Mem β w (star (row Eb sz enc ad cap xs) R0)) (hn : 0 < xs.length) : ∃ g, ad = some ⟨g, 0, none⟩ := by
  obtain ⟨_, _, ⟨f, g, _, _, ⟨_, h1⟩, _⟩, _⟩ := h
  rcases h1 with ⟨rfl, _, _⟩ | ⟨g', _, rfl, _⟩
  · simp at hn
  · exact ⟨g', rfl⟩
theorem R.indexRow {t : TypeId} {x y : Operand} {l c : Nat} {k : IntKind} {i : Int} (hE : Env n D a E) (e z : Nat) (ht : sliceB P t e z = true) (hx : evE E x = some (.slice ad l c)) (hy : evE E y = some (.int k i)) (hM : Mem β w H) [hs : FindRow H ad α Eb sz enc cap xs R0]
    (j : Nat) (hi : i = j) (hl : j < l) (hn : l = xs.length) : Runs P (.indexAddr t x y) ty a w (ptrAt ad (j * z)) w := by
  obtain ⟨g, rfl⟩ := (hM.split hs.out).row_some (by omega)
  have := R.index (ty := ty) (w := w) (P := P) hE e z ht hx hy j hi hl
  simpa [ptrAt] using this
theorem R.loadElem {t : TypeId} {x : Operand} {k : Nat} {el : α} {v : Value} (hE : Env n D a E) (ht : scalarB P t = true) (hx : evE E x = some (ptrAt ad k)) (hM : Mem β w H) [hs : FindRow H ad α Eb sz enc cap xs R0] (j off : Nat) (hk : k = j * sz + off) (hy : xs[j]? = some el) (hv : (enc el)[off]? = some v) :
    Runs P (.load t x) ty a w v w := fun _ _ _ _ => by
  subst hk
  obtain ⟨g, rfl, hc⟩ := (hM.split hs.out).row_cell hy hv
  have ⟨h1, _⟩ := scalarB_spec ht w
  simp [execOp, hE.ev hx, ptrAt, Instr.loadAt, Instr.sureAddr, loadVar, h1, hc]
theorem R.fieldElem (hE : Env n D a E) {x : Operand} {k : Nat} (s f off : Nat) (hf : fieldB P s f off = true) (hx : evE E x = some (ptrAt ad k)) (hM : Mem β w H) [hs : FindRow H ad α Eb sz enc cap xs R0] (hn : 0 < xs.length) :
    Runs P (.fieldAddr s x f) ty a w (ptrAt ad (k + off)) w := fun _ _ _ _ => by
  obtain ⟨g, rfl⟩ := (hM.split hs.out).row_some hn
  simp [execOp, hE.ev hx, ptrAt, fieldB_spec hf]
theorem R.loadInt {t : TypeId} {x : Operand} {k : Nat} {zs : List Int} {q : IntKind} {el : Int} (hE : Env n D a E) (ht : scalarB P t = true) (hx : evE E x = some (ptrAt ad k)) (hM : Mem β w H) [hs : FindRow H ad Int Eb 1 (fun i => [Value.int q i]) cap zs R0] (j : Nat) (hk : k = j * 1) (hy : zs[j]? = some el) :
    Runs P (.load t x) ty a w (.int q el) w := R.loadElem hE ht hx hM (hs := hs) j 0 hk hy rfl
theorem getElem?_of_lt {l : List α} {j : Nat} (h : j < l.length) : l[j]? = some (l[j]'h) := by simp [h]
end
end Go.Sv
