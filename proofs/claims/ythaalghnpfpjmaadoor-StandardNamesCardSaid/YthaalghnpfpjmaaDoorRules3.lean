import Derived.Test.YthaalghnpfpjmaaDoorRules2
set_option linter.all false
/-! Own words: range over a string. -/
namespace Go.Sv
open Go.RowKit
/-- The object at b among what is held. -/
class FindB (H : HProp) (b : Nat) (o : outParam Obj) (R : outParam HProp) : Prop where
  out : Split H (blk b o) R
instance (priority := 900) {b : Nat} {o : Obj} {R : HProp} : FindB (star (blk b o) R) b o R := ⟨Split.here⟩
instance (priority := 800) {b : Nat} {o : Obj} : FindB (blk b o) b o emp := ⟨Split.last⟩
instance (priority := 700) {B H R : HProp} {b : Nat} {o : Obj} [h : FindB H b o R] : FindB (star B H) b o (star B R) := ⟨Split.there h.out⟩
section
variable {P : Program} {Q : Exit → Act → World → Prop} {K : Act → World → Prop} {β : Base} {a : Act} {w : World} {n : Nat} {D : List Deferred} {E : List (Nat × Value)} {ty : TypeId} {pos : String} {after : Array Edge} {H R : HProp}
theorem Mem.cutO (h : Mem β w H) (b : Nat) {o : Obj} [f : FindB H b o R] : Mem β w R := (h.split f.out).drop
theorem rangeStr (hE : Env n D a E) (hM : Mem β w H) {t : Nat} {x : Operand} {d : Nat} {s : ByteArray} (ht : stringB P t = true) (hx : evE E x = some (.string s)) (hd : Nat.blt d n = true)
    (h : ∀ b a' w', Env n D a' ((d, .pointer (some ⟨b, 0, none⟩)) :: E) → Mem β w' (star (blk b (.stringIter s 0)) H) → K a' w') :
    Oper.wp P { dst := some d, op := .range t x, type := ty, pos, after, guard := none } a w K Q := by
  have hr : Runs P (.range t x) ty a w (.pointer (some ⟨w.heap.size, 0, none⟩)) { w with heap := w.heap.push (.stringIter s 0) } := fun _ _ _ _ => by
    have hu : P.underlying t = some .string := by
      unfold stringB at ht
      cases hu : P.underlying t with
      | none => rw [hu] at ht; cases ht
      | some d => rw [hu] at ht; cases d <;> first | rfl | (cases ht; done)
    simp [execOp, hE.ev hx, Instr.range, run_underlying hu]
  exact val hE hr hd fun a' hE' => h _ a' _ hE' (hM.new _)
theorem run_getIter {b : Nat} {s : ByteArray} {p : Nat} (hb : w.heap[b]? = some (.stringIter s p)) : (getObj b).run P w = .ok (.stringIter s p) w := by
  simp [getObj, Sem.run, hb]
theorem run_setIter {b : Nat} {s : ByteArray} {p : Nat} {o : Obj} (hb : w.heap[b]? = some (.stringIter s p)) (ho : (match o with | .stringIter .. => true | _ => false) = true) : (setObj b o).run P w = .ok () { w with heap := w.heap.setIfInBounds b o } := by
  cases o <;> first | (cases ho; done) | simp [setObj, Sem.run, hb]
theorem nextStr (hE : Env n D a E) {x : Operand} {d b : Nat} {s : ByteArray} {p : Nat} (hx : evE E x = some (.pointer (some ⟨b, 0, none⟩))) (hM : Mem β w H) [hs : FindB H b (.stringIter s p) R] (hd : Nat.blt d n = true)
    (h1 : p < s.size → ∀ a' w', Env n D a' ((d, .tuple #[.bool true, .int .i64 p, .int .i32 (Utf8.decode s p).1]) :: E) → Mem β w' (star (blk b (.stringIter s (p + (Utf8.decode s p).2))) R) → K a' w')
    (h2 : ¬ p < s.size → ∀ a', Env n D a' ((d, .tuple #[.bool false]) :: E) → Mem β w H → K a' w) :
    Oper.wp P { dst := some d, op := .next x true, type := ty, pos, after, guard := none } a w K Q := by
  have hb := Mem.blk (hM.split hs.out)
  by_cases hp : p < s.size
  · have hr : Runs P (.next x true) ty a w (.tuple #[.bool true, .int .i64 p, .int .i32 (Utf8.decode s p).1]) { w with heap := w.heap.setIfInBounds b (.stringIter s (p + (Utf8.decode s p).2)) } := fun _ _ _ _ => by
      simp [execOp, hE.ev hx, Instr.next, run_getIter hb, run_setIter hb, hp, goInt]
    refine val hE hr hd fun a' hE' => h1 hp a' _ hE' (Mem.turn (hM.split hs.out) rfl ?_ ?_)
    · have := (Array.getElem?_eq_some_iff.1 hb).1
      simp [this]
    · intro c hc _
      simp [Array.getElem?_setIfInBounds, Ne.symm hc]
  · have hr : Runs P (.next x true) ty a w (.tuple #[.bool false]) w := fun _ _ _ _ => by
      simp [execOp, hE.ev hx, Instr.next, run_getIter hb, hp]
    exact val hE hr hd fun a' hE' => h2 hp a' hE' hM
theorem decode_ascii {s : ByteArray} {i : Nat} (h : (s.get! i).toNat < 128) : Utf8.decode s i = ((s.get! i).toNat, 1) := by
  simp [Utf8.decode, h]
end
end Go.Sv
