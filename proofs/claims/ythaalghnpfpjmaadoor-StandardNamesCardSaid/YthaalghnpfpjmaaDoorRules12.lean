import Derived.Test.YthaalghnpfpjmaaDoorRules4
import Derived.Test.YthaalghnpfpjmaaDoorScope
import Derived.Laws.Strings2
import Derived.Recover
import Derived.WideLaws
set_option linter.all false
/-! Own words: strings of runes, parts of strings; a scope that nothing jumps in. -/
namespace Go.Sv
open Go.RowKit
section
variable {P : Program} {Q : Exit → Act → World → Prop} {K : Act → World → Prop} {β : Base} {a : Act} {w : World} {n : Nat} {D : List Deferred} {E : List (Nat × Value)} {ty : TypeId} {pos : String} {after : Array Edge} {H R : HProp}
theorem scope0 {c : Code} (h : ∀ K : Nat → Act → World → Prop, c.wp P (Exit.to K Q) a w) : (Code.scope c).wp P Q a w :=
  scopeR (σ := Unit) (fun _ _ _ _ => False) (fun _ => 0) (fun K _ => h K) fun _ _ _ _ h => h.elim
theorem R.runeStr (hE : Env n D a E) {s t : TypeId} {x : Operand} {r : Int} {k : IntKind} (hs : P.underlying s = some (.int k)) (ht : P.underlying t = some .string) (hx : evE E x = some (.int k r)) :
    Runs P (.convert s t x) ty a w (.string (Utf8.encode r)) w := fun _ _ _ _ => by
  simp [execOp, hE.ev hx, convert, run_underlying hs, run_underlying ht, Conv.intToString]
theorem R.strFrom (hE : Env n D a E) {t : TypeId} {x y : Operand} {s : ByteArray} {i : Int} (ht : stringB P t = true) (hx : evE E x = some (.string s)) (hy : evE E y = some (.int .i64 i)) (lo : Nat) (hi : i = lo) (hl : lo ≤ s.size) :
    Runs P (.slice t x (some y) none none) ty a w (.string (s.extract lo s.size)) w := fun _ _ _ _ => by
  have h := stringB_spec ht
  subst hi
  simp [execOp, hE.ev hx, hE.ev hy, Instr.sliceAt, Instr.slice, run_underlying h, Instr.sliceBounds, Instr.sliceBound, asIntOf, hl]
theorem R.strSub (hE : Env n D a E) {t : TypeId} {x y z : Operand} {s : ByteArray} {i j : Int} (ht : stringB P t = true) (hx : evE E x = some (.string s)) (hy : evE E y = some (.int .i64 i)) (hz : evE E z = some (.int .i64 j)) (lo hi : Nat) (h1 : i = lo) (h2 : j = hi) (h3 : lo ≤ hi) (h4 : hi ≤ s.size) :
    Runs P (.slice t x (some y) (some z) none) ty a w (.string (s.extract lo hi)) w := fun _ _ _ _ => by
  have h := stringB_spec ht
  subst h1 h2
  simp [execOp, hE.ev hx, hE.ev hy, hE.ev hz, Instr.sliceAt, Instr.slice, run_underlying h, Instr.sliceBounds, Instr.sliceBound, asIntOf, h3, h4]
end
end Go.Sv
namespace Go.Sv
open Go.RowKit
theorem R.strIndexV {P : Program} {a : Act} {w : World} {n : Nat} {D : List Deferred} {E : List (Nat × Value)} {ty : TypeId} (hE : Env n D a E) {t : TypeId} (ht : stringB P t = true) {x y : Operand} {s : ByteArray} {k : IntKind} {i : Int} (hx : evE E x = some (.string s)) (hy : evE E y = some (.int k i)) (j : Nat) (hi : i = j) {c : UInt8} (hc : s.data.toList[j]? = some c) :
    Runs P (.index t x y) ty a w (.int .u8 c.toNat) w := by
  obtain ⟨hl, rfl⟩ := List.getElem?_eq_some_iff.1 hc
  exact R.strIndex hE ht hx hy j hi (by simpa using hl)
end Go.Sv
namespace Go.Sv
theorem Mem.belowAt {β : Base} {w w' : World} {H : HProp} (h : Mem β w H) (hb : Go.RowKit.Below w.heap.size w w') : Mem β w' H := by
  obtain ⟨hB, f, hf, hh⟩ := h
  refine ⟨?_, f, hf, fun k o hk => ?_⟩
  · rw [← hB]; unfold World.base; rw [hb.os, hb.tape, hb.output]
  · have h1 := hh k o hk
    rw [hb.block k (Array.getElem?_eq_some_iff.1 h1).1]; exact h1
end Go.Sv
/-! Own words: deferred calls, recover, and what a call that defers hands back. -/
namespace Go.Sv
open Go.RowKit
section
variable {P : Program} {Q : Exit → Act → World → Prop} {K : Act → World → Prop} {β : Base} {a : Act} {w : World} {n : Nat} {D : List Deferred} {E : List (Nat × Value)} {ty : TypeId} {pos : String} {after : Array Edge} {H R : HProp}
theorem deferR (hE : Env n D a E) {t : Nat} {f : FuncId} {caps : Array Value} {ts : Array TypeId} (hl : lookE E t = some (.func (.func f) #[] caps))
    (h : ∀ a', Env n ({ target := .fn (.func f) caps, args := #[] } :: D) a' E → K a' w) :
    Oper.wp P { dst := none, op := .defer { callee := .value (.tmp t), args := #[], argTypes := ts }, type := ty, pos, after, guard := none } a w K Q := by
  unfold Oper.wp
  have h2 : a.eval (.tmp t) = .func (.func f) #[] caps := hE.ev (x := .tmp t) hl
  have hrun : (execOp a.eval { dst := none, op := .defer { callee := .value (.tmp t), args := #[], argTypes := ts }, type := ty, pos, after, guard := none }).run P w = .ok (.defer { target := .fn (.func f) caps, args := #[] }) w := by
    simp [execOp, resolve, Deferred.ofValue, h2]
  rw [hrun]
  simp only [Oper.upon]
  refine h _ ⟨?_, ?_, ?_⟩
  · simpa [Act.put] using hE.size
  · simp [Act.put, hE.defers]
  · intro t v hv
    simpa [Act.put] using hE.look t v hv
theorem enterD {f : FuncId} {fn : Func} {c : Code} {args : List Value} {R : Ending → World → Prop} (hf : P.funcs[f]? = some fn) (hb : fn.body = some c) (n : Nat) (hn : fn.ntmps = n) (hk : Nat.ble args.length n = true)
    (h : ∀ a, Env n [] a (argE 0 args) → c.wp P (bodyPostD P fn R) a w) : Calls P f args.toArray w R := by
  subst hn
  exact calls_of_wp_defers hf hb (h _ (Env.args args _ hk))
theorem loadVar_run {b Eb t : Nat} {v : Value} {F : HProp} (ht : scalarB P t = true) (hM : Mem β w (star (pts b Eb [v]) F)) : (loadVar t ⟨b, 0, none⟩).run P w = .ok v w := by
  have hc := hM.cell (j := 0) (v := v) rfl
  have ⟨h1, _⟩ := scalarB_spec ht w
  simp [loadVar, h1, hc]
theorem results_cells3 {fn : Func} {x y z : Nat} {tx ty tz bx bY bz Ex Ey Ez : Nat} {vx vy vz : Value} {F : HProp} (hE : Env n D a E) (hr : fn.results = #[.cell x tx, .cell y ty, .cell z tz])
    (hx : lookE E x = some (.pointer (some ⟨bx, 0, none⟩))) (hy : lookE E y = some (.pointer (some ⟨bY, 0, none⟩))) (hz : lookE E z = some (.pointer (some ⟨bz, 0, none⟩)))
    (sx : scalarB P tx = true) (sy : scalarB P ty = true) (sz : scalarB P tz = true) (hM : Mem β w (star (pts bx Ex [vx]) (star (pts bY Ey [vy]) (star (pts bz Ez [vz]) F)))) : (results fn a.tmps).run P w = .ok (.tuple #[vx, vy, vz]) w := by
  have h1 := loadVar_run sx hM
  have h2 := loadVar_run sy (hM.cast (star_left _ _ _))
  have h3 := loadVar_run sz (hM.drop.cast (star_left _ _ _))
  have l1 := hE.look x _ hx
  have l2 := hE.look y _ hy
  have l3 := hE.look z _ hz
  simp [results, hr, l1, l2, l3, asAddr, h1, h2, h3]
/-- A region that begins a deferred body: recover, and its value into a variable. -/
theorem recoverR {id d1 d2 : Nat} {t1 t2 : TypeId} {p1 p2 : String} {af1 af2 : Array Edge} {ts : Array TypeId} {QS : Exit → Act → List Frame → World → Prop} {cs cs' : List Frame} {v : Value} (hE : Env n D a E) (h1 : Nat.blt d1 n = true) (h2 : Nat.blt d2 n = true)
    (hrec : (match recoverD cs with | some (v, cs') => (v, cs') | none => (.nilIface, cs)) = (v, cs')) (h : ∀ a', Env n D a' ((d2, v) :: (d1, v) :: E) → QS .normal a' cs' w) :
    (Code.region id #[{ dst := some d1, op := .call { callee := .builtin .recover, args := #[], argTypes := ts }, type := t1, pos := p1, after := af1, guard := none }, { dst := some d2, op := .assign (.tmp d1), type := t2, pos := p2, after := af2, guard := none }] false).wpS P QS a cs w := by
  apply wpS_region
  have hE1 := hE.put d1 v h1
  have hE2 := hE1.put d2 v h2
  have hev : (a.put (some d1) v).eval (.tmp d1) = v := hE1.ev (x := .tmp d1) (by show lookE _ d1 = _; rw [lookE, Nat.beq_refl]; rfl)
  have hfin := h _ hE2
  show wpOpsS P _ QS [0, 1] a cs w
  cases hr : recoverD cs with
  | none =>
    rw [hr] at hrec
    cases hrec
    simp [wpOpsS, Region.wanted, execOp, resolve, invoke, builtin, hr, Oper.upon, hev]
    exact hfin
  | some q =>
    obtain ⟨v0, cs0⟩ := q
    rw [hr] at hrec
    cases hrec
    simp [wpOpsS, Region.wanted, execOp, resolve, invoke, builtin, hr, Oper.upon, hev]
    exact hfin
theorem R.neqNil (hE : Env n D a E) {t yt : TypeId} {x y : Operand} {u : TypeId} {v : Value} (ht : (match P.underlying t with | some (.interface _) => true | _ => false) = true) (hx : evE E x = some (.iface u v)) (hy : evE E y = some .nilIface) :
    Runs P (.binOp .neq t x y yt) ty a w (.bool true) w := fun _ _ _ _ => by
  have hu : ∃ ms, P.underlying t = some (.interface ms) := by
    split at ht
    · rename_i ms h; exact ⟨ms, h⟩
    · cases ht
  obtain ⟨ms, hu⟩ := hu
  have := run_neq_held_nil (P := P) w t u v (by simp [Program.methodsAt, hu])
  simp [execOp, hE.ev hx, hE.ev hy, eqGuard, this]
theorem R.neqNilNil (hE : Env n D a E) {t yt : TypeId} {x : Operand} (ht : (match P.underlying t with | some (.interface _) => true | _ => false) = true) (hx : evE E x = some .nilIface) :
    Runs P (.binOp .neq t x (.const .nilIface) yt) ty a w (.bool false) w := fun _ _ _ _ => by
  have hu : ∃ ms, P.underlying t = some (.interface ms) := by
    split at ht
    · rename_i ms h; exact ⟨ms, h⟩
    · cases ht
  obtain ⟨ms, hu⟩ := hu
  have := run_neq_nil_nil (P := P) w t (by simp [Program.methodsAt, hu])
  have hc : a.eval (.const .nilIface) = .nilIface := rfl
  simp [execOp, hE.ev hx, hc, eqGuard, this]
theorem R.assertOk (hE : Env n D a E) {x : Operand} {ti t : TypeId} {v : Value} (hr : ∀ w, (Instr.typeAssert (.iface t v) ti t true).run P w = .ok (.tuple #[v, .bool true]) w) (hx : evE E x = some (.iface t v)) :
    Runs P (.typeAssert x ti t true) ty a w (.tuple #[v, .bool true]) w := fun _ _ _ _ => by
  have h := hr w
  simp [execOp, hE.ev hx, h]
end
end Go.Sv
namespace Go.Sv
theorem attrsOf_nil (A : Nat) : attrsOf A [] = emp := rfl
end Go.Sv
namespace Go.Sv
theorem wp_mono {P : Program} {c : Code} {Q Q' : Exit → Act → World → Prop} {a : Act} {w : World} (h : c.wp P Q' a w) (hq : ∀ e a w, Q' e a w → Q e a w) : c.wp P Q a w :=
  fun b k cs => let ⟨e, a', w', q, r⟩ := h b k cs; ⟨e, a', w', hq _ _ _ q, r⟩
end Go.Sv
/-! Own words: a method that an interface value has. -/
namespace Go.Sv
open Go.RowKit
section
variable {P : Program} {Q : Exit → Act → World → Prop} {K : Act → World → Prop} {β : Base} {a : Act} {w : World} {n : Nat} {D : List Deferred} {E : List (Nat × Value)} {ty : TypeId} {pos : String} {after : Array Edge} {H R : HProp}
theorem callI (hE : Env n D a E) {d : Nat} {f : FuncId} {t : TypeId} {nm : String} {x : Operand} {ts : Array TypeId} {u v : Value} {r : Value} (hx : evE E x = some (.iface t u)) (hm : ∀ w, (method (P.types.size + Made.depth) t u nm).run P w = .ok (f, v) w) (hS : Fn P f [v] r) (hc : callB P f = true) (hM : Mem β w H) (hd : Nat.blt d n = true)
    (h : ∀ a' w', Env n D a' ((d, r) :: E) → Mem β w' H → K a' w') :
    Oper.wp P { dst := some d, op := .call { callee := .invoke x nm, args := #[], argTypes := ts }, type := ty, pos, after, guard := none } a w K Q := by
  unfold Oper.wp
  have hrun : (execOp a.eval { dst := some d, op := .call { callee := .invoke x nm, args := #[], argTypes := ts }, type := ty, pos, after, guard := none }).run P w = .ok (.enter f #[v]) w := by
    have h2 := hE.ev hx
    have h3 := callB_spec hc #[v] w
    simp [execOp, resolve, invoke, callMethod, h2, hm, h3]
  rw [hrun, Oper.upon_enter]
  refine (hS β w H hM.emp).mono fun e w'' hh => ?_
  obtain ⟨v2, rfl, hm2⟩ := hh
  obtain ⟨e, m2⟩ := hm2.fact
  subst e
  exact h _ _ (hE.put d _ hd) m2
end
end Go.Sv
namespace Go.Sv
theorem attrs_four (A : Nat) (a b c d : TokV) : attrsOf A [a, b, c, d] = star (row A 2 encAttr a.ad a.cap a.t.attrs) (star (row A 2 encAttr b.ad b.cap b.t.attrs) (star (row A 2 encAttr c.ad c.cap c.t.attrs) (star (row A 2 encAttr d.ad d.cap d.t.attrs) emp))) := rfl
end Go.Sv
