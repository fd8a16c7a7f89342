import Derived.Test.YthaalghnpfpjmaaDoorOps
set_option linter.all false
/-! Own words: entering a function, its return, what its regions end in. -/
namespace Go.Sv
open Go.RowKit
section
variable {P : Program} {Q : Exit → Act → World → Prop} {β : Base} {a : Act} {w : World} {n : Nat} {D : List Deferred} {E : List (Nat × Value)} {H F : HProp}

/-- The function's end: its results, and what is held then. -/
def Back (P : Program) (fn : Func) (β : Base) (R : Value → HProp) (F : HProp) (a : Act) (w : World) : Prop :=
  a.defers = [] ∧ ∃ v, (results fn a.tmps).run P w = .ok v w ∧ Mem β w (star (R v) F)
theorem enter {f : FuncId} {fn : Func} {c : Code} {args : List Value} {R : Value → HProp} (hf : P.funcs[f]? = some fn) (hb : fn.body = some c) (n : Nat) (hn : fn.ntmps = n) (hk : Nat.ble args.length n = true)
    (h : ∀ (a : Act) (Q : Exit → Act → World → Prop), Env n [] a (argE 0 args) → (∀ a w, Back P fn β R F a w → Q .ret a w) → (∀ a w, Back P fn β R F a w → Q .normal a w) → (∀ c a a' w, a.defers = a'.defers → Q (.panic c) a w → Q (.panic c) a' w) → c.wp P Q a w) :
    Calls P f args.toArray w fun e w' => ∃ v, e = .returned v ∧ Mem β w' (star (R v) F) := by
  subst hn
  refine calls_of_wp hf hb (h _ _ (Env.args args _ hk) ?_ ?_ ?_)
  · rintro a w ⟨h1, v, h2, h3⟩
    exact ⟨h1, v, h2, v, rfl, h3⟩
  · rintro a w ⟨h1, v, h2, h3⟩
    exact ⟨h1, v, h2, v, rfl, h3⟩
  · rintro c a a' w hd ⟨h1, h2⟩
    exact ⟨hd ▸ h1, h2⟩
theorem back0 {fn : Func} {R : Value → HProp} (hE : Env n [] a E) (hr : fn.results = #[]) (hM : Mem β w (star (R (.tuple #[])) F)) : Back P fn β R F a w :=
  ⟨hE.defers, _, by simp [results, hr], hM⟩
theorem Env.getD (hE : Env n D a E) {t : Nat} {v : Value} (hl : lookE E t = some v) : a.tmps.getD t undef = v := by
  have := hE.look t v hl
  simp [this]
theorem back1 {fn : Func} {R : Value → HProp} (hE : Env n [] a E) {t : Nat} (hr : fn.results = #[.tmp t]) {v : Value} (hl : lookE E t = some v) (hM : Mem β w (star (R v) F)) : Back P fn β R F a w :=
  ⟨hE.defers, _, by rw [results_tmp hr, hE.getD hl], hM⟩
theorem back2 {fn : Func} {R : Value → HProp} (hE : Env n [] a E) {t u : Nat} (hr : fn.results = #[.tmp t, .tmp u]) {v x : Value} (hl : lookE E t = some v) (hl' : lookE E u = some x) (hM : Mem β w (star (R (.tuple #[v, x])) F)) : Back P fn β R F a w :=
  ⟨hE.defers, _, by rw [results_tmp2 hr, hE.getD hl, hE.getD hl'], hM⟩
theorem back3 {fn : Func} {R : Value → HProp} (hE : Env n [] a E) {t u s : Nat} (hr : fn.results = #[.tmp t, .tmp u, .tmp s]) {v x y : Value} (hl : lookE E t = some v) (hl' : lookE E u = some x) (hl'' : lookE E s = some y) (hM : Mem β w (star (R (.tuple #[v, x, y])) F)) : Back P fn β R F a w :=
  ⟨hE.defers, _, by have := hE.getD hl; have := hE.getD hl'; have := hE.getD hl''; simp_all [results], hM⟩

/-- The region that ends a body. -/
theorem lastR {id : Nat} {l : List Oper} (h : wpList P l.toArray Q l a w) : (Code.region id l.toArray false).wp P Q a w := wp_region_lit h
/-- An operation of a plain region. -/
theorem one {ops : Array Oper} {rest : List Oper} {dst : Option Tmp} {op : Op} {ty : TypeId} {pos : String} {after : Array Edge}
    (h : ∀ K : Act → World → Prop, (∀ a w, wpList P ops Q rest a w → K a w) → Oper.wp P { dst, op, type := ty, pos, after, guard := none } a w K Q) :
    wpList P ops Q ({ dst, op, type := ty, pos, after, guard := none } :: rest) a w := wpList_plain rfl h
/-- The guard is met. -/
theorem oneOn {ops : Array Oper} {rest : List Oper} {dst : Option Tmp} {op : Op} {ty : TypeId} {pos : String} {after : Array Edge} {j : Nat} {want : Bool} {d : Nat} {t : Bool} (hE : Env n D a E) (hj : (ops[j]?).bind (·.dst) = some d) (hl : lookE E d = some (.bool t)) (ht : t = want)
    (h : ∀ K : Act → World → Prop, (∀ a w, wpList P ops Q rest a w → K a w) → Oper.wp P { dst, op, type := ty, pos, after, guard := none } a w K Q) :
    wpList P ops Q ({ dst, op, type := ty, pos, after, guard := some (j, want) } :: rest) a w := by
  have h1 : Region.wanted { dst, op, type := ty, pos, after, guard := some (j, want) } (yielded ops a.tmps) = true := by
    simp [Region.wanted, yielded, hj, hE.look d _ hl, ht]
  unfold wpList
  rw [if_pos h1]
  exact .inl (h _ fun _ _ h => h)
/-- The guard is not met: the operation is left out. -/
theorem oneOff {ops : Array Oper} {rest : List Oper} {d' : Nat} {op : Op} {ty : TypeId} {pos : String} {after : Array Edge} {j : Nat} {want : Bool} {d : Nat} {t : Bool} (hE : Env n D a E) (hj : (ops[j]?).bind (·.dst) = some d) (hl : lookE E d = some (.bool t)) (ht : t = !want) (hd : Nat.blt d' n = true)
    (h : ∀ a', Env n D a' ((d', undef) :: E) → wpList P ops Q rest a' w) : wpList P ops Q ({ dst := some d', op, type := ty, pos, after, guard := some (j, want) } :: rest) a w := by
  have h1 : Region.wanted { dst := some d', op, type := ty, pos, after, guard := some (j, want) } (yielded ops a.tmps) = false := by
    subst ht
    simp [Region.wanted, yielded, hj, hE.look d _ hl]
  unfold wpList
  rw [if_neg (by rw [h1]; simp)]
  exact h _ (hE.put d' undef hd)
/-- The guard itself was left out. -/
theorem oneOffU {ops : Array Oper} {rest : List Oper} {d' : Nat} {op : Op} {ty : TypeId} {pos : String} {after : Array Edge} {j : Nat} {want : Bool} {d : Nat} (hE : Env n D a E) (hj : (ops[j]?).bind (·.dst) = some d) (hl : lookE E d = some undef) (hd : Nat.blt d' n = true)
    (h : ∀ a', Env n D a' ((d', undef) :: E) → wpList P ops Q rest a' w) : wpList P ops Q ({ dst := some d', op, type := ty, pos, after, guard := some (j, want) } :: rest) a w := by
  have h1 : Region.wanted { dst := some d', op, type := ty, pos, after, guard := some (j, want) } (yielded ops a.tmps) = false := by
    simp [Region.wanted, yielded, hj, hE.look d _ hl, undef]
  unfold wpList
  rw [if_neg (by rw [h1]; simp)]
  exact h _ (hE.put d' undef hd)
theorem eqInt {k : IntKind} {i j : Int} (h : i = j) : some (Value.int k i) = some (Value.int k j) := by rw [h]
theorem splitE {x : Operand} {t : Bool} {p : Prop} (hE : Env n D a E) (hx : evE E x = some (.bool t)) (h1 : t = true → p) (h2 : t = false → p) : p := by
  cases t
  · exact h2 rfl
  · exact h1 rfl
theorem condT {c : Operand} {x y : Code} {t : Bool} (hE : Env n D a E) (hc : evE E c = some (.bool t)) (ht : t = true) (h : x.wp P Q a w) : (Code.cond c x y).wp P Q a w :=
  wp_cond_true (by rw [hE.ev hc, ht]) h
theorem condF {c : Operand} {x y : Code} {t : Bool} (hE : Env n D a E) (hc : evE E c = some (.bool t)) (ht : t = false) (h : y.wp P Q a w) : (Code.cond c x y).wp P Q a w :=
  wp_cond_false (by rw [hE.ev hc, ht]) h
theorem exitThen {K : Act → World → Prop} {id : Nat} (h : Q (.exit id) a w) : Exit.then K Q (.exit id) a w := h
theorem gotoThen {K : Act → World → Prop} {id : Nat} (h : Q (.goto id) a w) : Exit.then K Q (.goto id) a w := h
theorem exitIn {id : Nat} (h : Q .normal a w) : Exit.inBlock id Q (.exit id) a w := by simpa [Exit.inBlock] using h
theorem exitOut {id id' : Nat} (hne : Nat.beq id' id = false) (h : Q (.exit id') a w) : Exit.inBlock id Q (.exit id') a w := by
  have : id' ≠ id := fun e => by subst e; simp at hne
  simpa [Exit.inBlock, this] using h
theorem splitT {E : List (Nat × Value)} {x : Operand} {t : Bool} {p : Prop} (_ : evE E x = some (.bool t)) (h1 : t = true → p) (h2 : t = false → p) : p := by
  cases t
  · exact h2 rfl
  · exact h1 rfl
end
end Go.Sv
