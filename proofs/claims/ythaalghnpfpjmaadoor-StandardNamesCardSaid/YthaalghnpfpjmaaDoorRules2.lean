import Derived.Test.YthaalghnpfpjmaaDoorOps2
import Derived.Test.YthaalghnpfpjmaaDoorPlan
set_option linter.all false
/-! Own words: calls that may end in a panic, literals of two. -/
namespace Go.Sv
open Go.RowKit
/-- What such a call leaves: 'v y' if x is 'some y', and a panic with the chain ch if it is none. -/
def Po {α : Type} (ch : List PanicEntry) (x : Option α) (v : α → Value) (H' : α → HProp) (Hn F : HProp) (β : Base) (e : Ending) (w' : World) : Prop :=
  match x with
  | some y => e = .returned (v y) ∧ Mem β w' (star (H' y) F)
  | none => e = .panicked ch ∧ Mem β w' (star Hn F)
def Fo {α : Type} (P : Program) (ch : List PanicEntry) (f : FuncId) (args : List Value) (H : HProp) (x : Option α) (v : α → Value) (H' : α → HProp) (Hn : HProp) : Prop :=
  ∀ (β : Base) (w : World) (F : HProp), Mem β w (star H F) → Calls P f args.toArray w (Po ch x v H' Hn F β)
def concB (P : Program) (t : Nat) : Bool := match P.underlying t with | some (.interface _) => false | some _ => true | none => false
section
variable {P : Program} {Q : Exit → Act → World → Prop} {K : Act → World → Prop} {β : Base} {a : Act} {w : World} {n : Nat} {D : List Deferred} {E : List (Nat × Value)} {ty : TypeId} {pos : String} {after : Array Edge} {H R : HProp}
theorem callO {α : Type} {ch : List PanicEntry} (hE : Env n D a E) {d : Nat} {f : FuncId} {as : List Operand} {ts : Array TypeId} {vs : List Value} {Hp F : HProp} {x : Option α} {v : α → Value} {H' : α → HProp} {Hn : HProp} (hS : Fo P ch f vs Hp x v H' Hn) (hc : callB P f = true) (hargs : evs E as = some vs) (hM : Mem β w (star Hp F)) (hd : Nat.blt d n = true)
    (h2 : x = none → ∀ w', Mem β w' (star Hn F) → Q (.panic ch) a w') (h1 : ∀ y, x = some y → ∀ a' w', Env n D a' ((d, v y) :: E) → Mem β w' (star (H' y) F) → K a' w') :
    Oper.wp P { dst := some d, op := .call { callee := .value (.func f), args := as.toArray, argTypes := ts }, type := ty, pos, after, guard := none } a w K Q := by
  unfold Oper.wp
  have hrun : (execOp a.eval { dst := some d, op := .call { callee := .value (.func f), args := as.toArray, argTypes := ts }, type := ty, pos, after, guard := none }).run P w = .ok (.enter f vs.toArray) w := by
    have := hE.evs hargs
    simp [execOp, resolve, Deferred.ofValue, invoke, Act.eval, callB_spec hc] at this ⊢
    rw [← this]
  rw [hrun, Oper.upon_enter]
  refine (hS β w F hM).mono fun e w'' hh => ?_
  cases x with
  | none => obtain ⟨rfl, hm⟩ := hh; exact h2 rfl _ hm
  | some y => obtain ⟨rfl, hm⟩ := hh; exact h1 y rfl _ _ (hE.put d _ hd) hm
/-- What holds where such a function ends. -/
def Ro {α : Type} (x : Option α) (v : α → Value) (H' : α → HProp) (u : Value) : HProp := any fun y => star (fact (x = some y ∧ u = v y)) (H' y)
theorem Mem.doneO {α : Type} {x : Option α} {v : α → Value} {H' : α → HProp} {u : Value} {F : HProp} (y : α) (hx : x = some y) (hu : u = v y) (h : Mem β w (star (H' y) F)) : Mem β w (star (Ro x v H' u) F) := by
  unfold Ro
  have h2 : Mem β w (star (Sv.fact (x = some y ∧ u = v y)) (star (H' y) F)) := Mem.mkFact ⟨hx, hu⟩ h
  exact Mem.mkAny y (h2.cast (star_assoc _ _ _).symm)
theorem enterO {α : Type} {ch : List PanicEntry} {f : FuncId} {fn : Func} {c : Code} {args : List Value} {x : Option α} {v : α → Value} {H' : α → HProp} {Hn F : HProp} (hf : P.funcs[f]? = some fn) (hb : fn.body = some c) (n : Nat) (hn : fn.ntmps = n) (hk : Nat.ble args.length n = true)
    (h : ∀ (a : Act) (Q : Exit → Act → World → Prop), Env n [] a (argE 0 args) → (∀ a w, Back P fn β (Ro x v H') F a w → Q .ret a w) → (∀ a w, Back P fn β (Ro x v H') F a w → Q .normal a w) → (∀ c a a' w, a.defers = a'.defers → Q (.panic c) a w → Q (.panic c) a' w) →
      (∀ a w, a.defers = [] → x = none → Mem β w (star Hn F) → Q (.panic ch) a w) → c.wp P Q a w) :
    Calls P f args.toArray w (Po ch x v H' Hn F β) := by
  subst hn
  refine calls_of_wp hf hb (h _ _ (Env.args args _ hk) ?_ ?_ ?_ ?_)
  · rintro a w ⟨h1, u, h2, h3⟩
    obtain ⟨y, h3⟩ := Mem.any h3
    have h4 : Mem β w (star (fact (x = some y ∧ u = v y)) (star (H' y) F)) := h3.cast (star_assoc _ _ _)
    obtain ⟨⟨hx, hu⟩, h5⟩ := h4.fact
    subst hx
    exact ⟨h1, u, h2, by rw [hu], h5⟩
  · rintro a w ⟨h1, u, h2, h3⟩
    obtain ⟨y, h3⟩ := Mem.any h3
    have h4 : Mem β w (star (fact (x = some y ∧ u = v y)) (star (H' y) F)) := h3.cast (star_assoc _ _ _)
    obtain ⟨⟨hx, hu⟩, h5⟩ := h4.fact
    subst hx
    exact ⟨h1, u, h2, by rw [hu], h5⟩
  · rintro c a a' w hd ⟨h1, h2⟩
    exact ⟨hd ▸ h1, h2⟩
  · rintro a w hd hx hm
    subst hx
    exact ⟨hd, rfl, hm⟩
/-- panic. -/
theorem panics {y : Operand} {t : TypeId} {v : Value} (hE : Env n D a E) (hy : evE E y = some (.iface t v)) (h : Q (.panic [{ v := .iface t v, recovered := false }]) a w) :
    Oper.wp P { dst := none, op := .panic y, type := ty, pos, after, guard := none } a w K Q := by
  unfold Oper.wp
  have hrun : (execOp a.eval { dst := none, op := .panic y, type := ty, pos, after, guard := none }).run P w = .halt (.panic (.iface t v)) w := by
    simp [execOp, hE.ev hy, Instr.panic, goPanic]
  rw [hrun]
  exact h
theorem R.mkIface {t : TypeId} {x : Operand} {v : Value} (hE : Env n D a E) (ht : concB P t = true) (hx : evE E x = some v) : Runs P (.makeInterface t x) ty a w (.iface t v) w := fun _ _ _ _ => by
  unfold concB at ht
  cases hu : P.underlying t with
  | none => rw [hu] at ht; cases ht
  | some d =>
    rw [hu] at ht
    cases d <;> first | (cases ht; done) | simp [execOp, hE.ev hx, Instr.makeInterface, run_underlying hu]
/-- What the text says of a slice of two elements of one cell. -/
theorem lit2 (hE : Env n D a E) (hM : Mem β w H) {t : Nat} {x y : Operand} {d : Nat} {e : Nat} (bytes : Nat) (ht : elemB P t e 1 bytes = true) {v u : Value} (hx : evE E x = some v) (hy : evE E y = some u) (hv : v.oneCell' = true) (hu' : u.oneCell' = true)
    (hd : Nat.blt d n = true) (h : ∀ b a' w', Env n D a' ((d, .slice (some ⟨b, 0, none⟩) 2 2) :: E) → Mem β w' (star (pts b e [v, u]) H) → K a' w') :
    Oper.wp P { dst := some d, op := .buildSlice t 2 #[(0, x), (1, y)], type := ty, pos, after, guard := none } a w K Q := by
  refine litSlice (parts := [(0, x), (1, y)]) hE hM e [v, u] (fun w => ?_) hd h
  obtain ⟨hu, i, z, hi, hz, hs, _, hzs⟩ := elemB_spec ht
  have hcell : v.cells = #[v] := by cases v <;> simp [Value.oneCell'] at hv <;> rfl
  have hcell2 : u.cells = #[u] := by cases u <;> simp [Value.oneCell'] at hu' <;> rfl
  have hr1 : Array.range 2 = #[0, 1] := rfl
  simp [Instr.buildSlice, run_underlying hu, sizeOf, typeInfo, hi, hs, zeroValue, hz, hE.ev hx, hE.ev hy, Instr.fill, hcell, hcell2, newRow, hr1]
theorem Mem.at {b : Nat} {Eb : Nat} {cs : List Value} {v : Value} (hM : Mem β w H) [hs : FindP H b Eb cs R] (k : Nat) (hk : cs[k]? = some v) : w.cell? ⟨b, k, none⟩ = some v := (hM.split hs.out).cell hk
/-- A load of a cell that is known. -/
theorem R.loadCell {t : TypeId} {x : Operand} {b o : Nat} {v : Value} (hE : Env n D a E) (ht : scalarB P t = true) (hx : evE E x = some (.pointer (some ⟨b, o, none⟩))) (hc : w.cell? ⟨b, o, none⟩ = some v) : Runs P (.load t x) ty a w v w := fun _ _ _ _ => by
  have ⟨h1, _⟩ := scalarB_spec ht w
  simp [execOp, hE.ev hx, Instr.loadAt, Instr.sureAddr, loadVar, h1, hc]
end
end Go.Sv
