import Derived.Test.YthaalghnpfpjmaaDoorRules
import Derived.Deep.Quiet
import Derived.StillTail
set_option linter.all false
/-! Own words: regions whose order is left open. -/
namespace Go.Sv
open Go.RowKit
section
variable {P : Program} {Q : Exit → Act → World → Prop} {β : Base} {a : Act} {w : World} {n : Nat} {D : List Deferred} {E : List (Nat × Value)} {H : HProp}

/-- All only read: one walk serves every order. -/
theorem quietR {id : Nat} {l : List Oper} (hm : P.follows .mixedOrders = true) (hB : Region.lexB .any l.toArray = true) (hM : Mem β w H)
    (h : ∀ K : Act → Prop, (∀ a, (∀ w, Mem β w H → Q .normal a w) → K a) → wpQuiet P l.toArray (fun w => Mem β w H) K l a) : (Code.region id l.toArray true).wp P Q a w :=
  wp_region_quiet (C := fun w => Mem β w H) hm hB hM (by simpa using h _ (fun _ h => h))
theorem qval {ops : Array Oper} {rest : List Oper} {K : Act → Prop} {op : Op} {ty : TypeId} {pos : String} {after : Array Edge} {d : Nat} {v : Value} (hE : Env n D a E) (hr : ∀ w, Mem β w H → Runs P op ty a w v w) (hd : Nat.blt d n = true)
    (h : ∀ a', Env n D a' ((d, v) :: E) → wpQuiet P ops (fun w => Mem β w H) K rest a') :
    wpQuiet P ops (fun w => Mem β w H) K ({ dst := some d, op, type := ty, pos, after, guard := none } :: rest) a := by
  unfold wpQuiet
  rw [if_pos (by simp [Region.wanted])]
  refine ⟨v, fun w hw => ?_, h _ (hE.put d v hd)⟩
  unfold Oper.quietAt
  rw [hr w hw]
  exact ⟨rfl, rfl⟩
theorem qcallF {ops : Array Oper} {rest : List Oper} {K : Act → Prop} {ty : TypeId} {pos : String} {after : Array Edge} {d : Nat} {f : FuncId} {as : List Operand} {ts : Array TypeId} {vs : List Value} {r : Value} (hE : Env n D a E) (hS : Fn P f vs r) (hc : callB P f = true) (hargs : evs E as = some vs) (hd : Nat.blt d n = true)
    (h : ∀ a', Env n D a' ((d, r) :: E) → wpQuiet P ops (fun w => Mem β w H) K rest a') :
    wpQuiet P ops (fun w => Mem β w H) K ({ dst := some d, op := .call { callee := .value (.func f), args := as.toArray, argTypes := ts }, type := ty, pos, after, guard := none } :: rest) a := by
  unfold wpQuiet
  rw [if_pos (by simp [Region.wanted])]
  refine ⟨r, fun w hw => ?_, h _ (hE.put d r hd)⟩
  unfold Oper.quietAt
  have hrun : (execOp a.eval { dst := some d, op := .call { callee := .value (.func f), args := as.toArray, argTypes := ts }, type := ty, pos, after, guard := none }).run P w = .ok (.enter f vs.toArray) w := by
    have := hE.evs hargs
    simp [execOp, resolve, Deferred.ofValue, invoke, Act.eval, callB_spec hc] at this ⊢
    rw [← this]
  rw [hrun]
  refine ⟨rfl, (hS β w H hw.emp).mono fun e w' ⟨v, he, hm⟩ => ?_⟩
  obtain ⟨e2, m2⟩ := hm.fact
  subst e2
  exact ⟨he, m2⟩
theorem qcallM {ops : Array Oper} {rest : List Oper} {K : Act → Prop} {ty : TypeId} {pos : String} {after : Array Edge} {d : Nat} {f : FuncId} {as : List Operand} {ts : Array TypeId} {vs : List Value} {r : Value} {A F : HProp} (hE : Env n D a E) (hS : Fm P f vs A r A) (hc : callB P f = true) (hargs : evs E as = some vs) (hH : H = star A F) (hd : Nat.blt d n = true)
    (h : ∀ a', Env n D a' ((d, r) :: E) → wpQuiet P ops (fun w => Mem β w H) K rest a') :
    wpQuiet P ops (fun w => Mem β w H) K ({ dst := some d, op := .call { callee := .value (.func f), args := as.toArray, argTypes := ts }, type := ty, pos, after, guard := none } :: rest) a := by
  subst hH
  unfold wpQuiet
  rw [if_pos (by simp [Region.wanted])]
  refine ⟨r, fun w hw => ?_, h _ (hE.put d r hd)⟩
  unfold Oper.quietAt
  have hrun : (execOp a.eval { dst := some d, op := .call { callee := .value (.func f), args := as.toArray, argTypes := ts }, type := ty, pos, after, guard := none }).run P w = .ok (.enter f vs.toArray) w := by
    have := hE.evs hargs
    simp [execOp, resolve, Deferred.ofValue, invoke, Act.eval, callB_spec hc] at this ⊢
    rw [← this]
  rw [hrun]
  refine ⟨rfl, (hS β w F hw).mono fun e w' ⟨v, he, hm⟩ => ?_⟩
  obtain ⟨e2, m2⟩ := (hm.cast (star_assoc _ _ _)).fact
  subst e2
  exact ⟨he, m2⟩
theorem qOn {ops : Array Oper} {rest : List Oper} {C : World → Prop} {K : Act → Prop} {dst : Option Tmp} {op : Op} {ty : TypeId} {pos : String} {after : Array Edge} {j : Nat} {want : Bool} {d : Nat} {t : Bool} (hE : Env n D a E) (hj : (ops[j]?).bind (·.dst) = some d) (hl : lookE E d = some (.bool t)) (ht : t = want)
    (h : wpQuiet P ops C K ({ dst, op, type := ty, pos, after, guard := none } :: rest) a) : wpQuiet P ops C K ({ dst, op, type := ty, pos, after, guard := some (j, want) } :: rest) a := by
  have h1 : Region.wanted { dst, op, type := ty, pos, after, guard := some (j, want) } (yielded ops a.tmps) = true := by
    simp [Region.wanted, yielded, hj, hE.look d _ hl, ht]
  unfold wpQuiet at h ⊢
  rw [if_pos (by simp [Region.wanted])] at h
  rw [if_pos h1]
  exact h
theorem qOff {ops : Array Oper} {rest : List Oper} {C : World → Prop} {K : Act → Prop} {d' : Nat} {op : Op} {ty : TypeId} {pos : String} {after : Array Edge} {j : Nat} {want : Bool} {d : Nat} {t : Bool} (hE : Env n D a E) (hj : (ops[j]?).bind (·.dst) = some d) (hl : lookE E d = some (.bool t)) (ht : t = !want) (hd : Nat.blt d' n = true)
    (h : ∀ a', Env n D a' ((d', undef) :: E) → wpQuiet P ops C K rest a') : wpQuiet P ops C K ({ dst := some d', op, type := ty, pos, after, guard := some (j, want) } :: rest) a := by
  have h1 : Region.wanted { dst := some d', op, type := ty, pos, after, guard := some (j, want) } (yielded ops a.tmps) = false := by
    subst ht
    simp [Region.wanted, yielded, hj, hE.look d _ hl]
  unfold wpQuiet
  rw [if_neg (by rw [h1]; simp)]
  exact h _ (hE.put d' undef hd)

theorem qOffU {ops : Array Oper} {rest : List Oper} {C : World → Prop} {K : Act → Prop} {d' : Nat} {op : Op} {ty : TypeId} {pos : String} {after : Array Edge} {j : Nat} {want : Bool} {d : Nat} (hE : Env n D a E) (hj : (ops[j]?).bind (·.dst) = some d) (hl : lookE E d = some undef) (hd : Nat.blt d' n = true)
    (h : ∀ a', Env n D a' ((d', undef) :: E) → wpQuiet P ops C K rest a') : wpQuiet P ops C K ({ dst := some d', op, type := ty, pos, after, guard := some (j, want) } :: rest) a := by
  have h1 : Region.wanted { dst := some d', op, type := ty, pos, after, guard := some (j, want) } (yielded ops a.tmps) = false := by
    simp [Region.wanted, yielded, hj, hE.look d _ hl, undef]
  unfold wpQuiet
  rw [if_neg (by rw [h1]; simp)]
  exact h _ (hE.put d' undef hd)

/-- What reads comes first, the rest is in one order. -/
theorem tailR {id : Nat} {l : List Oper} (k : Nat) (hm : P.follows .mixedOrders = true) (hB : Region.lexTailB .any l.toArray k = true) (hM : Mem β w H)
    (h : ∀ w, Mem β w H → ∀ K : Act → Prop, (∀ a, wpList P l.toArray Q (l.drop k) a w → K a) → wpStill P l.toArray w K (l.take k) a) : (Code.region id l.toArray true).wp P Q a w :=
  wp_region_still_tail k hm hB (h { w with drawn := w.drawn + 1 } hM _ (fun _ h => h))
theorem sval {ops : Array Oper} {rest : List Oper} {K : Act → Prop} {op : Op} {ty : TypeId} {pos : String} {after : Array Edge} {d : Nat} {v : Value} (hE : Env n D a E) (hr : Runs P op ty a w v w) (hd : Nat.blt d n = true)
    (h : ∀ a', Env n D a' ((d, v) :: E) → wpStill P ops w K rest a') :
    wpStill P ops w K ({ dst := some d, op, type := ty, pos, after, guard := none } :: rest) a := by
  unfold wpStill
  rw [if_pos (by simp [Region.wanted])]
  unfold Oper.still
  rw [hr]
  exact ⟨rfl, h _ (hE.put d v hd)⟩
end
end Go.Sv
