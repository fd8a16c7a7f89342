import Derived.Calls
import Derived.Below
import Derived.Tactics
import Derived.Laws.Entries
import Derived.Laws.Slices
import Derived.Laws.Strings
import Derived.Laws.Rows
import Derived.Laws.Concat
import Derived.Laws.AppendOwn
import Derived.Laws.Build
import Derived.KernelRfl
import Derived.Laws.AppendOwnNone
import Derived.Laws.BytesString
import Derived.Laws.Cover4
import Derived.Laws.IdiomStrings
set_option linter.all false
/-! Own words: heap assertions with disjoint parts, and what a world holds of them. -/
namespace Go.Sv
open Go.RowKit

abbrev Frag := Nat → Option Obj
abbrev HProp := Frag → Prop

def Frag.disj (f g : Frag) : Prop := ∀ b, f b = none ∨ g b = none
def Frag.join (f g : Frag) : Frag := fun b => match f b with | some o => some o | none => g b
def Frag.nil : Frag := fun _ => none

theorem Frag.disj_comm {f g : Frag} (h : f.disj g) : g.disj f := fun b => (h b).symm
theorem Frag.join_comm {f g : Frag} (h : f.disj g) : f.join g = g.join f := by
  funext b
  unfold Frag.join
  rcases h b with h | h
  · rw [h]; cases g b <;> rfl
  · rw [h]; cases f b <;> rfl
theorem Frag.join_assoc (f g k : Frag) : (f.join g).join k = f.join (g.join k) := by
  funext b
  unfold Frag.join
  cases f b <;> rfl
theorem Frag.join_nil (f : Frag) : f.join Frag.nil = f := by
  funext b
  unfold Frag.join Frag.nil
  cases f b <;> rfl
theorem Frag.nil_join (f : Frag) : Frag.nil.join f = f := by
  funext b
  rfl
theorem Frag.disj_join {f g k : Frag} : (f.join g).disj k ↔ f.disj k ∧ g.disj k := by
  unfold Frag.disj Frag.join
  constructor
  · intro h
    refine ⟨fun b => ?_, fun b => ?_⟩ <;> have := h b <;> cases hf : f b <;> simp_all
  · rintro ⟨h1, h2⟩ b
    have h1 := h1 b
    have h2 := h2 b
    cases hf : f b <;> simp_all
theorem Frag.disj_join' {f g k : Frag} : f.disj (g.join k) ↔ f.disj g ∧ f.disj k := by
  constructor
  · intro h
    have := Frag.disj_join.1 (Frag.disj_comm h)
    exact ⟨Frag.disj_comm this.1, Frag.disj_comm this.2⟩
  · rintro ⟨h1, h2⟩
    exact Frag.disj_comm (Frag.disj_join.2 ⟨Frag.disj_comm h1, Frag.disj_comm h2⟩)

def star (A B : HProp) : HProp := fun h => ∃ f g, f.disj g ∧ h = f.join g ∧ A f ∧ B g
def emp : HProp := fun h => h = Frag.nil
/-- A fact beside what is held. -/
def fact (p : Prop) : HProp := fun h => p ∧ h = Frag.nil
def any {α : Sort _} (A : α → HProp) : HProp := fun h => ∃ x, A x h
/-- One block. -/
def blk (b : Nat) (o : Obj) : HProp := fun h => h = fun c => if c = b then some o else none
/-- One block of cells, nothing of it frozen. -/
def pts (b : Nat) (E : Nat) (cs : List Value) : HProp := blk b (.cells cs.toArray E (0, 0))

theorem star_comm (A B : HProp) : star A B = star B A := by
  funext h
  apply propext
  constructor <;> rintro ⟨f, g, hd, rfl, ha, hb⟩ <;> exact ⟨g, f, Frag.disj_comm hd, Frag.join_comm hd, hb, ha⟩
theorem star_assoc (A B C : HProp) : star (star A B) C = star A (star B C) := by
  funext h
  apply propext
  constructor
  · rintro ⟨f, g, hd, rfl, ⟨f1, f2, hd1, rfl, ha, hb⟩, hc⟩
    have := Frag.disj_join.1 hd
    exact ⟨f1, f2.join g, Frag.disj_join'.2 ⟨hd1, this.1⟩, Frag.join_assoc _ _ _, ha, f2, g, this.2, rfl, hb, hc⟩
  · rintro ⟨f, g, hd, rfl, ha, ⟨f1, f2, hd1, rfl, hb, hc⟩⟩
    have := Frag.disj_join'.1 hd
    exact ⟨f.join f1, f2, Frag.disj_join.2 ⟨this.2, hd1⟩, (Frag.join_assoc _ _ _).symm, ⟨f, f1, this.1, rfl, ha, hb⟩, hc⟩
theorem star_emp (A : HProp) : star A emp = A := by
  funext h
  apply propext
  constructor
  · rintro ⟨f, g, _, rfl, ha, rfl⟩
    rw [Frag.join_nil]; exact ha
  · intro ha
    exact ⟨h, Frag.nil, fun b => .inr rfl, (Frag.join_nil _).symm, ha, rfl⟩
theorem emp_star (A : HProp) : star emp A = A := by rw [star_comm, star_emp]
instance : Std.Associative (α := HProp) star := ⟨star_assoc⟩
instance : Std.Commutative (α := HProp) star := ⟨star_comm⟩
theorem star_left (A B C : HProp) : star A (star B C) = star B (star A C) := by rw [← star_assoc, star_comm A B, star_assoc]

/-- What stays as it is the whole call long: the outside world, the tape, what was printed. -/
structure Base where
  os : Os
  tape : Nat → Question → Nat
  output : Array (Nat × ByteArray)
def World.base (w : World) : Base := ⟨w.os, w.tape, w.output⟩

def Holds (f : Frag) (w : World) : Prop := ∀ b o, f b = some o → w.heap[b]? = some o
/-- The world holds what is told. -/
def Mem (β : Base) (w : World) (H : HProp) : Prop := World.base w = β ∧ ∃ f, H f ∧ Holds f w

theorem Mem.cast {β : Base} {w : World} {H H' : HProp} (h : Mem β w H) (e : H = H') : Mem β w H' := e ▸ h
theorem Holds.left {f g : Frag} {w : World} (h : Holds (f.join g) w) : Holds f w := fun b o hb => h b o (by unfold Frag.join; rw [hb])
theorem Holds.right {f g : Frag} {w : World} (hd : f.disj g) (h : Holds (f.join g) w) : Holds g w := fun b o hb => h b o (by
  unfold Frag.join
  rcases hd b with e | e
  · rw [e]; exact hb
  · rw [e] at hb; cases hb)
theorem Mem.mono {β : Base} {w : World} {A B F : HProp} (h : Mem β w (star A F)) (k : ∀ f, A f → B f) : Mem β w (star B F) := by
  obtain ⟨hb, _, ⟨f, g, hd, rfl, ha, hf⟩, hh⟩ := h
  exact ⟨hb, _, ⟨f, g, hd, rfl, k f ha, hf⟩, hh⟩
theorem Mem.drop {β : Base} {w : World} {A F : HProp} (h : Mem β w (star A F)) : Mem β w F := by
  obtain ⟨hb, _, ⟨f, g, hd, rfl, ha, hf⟩, hh⟩ := h
  exact ⟨hb, _, hf, hh.right hd⟩
theorem Mem.fst {β : Base} {w : World} {A F : HProp} (h : Mem β w (star A F)) : Mem β w A := by
  obtain ⟨hb, _, ⟨f, g, hd, rfl, ha, hf⟩, hh⟩ := h
  exact ⟨hb, _, ha, hh.left⟩
theorem fact_star {p : Prop} {F : HProp} {h : Frag} : (star (fact p) F) h ↔ p ∧ F h := by
  constructor
  · rintro ⟨f, g, _, rfl, ⟨hp, rfl⟩, hf⟩
    rw [Frag.nil_join]
    exact ⟨hp, hf⟩
  · rintro ⟨hp, hf⟩
    exact ⟨Frag.nil, h, fun b => .inl rfl, (Frag.nil_join _).symm, ⟨hp, rfl⟩, hf⟩
theorem Mem.fact {β : Base} {w : World} {p : Prop} {F : HProp} (h : Mem β w (star (fact p) F)) : p ∧ Mem β w F := by
  obtain ⟨hb, f, hf, hh⟩ := h
  obtain ⟨hp, hf⟩ := fact_star.1 hf
  exact ⟨hp, hb, f, hf, hh⟩
theorem Mem.mkFact {β : Base} {w : World} {p : Prop} {F : HProp} (hp : p) (h : Mem β w F) : Mem β w (star (Sv.fact p) F) := by
  obtain ⟨hb, f, hf, hh⟩ := h
  exact ⟨hb, f, fact_star.2 ⟨hp, hf⟩, hh⟩
theorem Mem.any {α : Sort _} {β : Base} {w : World} {A : α → HProp} {F : HProp} (h : Mem β w (star (any A) F)) : ∃ x, Mem β w (star (A x) F) := by
  obtain ⟨hb, _, ⟨f, g, hd, rfl, ⟨x, ha⟩, hf⟩, hh⟩ := h
  exact ⟨x, hb, _, ⟨f, g, hd, rfl, ha, hf⟩, hh⟩
theorem Mem.mkAny {α : Sort _} {β : Base} {w : World} {A : α → HProp} {F : HProp} (x : α) (h : Mem β w (star (A x) F)) : Mem β w (star (Sv.any A) F) := by
  obtain ⟨hb, _, ⟨f, g, hd, rfl, ha, hf⟩, hh⟩ := h
  exact ⟨hb, _, ⟨f, g, hd, rfl, ⟨x, ha⟩, hf⟩, hh⟩
theorem Mem.emp {β : Base} {w : World} {A : HProp} (h : Mem β w A) : Mem β w (star Sv.emp A) := h.cast (emp_star A).symm
theorem Mem.ofEmp {β : Base} {w : World} {A : HProp} (h : Mem β w (star Sv.emp A)) : Mem β w A := h.cast (emp_star A)

theorem Mem.blk {β : Base} {w : World} {b : Nat} {o : Obj} {F : HProp} (h : Mem β w (star (blk b o) F)) : w.heap[b]? = some o := by
  obtain ⟨hb, _, ⟨f, g, hd, rfl, rfl, hf⟩, hh⟩ := h
  exact hh b o (by simp [Frag.join])
theorem Mem.cell {β : Base} {w : World} {b : Nat} {E : Nat} {cs : List Value} {F : HProp} (h : Mem β w (star (pts b E cs) F)) {j : Nat} {v : Value} (hj : cs[j]? = some v) :
    w.cell? ⟨b, j, none⟩ = some v := by
  have := Mem.blk h
  simp [World.cell?, this, hj]
theorem Mem.frozen {β : Base} {w : World} {b : Nat} {E : Nat} {cs : List Value} {F : HProp} (h : Mem β w (star (pts b E cs) F)) (j : Nat) :
    w.frozen? ⟨b, j, none⟩ = false := by
  have := Mem.blk h
  simp [World.frozen?, this]

theorem Holds.frame {f g : Frag} {w w' : World} (hd : f.disj g) (h : Holds g w) (hk : ∀ b, f b = none → b < w.heap.size → w'.heap[b]? = w.heap[b]?) : Holds g w' := fun b o hb => by
  have hlt : b < w.heap.size := (Array.getElem?_eq_some_iff.1 (h b o hb)).1
  rcases hd b with e | e
  · rw [hk b e hlt]; exact h b o hb
  · rw [e] at hb; cases hb

/-- One held block is turned, all others below stay. -/
theorem Mem.turn {β : Base} {w w' : World} {b : Nat} {o o' : Obj} {F : HProp} (h : Mem β w (star (Sv.blk b o) F)) (hbase : World.base w' = World.base w) (hnew : w'.heap[b]? = some o')
    (hk : ∀ c, c ≠ b → c < w.heap.size → w'.heap[c]? = w.heap[c]?) : Mem β w' (star (Sv.blk b o') F) := by
  obtain ⟨hb, _, ⟨f, g, hd, rfl, rfl, hf⟩, hh⟩ := h
  refine ⟨hbase.trans hb, _, ⟨fun c => if c = b then some o' else none, g, ?_, rfl, rfl, hf⟩, ?_⟩
  · intro c
    by_cases hc : c = b
    · subst hc
      rcases hd c with e | e
      · simp at e
      · exact .inr e
    · left; simp [hc]
  · intro c x hx
    unfold Frag.join at hx
    by_cases hc : c = b
    · subst hc
      simp at hx
      subst hx
      exact hnew
    · simp [hc] at hx
      have := hh.right hd c x hx
      rw [hk c hc (Array.getElem?_eq_some_iff.1 this).1]
      exact this
theorem Mem.setCell {β : Base} {w : World} {b : Nat} {E : Nat} {cs : List Value} {F : HProp} (h : Mem β w (star (pts b E cs) F)) (j : Nat) (v : Value) :
    Mem β (w.setCell ⟨b, j, none⟩ v) (star (pts b E (cs.set j v)) F) := by
  have hb := Mem.blk h
  refine Mem.turn h rfl ?_ ?_
  · simp [World.setCell, Array.getElem?_modify, hb]
  · intro c hc _
    simp [World.setCell, Array.getElem?_modify, Ne.symm hc]
theorem Mem.new {β : Base} {w : World} {F : HProp} (h : Mem β w F) (o : Obj) : Mem β { w with heap := w.heap.push o } (star (Sv.blk w.heap.size o) F) := by
  obtain ⟨hb, g, hf, hh⟩ := h
  refine ⟨hb, _, ⟨fun c => if c = w.heap.size then some o else none, g, ?_, rfl, rfl, hf⟩, ?_⟩
  · intro c
    by_cases hc : c = w.heap.size
    · right
      subst hc
      cases hg : g w.heap.size with
      | none => rfl
      | some x =>
        have := (Array.getElem?_eq_some_iff.1 (hh _ _ hg)).1
        omega
    · left; simp [hc]
  · intro c x hx
    unfold Frag.join at hx
    by_cases hc : c = w.heap.size
    · subst hc
      simp at hx
      subst hx
      simp
    · simp [hc] at hx
      have := hh c x hx
      have hlt := (Array.getElem?_eq_some_iff.1 this).1
      show (w.heap.push o)[c]? = some x
      rw [Array.getElem?_push, if_neg hc]
      exact this
theorem Mem.draws {β : Base} {w : World} {F : HProp} (h : Mem β w F) (n : Nat) : Mem β { w with drawn := n } F := h

/-- All that a world held when it was looked at. -/
def whole (w : World) : HProp := fun h => h = fun b => w.heap[b]?
theorem Mem.whole (w : World) : Mem (World.base w) w (whole w) := ⟨rfl, _, rfl, fun _ _ h => h⟩
theorem Mem.below {w w' : World} {A : HProp} (h : Mem (World.base w) w' (star A (Sv.whole w))) : Below w.heap.size w w' := by
  have hb := h.1
  obtain ⟨_, f, rfl, hh⟩ := Mem.drop h
  have hb1 : w'.os = w.os := congrArg Base.os hb
  have hb2 : w'.tape = w.tape := congrArg Base.tape hb
  have hb3 : w'.output = w.output := congrArg Base.output hb
  have hbl : ∀ i, i < w.heap.size → w'.heap[i]? = w.heap[i]? := fun i hi => by
    have e := hh i w.heap[i] (by simp [hi])
    rw [e]; simp [hi]
  refine ⟨hb1, hb2, hb3, ?_, hbl⟩
  rcases Nat.eq_zero_or_pos w.heap.size with h0 | h0
  · omega
  · have := hbl (w.heap.size - 1) (by omega)
    rcases Nat.lt_or_ge (w.heap.size - 1) w'.heap.size with h1 | h1
    · omega
    · rw [Array.getElem?_eq_none h1] at this
      simp at this
      omega
/-- A block of an old world, apart from all others. -/
def but (w : World) (b : Nat) : HProp := fun h => h = fun c => if c = b then none else w.heap[c]?
theorem whole_but {w : World} {b : Nat} {o : Obj} (h : w.heap[b]? = some o) : whole w = star (blk b o) (but w b) := by
  funext f
  apply propext
  constructor
  · rintro rfl
    refine ⟨_, _, ?_, ?_, rfl, rfl⟩
    · intro c
      by_cases hc : c = b <;> simp [hc]
    · funext c
      unfold Frag.join
      by_cases hc : c = b
      · subst hc; simp [h]
      · simp [hc]
  · rintro ⟨_, _, _, rfl, rfl, rfl⟩
    show _ = _
    funext c
    unfold Frag.join
    by_cases hc : c = b
    · subst hc; simp [h]
    · simp [hc]
end Go.Sv
/-! Own words: what the temporaries hold; one rule an operation. -/
namespace Go.Sv
open Go.RowKit

def lookE : List (Nat × Value) → Nat → Option Value
  | [], _ => none
  | (k, v) :: r, t => cond (Nat.beq k t) (some v) (lookE r t)
def evE (E : List (Nat × Value)) : Operand → Option Value
  | .tmp t => lookE E t
  | .const v => some v
  | .global g => some (.pointer (some ⟨g, 0, none⟩))
  | .func f => some (.func (.func f) #[] #[])
structure Env (n : Nat) (D : List Deferred) (a : Act) (E : List (Nat × Value)) : Prop where
  size : a.tmps.size = n
  defers : a.defers = D
  look : ∀ t v, lookE E t = some v → a.tmps[t]? = some v

theorem Env.ev {n : Nat} {D : List Deferred} {a : Act} {E : List (Nat × Value)} (h : Env n D a E) {x : Operand} {v : Value} (hx : evE E x = some v) : a.eval x = v := by
  cases x with
  | tmp t =>
    have := h.look t v hx
    simp [Act.eval, this]
  | const u => simpa [evE, Act.eval] using hx
  | global g => simpa [evE, Act.eval] using hx
  | func f => simpa [evE, Act.eval] using hx
theorem Env.put {n : Nat} {D : List Deferred} {a : Act} {E : List (Nat × Value)} (h : Env n D a E) (d : Nat) (v : Value) (hd : Nat.blt d n = true) : Env n D (a.put (some d) v) ((d, v) :: E) := by
  have hd : d < n := by simpa [Nat.blt_eq] using hd
  refine ⟨by simp [Act.put, h.size], by simp [Act.put, h.defers], fun t u hl => ?_⟩
  unfold lookE at hl
  by_cases e : d = t
  · subst e
    simp at hl
    subst hl
    simp [Act.put, h.size, hd]
  · have hb : Nat.beq d t = false := by
      cases hc : Nat.beq d t with
      | false => rfl
      | true => exact absurd (Nat.eq_of_beq_eq_true hc) e
    rw [hb] at hl
    simp [Act.put, Array.getElem?_setIfInBounds_ne e]
    exact h.look t u hl
theorem Env.putNone {n : Nat} {D : List Deferred} {a : Act} {E : List (Nat × Value)} (h : Env n D a E) (v : Value) : Env n D (a.put none v) E := h
/-- Only what is still wanted. -/
def subE (E : List (Nat × Value)) : List (Nat × Value) → Prop
  | [] => True
  | (t, v) :: r => lookE E t = some v ∧ subE E r
theorem subE_look {E E' : List (Nat × Value)} (h : subE E E') : ∀ t v, lookE E' t = some v → lookE E t = some v := by
  induction E' with
  | nil => intro t v h; simp [lookE] at h
  | cons x r ih =>
    obtain ⟨k, u⟩ := x
    intro t v hl
    unfold lookE at hl
    cases hb : Nat.beq k t with
    | true =>
      rw [hb] at hl
      have e := Nat.eq_of_beq_eq_true hb
      subst e
      simp at hl
      subst hl
      exact h.1
    | false =>
      rw [hb] at hl
      exact ih h.2 t v hl
theorem Env.keep {n : Nat} {D : List Deferred} {a : Act} {E E' : List (Nat × Value)} (h : Env n D a E) (hs : subE E E') : Env n D a E' :=
  ⟨h.size, h.defers, fun t v hl => h.look t v (subE_look hs t v hl)⟩
def pickE (E : List (Nat × Value)) : List Nat → List (Nat × Value)
  | [] => []
  | t :: r => match lookE E t with
    | some v => (t, v) :: pickE E r
    | none => pickE E r
theorem subE_pick (E : List (Nat × Value)) : ∀ ts, subE E (pickE E ts)
  | [] => trivial
  | t :: r => by
    unfold pickE
    cases h : lookE E t with
    | none => exact subE_pick E r
    | some v => exact ⟨h, subE_pick E r⟩
theorem Env.pick {n : Nat} {D : List Deferred} {a : Act} {E : List (Nat × Value)} (h : Env n D a E) (ts : List Nat) : Env n D a (pickE E ts) := h.keep (subE_pick E ts)
theorem Env.enter (args : Array Value) (n : Nat) (E : List (Nat × Value)) (h : ∀ t v, lookE E t = some v → args[t]? = some v) (hn : args.size ≤ n) :
    Env n [] { tmps := args ++ Array.replicate (n - args.size) undef, defers := [] } E := by
  refine ⟨by simp; omega, rfl, fun t v hl => ?_⟩
  have e := h t v hl
  have hlt := (Array.getElem?_eq_some_iff.1 e).1
  simp [Array.getElem?_append, hlt]
  simpa [hlt] using e
def argE (i : Nat) : List Value → List (Nat × Value)
  | [] => []
  | v :: r => (i, v) :: argE (i + 1) r
theorem argE_look (l : List Value) : ∀ (i t : Nat) (v : Value), lookE (argE i l) t = some v → i ≤ t ∧ l[t - i]? = some v := by
  induction l with
  | nil => intro i t v h; simp [argE, lookE] at h
  | cons x r ih =>
    intro i t v h
    unfold argE lookE at h
    cases hb : Nat.beq i t with
    | true =>
      rw [hb] at h
      have e := Nat.eq_of_beq_eq_true hb
      subst e
      simpa using h
    | false =>
      rw [hb] at h
      obtain ⟨h1, h2⟩ := ih (i + 1) t v h
      refine ⟨by omega, ?_⟩
      rw [show t - i = (t - (i + 1)) + 1 from by omega]
      simpa using h2
theorem Env.args (l : List Value) (n : Nat) (hn : Nat.ble l.length n = true) :
    Env n [] { tmps := l.toArray ++ Array.replicate (n - l.toArray.size) undef, defers := [] } (argE 0 l) :=
  Env.enter _ n _ (fun t v h => by have := (argE_look l 0 t v h).2; simpa using this) (by simpa using Nat.le_of_ble_eq_true hn)

/-- The operation leaves a value. -/
def Runs (P : Program) (op : Op) (ty : TypeId) (a : Act) (w : World) (v : Value) (w' : World) : Prop :=
  ∀ (dst : Option Tmp) (pos : String) (after : Array Edge) (guard : Option (Nat × Bool)), (execOp a.eval { dst, op, type := ty, pos, after, guard }).run P w = .ok (.value v) w'
def Does (P : Program) (op : Op) (ty : TypeId) (a : Act) (w : World) (w' : World) : Prop :=
  ∀ (dst : Option Tmp) (pos : String) (after : Array Edge) (guard : Option (Nat × Bool)), (execOp a.eval { dst, op, type := ty, pos, after, guard }).run P w = .ok .skip w'

section
variable {P : Program} {Q : Exit → Act → World → Prop} {K : Act → World → Prop} {a : Act} {w w' : World} {n : Nat} {D : List Deferred} {E : List (Nat × Value)} {op : Op} {ty : TypeId} {pos : String} {after : Array Edge}

/-- A step of a plain region. -/
theorem val (hE : Env n D a E) {d : Nat} {v : Value} (hr : Runs P op ty a w v w') (hd : Nat.blt d n = true) (h : ∀ a', Env n D a' ((d, v) :: E) → K a' w') :
    Oper.wp P { dst := some d, op, type := ty, pos, after, guard := none } a w K Q := by
  unfold Oper.wp
  rw [hr]
  exact h _ (hE.put d v hd)
theorem val0 (hE : Env n D a E) {v : Value} (hr : Runs P op ty a w v w') (h : ∀ a', Env n D a' E → K a' w') :
    Oper.wp P { dst := none, op, type := ty, pos, after, guard := none } a w K Q := by
  unfold Oper.wp
  rw [hr]
  exact h _ (hE.putNone v)
theorem act (hE : Env n D a E) (hr : Does P op ty a w w') (h : ∀ a', Env n D a' E → K a' w') :
    Oper.wp P { dst := none, op, type := ty, pos, after, guard := none } a w K Q := by
  unfold Oper.wp
  rw [hr]
  exact h _ (hE.putNone undef)
end

section
variable {P : Program} {a : Act} {w : World} {n : Nat} {D : List Deferred} {E : List (Nat × Value)} {ty : TypeId}

theorem R.move (hE : Env n D a E) {x : Operand} {v : Value} (hx : evE E x = some v) : Runs P (.move x) ty a w v w := fun _ _ _ _ => by simp [execOp, hE.ev hx]
theorem R.assign (hE : Env n D a E) {x : Operand} {v : Value} (hx : evE E x = some v) : Runs P (.assign x) ty a w v w := fun _ _ _ _ => by simp [execOp, hE.ev hx]
theorem R.pick (hE : Env n D a E) {c x y : Operand} {b : Bool} {u v : Value} (hc : evE E c = some (.bool b)) (hx : evE E x = some u) (hy : evE E y = some v) :
    Runs P (.pick c x y) ty a w (if b then u else v) w := fun _ _ _ _ => by simp [execOp, hE.ev hc, hE.ev hx, hE.ev hy, asBool]
theorem R.pickT (hE : Env n D a E) {c x y : Operand} {b : Bool} {u : Value} (hc : evE E c = some (.bool b)) (hb : b = true) (hx : evE E x = some u) :
    Runs P (.pick c x y) ty a w u w := fun _ _ _ _ => by simp [execOp, hE.ev hc, hb, hE.ev hx, asBool]
theorem R.pickF (hE : Env n D a E) {c x y : Operand} {b : Bool} {u : Value} (hc : evE E c = some (.bool b)) (hb : b = false) (hy : evE E y = some u) :
    Runs P (.pick c x y) ty a w u w := fun _ _ _ _ => by simp [execOp, hE.ev hc, hb, hE.ev hy, asBool]
theorem R.nil (hE : Env n D a E) {x : Operand} {ad : Addr} (hx : evE E x = some (.pointer (some ad))) : Runs P (.nilCheck x) ty a w (.pointer (some ad)) w := fun _ _ _ _ => by simp [execOp, hE.ev hx]
theorem R.nilFn (hE : Env n D a E) {x : Operand} {f : Nat} {l c : Array Value} (hx : evE E x = some (.func (.func f) l c)) : Runs P (.nilCheck x) ty a w (.func (.func f) l c) w := fun _ _ _ _ => by simp [execOp, hE.ev hx]
theorem R.bin (hE : Env n D a E) {op : BinOp} {t yt : TypeId} {x y : Operand} {k : IntKind} {i j : Int} {v : Value} (hx : evE E x = some (.int k i)) (hy : evE E y = some (.int k j))
    (h : binOp op t (.int k i) (.int k j) = pure v) : Runs P (.binOp op t x y yt) ty a w v w := fun _ _ _ _ => by
  simp [execOp, hE.ev hx, hE.ev hy, h, eqGuard_at_int]
theorem R.add (hE : Env n D a E) {t yt : TypeId} {x y : Operand} {k : IntKind} {i j : Int} (hx : evE E x = some (.int k i)) (hy : evE E y = some (.int k j)) :
    Runs P (.binOp .add t x y yt) ty a w (.int k (k.wrap (i + j))) w := R.bin hE hx hy (by simp [binOp, Op.intArith])
theorem R.sub (hE : Env n D a E) {t yt : TypeId} {x y : Operand} {k : IntKind} {i j : Int} (hx : evE E x = some (.int k i)) (hy : evE E y = some (.int k j)) :
    Runs P (.binOp .sub t x y yt) ty a w (.int k (k.wrap (i - j))) w := R.bin hE hx hy (by simp [binOp, Op.intArith])
theorem R.mul (hE : Env n D a E) {t yt : TypeId} {x y : Operand} {k : IntKind} {i j : Int} (hx : evE E x = some (.int k i)) (hy : evE E y = some (.int k j)) :
    Runs P (.binOp .mul t x y yt) ty a w (.int k (k.wrap (i * j))) w := R.bin hE hx hy (by simp [binOp, Op.intArith])
theorem R.eql (hE : Env n D a E) {t yt : TypeId} {x y : Operand} {k : IntKind} {i j : Int} (hx : evE E x = some (.int k i)) (hy : evE E y = some (.int k j)) :
    Runs P (.binOp .eql t x y yt) ty a w (.bool (decide (i = j))) w := R.bin hE hx hy (by simp [binOp, Op.intCmp]; rfl)
theorem R.neq (hE : Env n D a E) {t yt : TypeId} {x y : Operand} {k : IntKind} {i j : Int} (hx : evE E x = some (.int k i)) (hy : evE E y = some (.int k j)) :
    Runs P (.binOp .neq t x y yt) ty a w (.bool (!decide (i = j))) w := R.bin hE hx hy (by simp [binOp, Op.intCmp]; rfl)
theorem R.lss (hE : Env n D a E) {t yt : TypeId} {x y : Operand} {k : IntKind} {i j : Int} (hx : evE E x = some (.int k i)) (hy : evE E y = some (.int k j)) :
    Runs P (.binOp .lss t x y yt) ty a w (.bool (decide (i < j))) w := R.bin hE hx hy (by simp [binOp, Op.intCmp])
theorem R.leq (hE : Env n D a E) {t yt : TypeId} {x y : Operand} {k : IntKind} {i j : Int} (hx : evE E x = some (.int k i)) (hy : evE E y = some (.int k j)) :
    Runs P (.binOp .leq t x y yt) ty a w (.bool (decide (i ≤ j))) w := R.bin hE hx hy (by simp [binOp, Op.intCmp])
theorem R.gtr (hE : Env n D a E) {t yt : TypeId} {x y : Operand} {k : IntKind} {i j : Int} (hx : evE E x = some (.int k i)) (hy : evE E y = some (.int k j)) :
    Runs P (.binOp .gtr t x y yt) ty a w (.bool (decide (j < i))) w := R.bin hE hx hy (by simp [binOp, Op.intCmp])
theorem R.geq (hE : Env n D a E) {t yt : TypeId} {x y : Operand} {k : IntKind} {i j : Int} (hx : evE E x = some (.int k i)) (hy : evE E y = some (.int k j)) :
    Runs P (.binOp .geq t x y yt) ty a w (.bool (decide (j ≤ i))) w := R.bin hE hx hy (by simp [binOp, Op.intCmp])
theorem R.and (hE : Env n D a E) {t yt : TypeId} {x y : Operand} {k : IntKind} {i j : Int} (hx : evE E x = some (.int k i)) (hy : evE E y = some (.int k j)) :
    Runs P (.binOp .and t x y yt) ty a w (.int k (bits .and k i j)) w := R.bin hE hx hy (by simp [binOp, intBits_and])
theorem R.or (hE : Env n D a E) {t yt : TypeId} {x y : Operand} {k : IntKind} {i j : Int} (hx : evE E x = some (.int k i)) (hy : evE E y = some (.int k j)) :
    Runs P (.binOp .or t x y yt) ty a w (.int k (bits .or k i j)) w := R.bin hE hx hy (by simp [binOp, intBits_or])
theorem R.rem (hE : Env n D a E) {t yt : TypeId} {x y : Operand} {k : IntKind} {i j : Int} (hx : evE E x = some (.int k i)) (hy : evE E y = some (.int k j)) (hj : j ≠ 0) :
    Runs P (.binOp .rem t x y yt) ty a w (.int k (i.tmod j)) w := R.bin hE hx hy (by simp [binOp, Op.intDiv, hj])
theorem R.quo (hE : Env n D a E) {t yt : TypeId} {x y : Operand} {k : IntKind} {i j : Int} (hx : evE E x = some (.int k i)) (hy : evE E y = some (.int k j)) (hj : j ≠ 0) :
    Runs P (.binOp .quo t x y yt) ty a w (.int k (k.wrap (i.tdiv j))) w := R.bin hE hx hy (by simp [binOp, Op.intDiv, hj])
theorem R.shl (hE : Env n D a E) {t yt : TypeId} {x y : Operand} {k yk : IntKind} {i j : Int} (hx : evE E x = some (.int k i)) (hy : evE E y = some (.int yk j)) (h0 : 0 ≤ j) (h1 : j ≤ k.bits) :
    Runs P (.binOp .shl t x y yt) ty a w (.int k (k.wrap (i * 2 ^ j.toNat))) w := fun _ _ _ _ => by
  simp [execOp, hE.ev hx, hE.ev hy, eqGuard_at_int, binOp_shl, shift_shl k yk i j h0 h1]
theorem R.shr (hE : Env n D a E) {t yt : TypeId} {x y : Operand} {k yk : IntKind} {i j : Int} (hx : evE E x = some (.int k i)) (hy : evE E y = some (.int yk j)) (h0 : 0 ≤ j) (h1 : j ≤ k.bits) :
    Runs P (.binOp .shr t x y yt) ty a w (.int k (i / 2 ^ j.toNat)) w := fun _ _ _ _ => by
  simp [execOp, hE.ev hx, hE.ev hy, eqGuard_at_int, binOp_shr, shift_shr k yk i j h0 h1]
theorem R.not (hE : Env n D a E) {t : TypeId} {x : Operand} {b : Bool} (hx : evE E x = some (.bool b)) : Runs P (.unOp .not t x) ty a w (.bool (!b)) w := fun _ _ _ _ => by
  simp [execOp, hE.ev hx, Op.unary]
theorem R.seql (hE : Env n D a E) {t yt : TypeId} {x y : Operand} {s r : ByteArray} (hx : evE E x = some (.string s)) (hy : evE E y = some (.string r)) :
    Runs P (.binOp .eql t x y yt) ty a w (.bool (s.data.toList == r.data.toList)) w := fun _ _ _ _ => by
  simp [execOp, hE.ev hx, hE.ev hy, eqGuard_at_string, binOp_string_eql, ByteArray.toList_eq]
theorem R.sneq (hE : Env n D a E) {t yt : TypeId} {x y : Operand} {s r : ByteArray} (hx : evE E x = some (.string s)) (hy : evE E y = some (.string r)) :
    Runs P (.binOp .neq t x y yt) ty a w (.bool (!(s.data.toList == r.data.toList))) w := fun _ _ _ _ => by
  simp [execOp, hE.ev hx, hE.ev hy, eqGuard_at_string, binOp_string_neq, ByteArray.toList_eq]
theorem R.sadd (hE : Env n D a E) {t yt : TypeId} {x y : Operand} {s r : ByteArray} (hx : evE E x = some (.string s)) (hy : evE E y = some (.string r)) (h : s.size + r.size ≤ 9223372036854775807) :
    Runs P (.binOp .add t x y yt) ty a w (.string (s ++ r)) w := fun _ _ _ _ => by
  simp [execOp, hE.ev hx, hE.ev hy, eqGuard_at_string, binOp_string_add, run_string_add_sum (h := h)]
theorem R.ext (hE : Env n D a E) {x : Operand} {vs : Array Value} {i : Nat} {v : Value} (hx : evE E x = some (.tuple vs)) (hi : vs[i]? = some v) : Runs P (.extract x i) ty a w v w := fun _ _ _ _ => by
  simp [execOp, hE.ev hx, Instr.extract, hi]
end
end Go.Sv
/-! Own words: slices that the call owns. -/
namespace Go.Sv
open Go.RowKit

/-- Each element lies in so many cells, none of them of more parts. -/
class Enc {α : Type} (enc : α → List Value) (sz : outParam Nat) : Prop where
  len : ∀ x, (enc x).length = sz
  one : ∀ x, ∀ u ∈ enc x, u.oneCell' = true
theorem Enc.flat {α : Type} {enc : α → List Value} {sz : Nat} [h : Enc enc sz] (ys : List α) : ∀ u ∈ ys.flatMap enc, u.oneCell' = true := by
  intro u hu
  obtain ⟨y, _, hy⟩ := List.mem_flatMap.1 hu
  exact h.one y u hy

/-- The slice '.slice a xs.length cap' is the call's own: what it holds, and nobody else leans on its spare room. -/
def row {α : Type} (E : Nat) (sz : Nat) (enc : α → List Value) (a : Option Addr) (cap : Nat) (xs : List α) : HProp := fun h =>
  (∀ x ∈ xs, (enc x).length = sz) ∧
  ((xs = [] ∧ cap = 0 ∧ h = Frag.nil) ∨
   ∃ g rest, a = some ⟨g, 0, none⟩ ∧ xs.length ≤ cap ∧ cap ≤ maxLen ∧ (xs.flatMap enc ++ rest).length = cap * sz ∧ pts g E (xs.flatMap enc ++ rest) h)

theorem flat_length {α : Type} {enc : α → List Value} {sz : Nat} : ∀ {xs : List α}, (∀ x ∈ xs, (enc x).length = sz) → (xs.flatMap enc).length = xs.length * sz
  | [], _ => by simp
  | x :: r, h => by
    have := flat_length (xs := r) fun y hy => h y (List.mem_cons_of_mem _ hy)
    simp only [List.flatMap_cons, List.length_append, this, h x (List.mem_cons_self), List.length_cons, Nat.add_mul]
    omega

section
variable {P : Program} {β : Base} {w : World} {F : HProp} {α : Type} {E : Nat} {sz : Nat} {enc : α → List Value} {a : Option Addr} {cap : Nat} {xs : List α}

theorem Mem.row_nil (h : Mem β w F) (E : Nat) (sz : Nat) (enc : α → List Value) (a : Option Addr) : Mem β w (star (row E sz enc a 0 []) F) := by
  obtain ⟨hb, f, hf, hh⟩ := h
  exact ⟨hb, f, ⟨Frag.nil, f, fun b => .inl rfl, (Frag.nil_join f).symm, ⟨by simp, .inl ⟨rfl, rfl, rfl⟩⟩, hf⟩, hh⟩
theorem Mem.row_le (h : Mem β w (star (row E sz enc a cap xs) F)) : xs.length ≤ cap ∧ cap ≤ maxLen := by
  obtain ⟨_, _, ⟨f, g, _, _, ⟨_, h1⟩, _⟩, _⟩ := h
  rcases h1 with ⟨rfl, rfl, _⟩ | ⟨_, _, _, h2, h3, _⟩
  · exact ⟨Nat.le_refl _, Nat.zero_le _⟩
  · exact ⟨h2, h3⟩
/-- Its cells. -/
theorem Mem.row_cell (h : Mem β w (star (row E sz enc a cap xs) F)) {i j : Nat} {x : α} {v : Value} (hx : xs[i]? = some x) (hv : (enc x)[j]? = some v) :
    ∃ g, a = some ⟨g, 0, none⟩ ∧ w.cell? ⟨g, i * sz + j, none⟩ = some v := by
  obtain ⟨hb, _, ⟨f, g, hd, rfl, ⟨henc, h1⟩, hf⟩, hh⟩ := h
  rcases h1 with ⟨rfl, _⟩ | ⟨g', rest, rfl, _, _, _, h4⟩
  · simp at hx
  · refine ⟨g', rfl, ?_⟩
    have hm : Mem β w (star (pts g' E (xs.flatMap enc ++ rest)) F) := ⟨hb, _, ⟨f, g, hd, rfl, h4, hf⟩, hh⟩
    refine Mem.cell hm ?_
    have key : ∀ (l : List α) (i : Nat), (∀ x ∈ l, (enc x).length = sz) → l[i]? = some x → (l.flatMap enc)[i * sz + j]? = some v := by
      intro l
      induction l with
      | nil => intro i _ h; simp at h
      | cons y r ih =>
        intro i hl hi
        have hy := hl y (List.mem_cons_self)
        cases i with
        | zero =>
          simp at hi
          subst hi
          have hj := (List.getElem?_eq_some_iff.1 hv).1
          simp [List.flatMap_cons, List.getElem?_append, hj]
          simpa [hj] using hv
        | succ i =>
          simp at hi
          have := ih i (fun z hz => hl z (List.mem_cons_of_mem _ hz)) hi
          rw [List.flatMap_cons, List.getElem?_append_right (by rw [hy, Nat.add_mul]; omega), hy]
          rw [show (i + 1) * sz + j - sz = i * sz + j by rw [Nat.add_mul]; omega]
          exact this
    rw [List.getElem?_append_left (List.getElem?_eq_some_iff.1 (key xs i henc hx)).1]
    exact key xs i henc hx
/-- A new block of cells is a row of its own. -/
theorem Mem.row_of_pts {g : Nat} {cs : List Value} (h : Mem β w (star (pts g E cs) F)) (henc : ∀ x ∈ xs, (enc x).length = sz) (hcs : xs.flatMap enc = cs) (hm : xs.length ≤ maxLen) :
    Mem β w (star (row E sz enc (some ⟨g, 0, none⟩) xs.length xs) F) := by
  refine h.mono fun f hf => ⟨henc, .inr ⟨g, [], rfl, Nat.le_refl _, hm, ?_, ?_⟩⟩
  · rw [List.append_nil, flat_length henc]
  · rw [List.append_nil, hcs]; exact hf

/-- What the program's text says of an element's type. -/
def elemB (P : Program) (t e sz bytes : Nat) : Bool :=
  match P.underlying t, P.info? e with
  | some (.slice e'), some i => (e' == e) && (i.size == sz) && (i.bytes == bytes) && (match i.zero with | some z => z.cells.size == sz | none => false)
  | _, _ => false
theorem elemB_spec {t e sz bytes : Nat} (h : elemB P t e sz bytes = true) :
    P.underlying t = some (.slice e) ∧ ∃ i z, P.info? e = some i ∧ i.zero = some z ∧ i.size = sz ∧ i.bytes = bytes ∧ z.cells.size = sz := by
  unfold elemB at h
  split at h
  · rename_i e' i h1 h2
    cases hz : i.zero with
    | none => rw [hz] at h; simp at h
    | some z =>
      rw [hz] at h
      simp at h
      obtain ⟨⟨⟨rfl, h3⟩, h4⟩, h5⟩ := h
      exact ⟨h1, i, z, h2, hz, h3, h4, h5⟩
  · cases h

/-- A new block, laid with room to spare. -/
theorem Mem.row_new (h : Mem β w F) (C : List Value) (cap : Nat) (henc : ∀ x ∈ xs, (enc x).length = sz) (hle : xs.length ≤ cap) (hcm : cap ≤ maxLen) (hC : C.length = cap * sz) (hp : xs.flatMap enc <+: C) :
    Mem β (w.drew.alloc (.cells C.toArray E)) (star (row E sz enc (some ⟨w.heap.size, 0, none⟩) cap xs) F) := by
  obtain ⟨r, rfl⟩ := hp
  have hm : Mem β w.drew F := h
  exact (hm.new (.cells (xs.flatMap enc ++ r).toArray E)).mono (B := row E sz enc (some ⟨w.heap.size, 0, none⟩) cap xs) fun f hf => ⟨henc, .inr ⟨w.heap.size, r, rfl, hle, hcm, hC, hf⟩⟩

/-- append: whatever room there is. -/
theorem append_own (h : Mem β w (star (row E sz enc a cap xs) F)) {t bytes : Nat} (ht : elemB P t E sz bytes = true) (ty : TypeId) (ad : Addr) (c : Nat) (ys : List α)
    (henc : ∀ y ∈ ys, (enc y).length = sz) (hys : ∀ j u, (ys.flatMap enc)[j]? = some u → w.cell? (ad.add j) = some u) (h1 : ∀ u ∈ ys.flatMap enc, u.oneCell' = true)
    (h63 : xs.length + ys.length ≤ maxLen) (hby : (xs.length + ys.length) * bytes ≤ 140737488355328) :
    ∃ a' cap' w', (Builtin.append_ #[t, t] ty #[.slice a xs.length cap, .slice (some ad) ys.length c]).run P w = .ok (.slice a' (xs ++ ys).length cap') w' ∧
      Mem β w' (star (row E sz enc a' cap' (xs ++ ys)) F) := by
  obtain ⟨hu, i, z, hi, hz, hs, hb, hzs⟩ := elemB_spec ht
  have h63' : xs.length + ys.length ≤ 9223372036854775807 := by simp only [maxLen] at h63; omega
  have hF := h.drop
  obtain ⟨hbase, _, ⟨f, g, hd, rfl, hrow, hFg⟩, hh⟩ := h
  obtain ⟨hencx, hcase⟩ := hrow
  have henc' : ∀ x ∈ xs ++ ys, (enc x).length = sz := fun x hx => by
    rcases List.mem_append.1 hx with h | h
    · exact hencx x h
    · exact henc x h
  have hlen : (xs ++ ys).length = xs.length + ys.length := List.length_append
  have hlx : (xs.flatMap enc).length = xs.length * i.size := by rw [hs]; exact flat_length hencx
  have hly : (ys.flatMap enc).length = ys.length * i.size := by rw [hs]; exact flat_length henc
  have grow : ∀ old, old < xs.length + ys.length → (∃ v, (Builtin.append_ #[t, t] ty #[v, .slice (some ad) ys.length c]).run P w =
        .ok (.slice (some ⟨w.heap.size, 0, none⟩) (xs.length + ys.length) (grownCap w (xs.length + ys.length) old E))
          (w.drew.alloc (.cells ((xs.flatMap enc).toArray ++ (ys.flatMap enc).toArray ++ Builtin.zeroCells z.cells (grownCap w (xs.length + ys.length) old E - (xs.length + ys.length))) E)) ∧ v = .slice a xs.length cap) →
      ∃ a' cap' w', (Builtin.append_ #[t, t] ty #[.slice a xs.length cap, .slice (some ad) ys.length c]).run P w = .ok (.slice a' (xs ++ ys).length cap') w' ∧ Mem β w' (star (row E sz enc a' cap' (xs ++ ys)) F) := by
    rintro old hold ⟨_, hrun, rfl⟩
    have hcap := grownCap_ge w (xs.length + ys.length) old E
    have hcm := grownCap_le_maxLen w (xs.length + ys.length) old E h63
    refine ⟨_, _, _, by rw [hlen]; exact hrun, ?_⟩
    have := hF.row_new (E := E) (xs := xs ++ ys) (xs.flatMap enc ++ ys.flatMap enc ++ (Builtin.zeroCells z.cells (grownCap w (xs.length + ys.length) old E - (xs.length + ys.length))).toList)
      (grownCap w (xs.length + ys.length) old E) henc' (by rw [hlen]; exact hcap) hcm ?_ ?_
    · rw [show (xs.flatMap enc).toArray ++ (ys.flatMap enc).toArray ++ Builtin.zeroCells z.cells (grownCap w (xs.length + ys.length) old E - (xs.length + ys.length)) = (xs.flatMap enc ++ ys.flatMap enc ++ (Builtin.zeroCells z.cells (grownCap w (xs.length + ys.length) old E - (xs.length + ys.length))).toList).toArray by simp]
      exact this
    · simp only [List.length_append, Array.length_toList, size_zeroCells, hzs, hlx, hly, hs, ← Nat.add_mul]
      congr 1
      omega
    · rw [List.flatMap_append]
      exact List.prefix_append _ _
  rcases hcase with ⟨rfl, rfl, rfl⟩ | ⟨g0, rest, rfl, hle, hcm, hsz, rfl⟩
  · by_cases hy : ys = []
    · subst hy
      refine ⟨a, 0, w, ?_, hF.row_nil E sz enc a⟩
      cases a <;> simp [Builtin.append_, run_underlying hu, sizeOf, typeInfo, hi, Builtin.lenOf, Builtin.firstCells, loadCells, loadCellsFrom, storeCells]
    · have hlen0 : 0 < ys.length := by cases ys with | nil => exact absurd rfl hy | cons y r => simp
      refine grow 0 (by simpa using hlen0) ⟨_, ?_, rfl⟩
      cases a with
      | none =>
        have := run_append_nil (P := P) w t ty E i z hu hi hz ad ys.length c (ys.flatMap enc) hly hys hlen0 (by simp at h63'; omega) (by rw [hb]; simp at hby; omega)
        simpa using this
      | some b =>
        have := run_append_grow (P := P) w t ty E i z hu hi hz b 0 0 [] (by simp) (by simp) ad ys.length c (ys.flatMap enc) hly hys (by omega) (by simp at h63'; omega) (growslice_fits (by omega) (by rw [hb]; simpa using hby))
        simpa using this
  · have hblk : w.heap[g0]? = some (.cells (xs.flatMap enc ++ rest).toArray E (0, 0)) := hh.left g0 _ (by simp)
    have hm : Mem β w (star (pts g0 E (xs.flatMap enc ++ rest)) F) := ⟨hbase, _, ⟨_, g, hd, rfl, rfl, hFg⟩, hh⟩
    by_cases hroom : xs.length + ys.length ≤ cap
    · have hfit : xs.length * i.size + (ys.flatMap enc).length ≤ (xs.flatMap enc ++ rest).toArray.size := by
        rw [hly, ← Nat.add_mul, List.size_toArray, hsz, hs]; exact Nat.mul_le_mul_right _ hroom
      have hr := run_append_room (P := P) w t ty E i hu hi g0 xs.length cap _ hblk ad ys.length c (ys.flatMap enc) hly hys h1 hroom hfit
      refine ⟨_, _, _, by rw [hlen]; exact hr, ?_⟩
      have ht1 : (xs.flatMap enc ++ rest).take (xs.length * i.size) = xs.flatMap enc := by rw [← hlx]; exact List.take_left
      have ht2 : (xs.flatMap enc ++ rest).drop (xs.length * i.size + (ys.flatMap enc).length) = rest.drop (ys.flatMap enc).length := by rw [← hlx, ← List.drop_drop, List.drop_left]
      have := Mem.turn (w' := w.setRow g0 ((xs.flatMap enc ++ rest).take (xs.length * i.size) ++ ys.flatMap enc ++ (xs.flatMap enc ++ rest).drop (xs.length * i.size + (ys.flatMap enc).length)).toArray) (o' := .cells ((xs.flatMap enc ++ rest).take (xs.length * i.size) ++ ys.flatMap enc ++ (xs.flatMap enc ++ rest).drop (xs.length * i.size + (ys.flatMap enc).length)).toArray E (0, 0)) hm rfl
        (setRow_heap w g0 _ ((xs.flatMap enc ++ rest).take (xs.length * i.size) ++ ys.flatMap enc ++ (xs.flatMap enc ++ rest).drop (xs.length * i.size + (ys.flatMap enc).length)).toArray E (0, 0) hblk)
        (fun c hc _ => setRow_other w g0 c _ hc)
      refine this.mono fun f' hf' => ⟨henc', .inr ⟨g0, rest.drop (ys.flatMap enc).length, rfl, by rw [hlen]; exact hroom, hcm, ?_, ?_⟩⟩
      · simp only [List.size_toArray, List.length_append] at hfit hsz
        simp only [List.flatMap_append, List.length_append, List.length_drop]
        omega
      · unfold pts
        rw [ht1, ht2] at hf'
        rw [List.flatMap_append]
        exact hf'
    · refine grow cap (by omega) ⟨_, ?_, rfl⟩
      have hcells : ∀ j v, (xs.flatMap enc)[j]? = some v → w.cell? ((⟨g0, 0, none⟩ : Addr).add j) = some v := fun j v hj => by
        have := hm.cell (j := j) (v := v) (by rw [List.getElem?_append_left (List.getElem?_eq_some_iff.1 hj).1]; exact hj)
        rw [Addr.add_lit, Nat.zero_add]; exact this
      exact run_append_grow (P := P) w t ty E i z hu hi hz ⟨g0, 0, none⟩ xs.length cap (xs.flatMap enc) hlx hcells ad ys.length c (ys.flatMap enc) hly hys (by omega) (by omega) (growslice_fits (by omega) (by rw [hb]; exact hby))
end
end Go.Sv
