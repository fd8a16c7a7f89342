import Derived.Test.YthaalghnpfpjmaaDoorSep
import Derived.Deep.LoopGhost
import Derived.ScopeJumps
set_option linter.all false
/-! Own words: operations on what is held; calls; control. -/
namespace Go.Sv
open Go.RowKit

/-- A part of what is held, and the rest. -/
def Split (H A R : HProp) : Prop := H = star A R
theorem Split.here {A R : HProp} : Split (star A R) A R := rfl
theorem Split.last {A : HProp} : Split A A emp := (star_emp A).symm
theorem Split.there {A B H R : HProp} (h : Split H A R) : Split (star B H) A (star B R) := by
  unfold Split at *
  rw [h, star_left]
theorem Mem.split {β : Base} {w : World} {H A R : HProp} (h : Mem β w H) (hs : Split H A R) : Mem β w (star A R) := hs ▸ h
/-- The block b among what is held. -/
class FindP (H : HProp) (b : Nat) (E : outParam Nat) (cs : outParam (List Value)) (R : outParam HProp) : Prop where
  out : Split H (pts b E cs) R
instance (priority := 900) {b : Nat} {E : Nat} {cs : List Value} {R : HProp} : FindP (star (pts b E cs) R) b E cs R := ⟨Split.here⟩
instance (priority := 800) {b : Nat} {E : Nat} {cs : List Value} : FindP (pts b E cs) b E cs emp := ⟨Split.last⟩
instance (priority := 700) {B H R : HProp} {b : Nat} {E : Nat} {cs : List Value} [h : FindP H b E cs R] : FindP (star B H) b E cs (star B R) := ⟨Split.there h.out⟩
/-- The row at a among what is held. -/
class FindRow (H : HProp) (a : Option Addr) (α : outParam Type) (E : outParam Nat) (sz : outParam Nat) (enc : outParam (α → List Value)) (cap : outParam Nat) (xs : outParam (List α)) (R : outParam HProp) : Prop where
  out : Split H (row E sz enc a cap xs) R
instance (priority := 900) {α : Type} {E : Nat} {sz : Nat} {enc : α → List Value} {a : Option Addr} {cap : Nat} {xs : List α} {R : HProp} : FindRow (star (row E sz enc a cap xs) R) a α E sz enc cap xs R := ⟨Split.here⟩
instance (priority := 800) {α : Type} {E : Nat} {sz : Nat} {enc : α → List Value} {a : Option Addr} {cap : Nat} {xs : List α} : FindRow (row E sz enc a cap xs) a α E sz enc cap xs emp := ⟨Split.last⟩
instance (priority := 700) {α : Type} {E : Nat} {sz : Nat} {enc : α → List Value} {a : Option Addr} {cap : Nat} {xs : List α} {B H R : HProp} [h : FindRow H a α E sz enc cap xs R] : FindRow (star B H) a α E sz enc cap xs (star B R) := ⟨Split.there h.out⟩
/-- Any part, as it is written. -/
class FindA (H A : HProp) (R : outParam HProp) : Prop where
  out : Split H A R
instance (priority := 900) {A R : HProp} : FindA (star A R) A R := ⟨Split.here⟩
instance (priority := 800) {A : HProp} : FindA A A emp := ⟨Split.last⟩
instance (priority := 700) {A B H R : HProp} [h : FindA H A R] : FindA (star B H) A (star B R) := ⟨Split.there h.out⟩

theorem Mem.cut {β : Base} {w : World} {H R : HProp} (h : Mem β w H) (A : HProp) [f : FindA H A R] : Mem β w R := (h.split f.out).drop

/-- A block is no longer held. -/
theorem Mem.cutB {β : Base} {w : World} {H R : HProp} (h : Mem β w H) (b : Nat) {E : Nat} {cs : List Value} [f : FindP H b E cs R] : Mem β w R := (h.split f.out).drop
def scalarB (P : Program) (t : Nat) : Bool :=
  match P.underlying t with
  | some (.struct _) => false
  | some (.array _ _) => false
  | some _ => (match P.info? t with | some i => i.size == 1 | none => false)
  | none => false
theorem scalarB_spec {P : Program} {t : Nat} (h : scalarB P t = true) (w : World) : (isAgg t).run P w = .ok false w ∧ (sizeOf t).run P w = .ok 1 w := by
  unfold scalarB at h
  cases hu : P.underlying t with
  | none => rw [hu] at h; cases h
  | some d =>
    rw [hu] at h
    cases hi : P.info? t with
    | none => rw [hi] at h; cases d <;> simp at h
    | some i =>
      rw [hi] at h
      have hsz : i.size = 1 := by cases d <;> simp at h <;> exact h
      refine ⟨?_, by simp [sizeOf, typeInfo, hi, hsz]⟩
      cases d <;> simp at h <;> simp [isAgg, run_underlying hu]
def structB (P : Program) (t n : Nat) : Bool :=
  match P.underlying t with
  | some (.struct _) => (match P.info? t with | some i => i.size == n | none => false)
  | some (.array _ _) => (match P.info? t with | some i => i.size == n | none => false)
  | _ => false
theorem structB_spec {P : Program} {t n : Nat} (h : structB P t n = true) (w : World) : (isAgg t).run P w = .ok true w ∧ (sizeOf t).run P w = .ok n w := by
  unfold structB at h
  cases hu : P.underlying t with
  | none => rw [hu] at h; cases h
  | some d =>
    rw [hu] at h
    cases hi : P.info? t with
    | none => rw [hi] at h; cases d <;> simp at h
    | some i =>
      rw [hi] at h
      have hsz : i.size = n := by cases d <;> simp at h <;> exact h
      refine ⟨?_, by simp [sizeOf, typeInfo, hi, hsz]⟩
      cases d <;> simp at h <;> simp [isAgg, run_underlying hu]
/-- Field f of struct s lies so many cells behind its beginning. -/
def fieldB (P : Program) (s f off : Nat) : Bool :=
  match P.underlying s with
  | some (.struct fs) => (match fs[f]? with
    | some fd => (fd.offset == off) && (match P.info? fd.type with | some i => !(i.size == 0) | none => false)
    | none => false)
  | _ => false
theorem fieldB_spec {P : Program} {s f off : Nat} (h : fieldB P s f off = true) (b o : Nat) (w : World) : (Instr.fieldAt s (.pointer (some ⟨b, o, none⟩)) f).run P w = .ok (.pointer (some ⟨b, o + off, none⟩)) w := by
  unfold fieldB at h
  cases hu : P.underlying s with
  | none => rw [hu] at h; cases h
  | some d =>
    cases d <;> (try (rw [hu] at h; cases h))
    rename_i fs
    rw [hu] at h
    simp only at h
    cases hf : fs[f]? with
    | none => rw [hf] at h; cases h
    | some fd =>
      rw [hf] at h
      simp only at h
      cases hi : P.info? fd.type with
      | none => rw [hi] at h; simp at h
      | some i =>
        rw [hi] at h
        simp at h
        obtain ⟨rfl, hz⟩ := h
        simp [Instr.fieldAt, run_underlying hu, hf, Instr.sureAddr, fieldPlace, sizeOf, typeInfo, hi, hz, Addr.add_lit]
def sliceB (P : Program) (t e sz : Nat) : Bool :=
  match P.underlying t with
  | some (.slice e') => (e' == e) && (match P.info? e with | some i => i.size == sz | none => false)
  | _ => false
theorem sliceB_spec {P : Program} {t e sz : Nat} (h : sliceB P t e sz = true) : P.underlying t = some (.slice e) ∧ ∀ w, (sizeOf e).run P w = .ok sz w := by
  unfold sliceB at h
  cases hu : P.underlying t with
  | none => rw [hu] at h; cases h
  | some d =>
    cases d <;> (try (rw [hu] at h; cases h))
    rename_i e'
    rw [hu] at h
    cases hi : P.info? e with
    | none => rw [hi] at h; simp at h
    | some i =>
      rw [hi] at h
      simp at h
      obtain ⟨rfl, hz⟩ := h
      exact ⟨rfl, fun w => by simp [sizeOf, typeInfo, hi, hz]⟩
def stringB (P : Program) (t : Nat) : Bool := match P.underlying t with | some .string => true | _ => false
theorem stringB_spec {P : Program} {t : Nat} (h : stringB P t = true) : P.underlying t = some .string := by
  unfold stringB at h
  cases hu : P.underlying t with
  | none => rw [hu] at h; cases h
  | some d => cases d <;> (try (rw [hu] at h; cases h)); rfl
def callB (P : Program) (f : Nat) : Bool := match P.funcs[f]? with | some fn => fn.body.isSome && !(fn.name == "runtime.NumGoroutine") | none => false
theorem callB_spec {P : Program} {f : Nat} (h : callB P f = true) (args : Array Value) (w : World) : (callFunc f args).run P w = .ok (.enter f args) w := by
  unfold callB at h
  cases hf : P.funcs[f]? with
  | none => rw [hf] at h; cases h
  | some fn =>
    rw [hf] at h
    simp at h
    obtain ⟨h1, h2⟩ := h
    obtain ⟨c, hc⟩ := Option.isSome_iff_exists.1 h1
    simp [callFunc, hf, h2, hc]

def evs (E : List (Nat × Value)) : List Operand → Option (List Value)
  | [] => some []
  | x :: r => match evE E x, evs E r with
    | some v, some vs => some (v :: vs)
    | _, _ => none
theorem Env.evs {n : Nat} {D : List Deferred} {a : Act} {E : List (Nat × Value)} (h : Env n D a E) : ∀ {xs : List Operand} {vs : List Value}, Sv.evs E xs = some vs → xs.map a.eval = vs
  | [], vs, hx => by simp [Sv.evs] at hx; simp [hx]
  | x :: r, vs, hx => by
    unfold Sv.evs at hx
    cases h1 : evE E x with
    | none => rw [h1] at hx; simp at hx
    | some v =>
      cases h2 : Sv.evs E r with
      | none => rw [h1, h2] at hx; simp at hx
      | some us =>
        rw [h1, h2] at hx
        simp at hx
        subst hx
        simp [h.ev h1, h.evs h2]

section
variable {P : Program} {β : Base} {a : Act} {w : World} {n : Nat} {D : List Deferred} {E : List (Nat × Value)} {ty : TypeId} {H R : HProp}

theorem R.fieldAddr (hE : Env n D a E) {x : Operand} {b o : Nat} (s f off : Nat) (hf : fieldB P s f off = true) (hx : evE E x = some (.pointer (some ⟨b, o, none⟩))) :
    Runs P (.fieldAddr s x f) ty a w (.pointer (some ⟨b, o + off, none⟩)) w := fun _ _ _ _ => by
  simp [execOp, hE.ev hx, fieldB_spec hf]
theorem R.load {t : TypeId} {x : Operand} {b o : Nat} {v : Value} {Eb : Nat} {cs : List Value} (hE : Env n D a E) (ht : scalarB P t = true) (hx : evE E x = some (.pointer (some ⟨b, o, none⟩))) (hM : Mem β w H) [hs : FindP H b Eb cs R]
    (hv : cs[o]? = some v) : Runs P (.load t x) ty a w v w := fun _ _ _ _ => by
  have hc := (hM.split hs.out).cell hv
  have ⟨h1, _⟩ := scalarB_spec ht w
  simp [execOp, hE.ev hx, Instr.loadAt, Instr.sureAddr, loadVar, h1, hc]
theorem R.loadRow {α : Type} (hE : Env n D a E) {t : TypeId} (ht : scalarB P t = true) {x : Operand} {b o : Nat} (hx : evE E x = some (.pointer (some ⟨b, o, none⟩))) (hM : Mem β w H) {Eb : Nat} {enc : α → List Value} {cap : Nat} {xs : List α} [hs : FindRow H (some ⟨b, 0, none⟩) α Eb 1 enc cap xs R]
    {i : Nat} (ho : o = i) {y : α} (hy : xs[i]? = some y) {v : Value} (hv : enc y = [v]) : Runs P (.load t x) ty a w v w := fun _ _ _ _ => by
  subst ho
  obtain ⟨g, hg, hc⟩ := (hM.split hs.out).row_cell hy (j := 0) (v := v) (by simp [hv])
  simp at hg
  subst hg
  simp at hc
  have ⟨h1, _⟩ := scalarB_spec ht w
  simp [execOp, hE.ev hx, Instr.loadAt, Instr.sureAddr, loadVar, h1, hc]
theorem R.lenSlice (hE : Env n D a E) {t : TypeId} (e sz : Nat) (ht : sliceB P t e sz = true) {x : Operand} {ad : Option Addr} {l c : Nat} (hx : evE E x = some (.slice ad l c)) :
    Runs P (.call { callee := .builtin .len, args := #[x], argTypes := #[t] }) ty a w (.int .i64 l) w := fun _ _ _ _ => by
  have h := (sliceB_spec ht).1
  simp [execOp, resolve, invoke, builtin, hE.ev hx, Builtin.len_, run_underlying h, goInt]
theorem R.lenString (hE : Env n D a E) {t : TypeId} (ht : stringB P t = true) {x : Operand} {s : ByteArray} (hx : evE E x = some (.string s)) :
    Runs P (.call { callee := .builtin .len, args := #[x], argTypes := #[t] }) ty a w (.int .i64 s.size) w := fun _ _ _ _ => by
  have h := stringB_spec ht
  simp [execOp, resolve, invoke, builtin, hE.ev hx, Builtin.len_, run_underlying h, goInt]
theorem R.index (hE : Env n D a E) {t : TypeId} (e sz : Nat) (ht : sliceB P t e sz = true) {x y : Operand} {b o l c : Nat} {k : IntKind} {i : Int} (hx : evE E x = some (.slice (some ⟨b, o, none⟩) l c)) (hy : evE E y = some (.int k i))
    (j : Nat) (hi : i = j) (hl : j < l) : Runs P (.indexAddr t x y) ty a w (.pointer (some ⟨b, o + j * sz, none⟩)) w := fun _ _ _ _ => by
  obtain ⟨h1, h2⟩ := sliceB_spec ht
  subst hi
  have he : P.elem t = e := by simp [Program.elem, h1]
  have h1' : P.underlying t = some (.slice (P.elem t)) := by rw [he]; exact h1
  have := run_indexAt_slice (P := P) (w := w) t ⟨b, o, none⟩ l c k (j : Int) h1'
  rw [if_pos (by omega), he, h2] at this
  simp [execOp, hE.ev hx, hE.ev hy, this, Addr.add_lit]
theorem R.index1 (hE : Env n D a E) {t : TypeId} (e : Nat) (ht : sliceB P t e 1 = true) {x y : Operand} {b l c : Nat} {k : IntKind} {i : Int} (hx : evE E x = some (.slice (some ⟨b, 0, none⟩) l c)) (hy : evE E y = some (.int k i))
    (j : Nat) (hi : i = j) (hl : j < l) : Runs P (.indexAddr t x y) ty a w (.pointer (some ⟨b, j, none⟩)) w := by
  have := R.index (ty := ty) (w := w) (P := P) hE e 1 ht hx hy j hi hl
  simpa using this
theorem R.charAt (hE : Env n D a E) {t : TypeId} (ht : stringB P t = true) {x y : Operand} {s : ByteArray} {k : IntKind} {i : Int} (hx : evE E x = some (.string s)) (hy : evE E y = some (.int k i)) {c : UInt8} (j : Nat) (hi : i = j) (hl : s.data.toList[j]? = some c) :
    Runs P (.index t x y) ty a w (.int .u8 c.toNat) w := fun _ _ _ _ => by
  have h := stringB_spec ht
  subst hi
  have hlt : j < s.size := by
    have := (List.getElem?_eq_some_iff.1 hl).1
    simpa using this
  have e : s[j]? = some c := by
    rw [ByteArray.getElem?_lt' s j hlt]
    have h2 := (List.getElem?_eq_some_iff.1 hl).2
    congr 1
  simp [execOp, hE.ev hx, hE.ev hy, Instr.index, asIntOf, run_underlying h, e]
theorem R.iface (hE : Env n D a E) {t : TypeId} (ht : P.concrete t = true) {x : Operand} {v : Value} (hx : evE E x = some v) : Runs P (.makeInterface t x) ty a w (.iface t v) w := fun _ _ _ _ => by
  simp [execOp, hE.ev hx, run_makeInterface (h := ht)]
end

section
variable {P : Program} {Q : Exit → Act → World → Prop} {K : Act → World → Prop} {β : Base} {a : Act} {w : World} {n : Nat} {D : List Deferred} {E : List (Nat × Value)} {ty : TypeId} {pos : String} {after : Array Edge} {H R : HProp}

theorem store (hE : Env n D a E) (hM : Mem β w H) {t : TypeId} (ht : scalarB P t = true) {x y : Operand} {b o : Nat} (hx : evE E x = some (.pointer (some ⟨b, o, none⟩))) {v : Value} (hy : evE E y = some v) (hv : v.oneCell' = true)
    {Eb : Nat} {cs : List Value} [hs : FindP H b Eb cs R] (hlt : Nat.blt o cs.length = true)
    (h : ∀ a' w', Env n D a' E → Mem β w' (star (pts b Eb (cs.set o v)) R) → K a' w') :
    Oper.wp P { dst := none, op := .store t x y, type := ty, pos, after, guard := none } a w K Q := by
  have hM := hM.split hs.out
  have hlt : o < cs.length := by simpa [Nat.blt_eq] using hlt
  have hc := hM.cell (j := o) (v := cs[o]) (by simp [hlt])
  have hf := hM.frozen o
  have ⟨_, h2⟩ := scalarB_spec ht w
  refine act hE (w' := w.setCell ⟨b, o, none⟩ v) (fun _ _ _ _ => ?_) (fun a' hE' => h a' _ hE' (hM.setCell o v))
  have hcell : v.cells = #[v] := by cases v <;> simp [Value.oneCell'] at hv <;> rfl
  have hst := run_store P w ⟨b, o, none⟩ v .plain hv
  simp [execOp, hE.ev hx, hE.ev hy, Instr.storeAt, Instr.sureAddr, storeVar, hcell, h2, storeCells, Addr.add_lit, hst, hc, hf]

/-- A new block of known cells. -/
theorem fresh (hE : Env n D a E) (hM : Mem β w H) {op : Op} {d : Nat} (Eb : Nat) (cs : List Value) (v : Nat → Value) (hr : Runs P op ty a w (v w.heap.size) (w.alloc (.cells cs.toArray Eb))) (hd : Nat.blt d n = true)
    (h : ∀ b a' w', Env n D a' ((d, v b) :: E) → Mem β w' (star (pts b Eb cs) H) → K a' w') :
    Oper.wp P { dst := some d, op, type := ty, pos, after, guard := none } a w K Q :=
  val hE hr hd fun a' hE' => h _ a' _ hE' (hM.new _)
theorem alloc (hE : Env n D a E) (hM : Mem β w H) {t : TypeId} {d : Nat} (z : Value) (hz : (P.info? t).bind (·.zero) = some z) (cs : List Value) (hcs : z.cells.toList = cs) (hd : Nat.blt d n = true)
    (h : ∀ b a' w', Env n D a' ((d, .pointer (some ⟨b, 0, none⟩)) :: E) → Mem β w' (star (pts b t cs) H) → K a' w') :
    Oper.wp P { dst := some d, op := .alloc t, type := ty, pos, after, guard := none } a w K Q := by
  subst hcs
  refine fresh hE hM t _ (fun b => .pointer (some ⟨b, 0, none⟩)) (fun _ _ _ _ => ?_) hd h
  cases hi : P.info? t with
  | none => rw [hi] at hz; cases hz
  | some i =>
    rw [hi] at hz
    simp at hz
    simp [execOp, Instr.alloc, zeroValue, typeInfo, hi, hz, newVar, newRow]
theorem box (hE : Env n D a E) (hM : Mem β w H) {t : TypeId} {x : Operand} {d : Nat} {v : Value} (hx : evE E x = some v) (cs : List Value) (hcs : v.cells.toList = cs) (hd : Nat.blt d n = true)
    (h : ∀ b a' w', Env n D a' ((d, .pointer (some ⟨b, 0, none⟩)) :: E) → Mem β w' (star (pts b t cs) H) → K a' w') :
    Oper.wp P { dst := some d, op := .box t x, type := ty, pos, after, guard := none } a w K Q := by
  subst hcs
  refine fresh hE hM t _ (fun b => .pointer (some ⟨b, 0, none⟩)) (fun _ _ _ _ => ?_) hd h
  simp [execOp, hE.ev hx, Instr.box, newVar, newRow]

/-- What a call is asked and what it leaves: whatever else is held stays. -/
def Spec (P : Program) (f : FuncId) (args : List Value) (H : HProp) (R : Value → HProp) : Prop :=
  ∀ (β : Base) (w : World) (F : HProp), Mem β w (star H F) → Calls P f args.toArray w fun e w' => ∃ v, e = .returned v ∧ Mem β w' (star (R v) F)
theorem call (hE : Env n D a E) {d : Nat} {f : FuncId} {as : List Operand} {ts : Array TypeId} {vs : List Value} {Hp F : HProp} {Rp : Value → HProp} (hc : callB P f = true) (hS : Spec P f vs Hp Rp) (hargs : evs E as = some vs) (hM : Mem β w (star Hp F)) (hd : Nat.blt d n = true)
    (h : ∀ a' w' v, Env n D a' ((d, v) :: E) → Mem β w' (star (Rp v) F) → K a' w') :
    Oper.wp P { dst := some d, op := .call { callee := .value (.func f), args := as.toArray, argTypes := ts }, type := ty, pos, after, guard := none } a w K Q := by
  unfold Oper.wp
  have hrun : (execOp a.eval { dst := some d, op := .call { callee := .value (.func f), args := as.toArray, argTypes := ts }, type := ty, pos, after, guard := none }).run P w = .ok (.enter f vs.toArray) w := by
    have := hE.evs hargs
    simp [execOp, resolve, Deferred.ofValue, invoke, Act.eval, callB_spec hc] at this ⊢
    rw [← this]
  rw [hrun, Oper.upon_enter]
  refine (hS β w F hM).mono fun e w'' hh => ?_
  obtain ⟨v, rfl, hm⟩ := hh
  exact h _ _ v (hE.put d v hd) hm
end

section
variable {P : Program} {Q : Exit → Act → World → Prop} {β : Base} {a : Act} {w : World} {n : Nat} {D : List Deferred} {E : List (Nat × Value)} {H F : HProp}

theorem seqR {id : Nat} {l : List Oper} {y : Code} (h : ∀ K : Act → World → Prop, (∀ a w, y.wp P Q a w → K a w) → wpList P l.toArray (Exit.then K Q) l a w) : ((Code.region id l.toArray false).seq y).wp P Q a w :=
  wp_seq_k fun K hK => wp_region_lit (h K hK)
theorem condR {c : Operand} {x y : Code} {t : Bool} (hE : Env n D a E) (hc : evE E c = some (.bool t)) (h1 : t = true → x.wp P Q a w) (h2 : t = false → y.wp P Q a w) : (Code.cond c x y).wp P Q a w :=
  wp_cond_split (hE.ev hc) h1 h2
theorem loopR {σ : Type} {c : Code} (J : σ → Act → World → Prop) (μ : σ → Nat) (s0 : σ) (h0 : J s0 a w)
    (h : ∀ (s : σ) a w, J s a w → ∀ K : Act → World → Prop, (∀ s' a' w', J s' a' w' → μ s' < μ s → K a' w') → c.wp P (Exit.then K Q) a w) : (Code.loop c).wp P Q a w := by
  refine wp_loop_ghost (fun k a w => ∃ s, μ s = k ∧ J s a w) (μ s0) ⟨s0, rfl, h0⟩ ?_
  rintro k a w ⟨s, rfl, hs⟩
  exact h s a w hs _ (fun s' a' w' h1 h2 => ⟨_, h2, s', rfl, h1⟩)
end
end Go.Sv
