import Derived.Test.YthaalghnpfpjmaaDoorCtl
set_option linter.all false
/-! Own words: calls by their contracts, append, sums that fit. -/
namespace Go.Sv
open Go.RowKit
/-- A call that hands back 'r x' and leaves 'H' x' of what it was lent. -/
def Fx {α : Type} (P : Program) (f : FuncId) (args : List Value) (H : HProp) (r : α → Value) (H' : α → HProp) : Prop :=
  Spec P f args H fun v => any fun x => star (fact (v = r x)) (H' x)
def Fm (P : Program) (f : FuncId) (args : List Value) (H : HProp) (r : Value) (H' : HProp) : Prop := Spec P f args H fun v => star (fact (v = r)) H'
def Fn (P : Program) (f : FuncId) (args : List Value) (r : Value) : Prop := Spec P f args emp fun v => fact (v = r)

section
variable {P : Program} {Q : Exit → Act → World → Prop} {K : Act → World → Prop} {β : Base} {a : Act} {w : World} {n : Nat} {D : List Deferred} {E : List (Nat × Value)} {ty : TypeId} {pos : String} {after : Array Edge} {H R : HProp}

theorem callX {α : Type} (hE : Env n D a E) {d : Nat} {f : FuncId} {as : List Operand} {ts : Array TypeId} {vs : List Value} {Hp F : HProp} {r : α → Value} {H' : α → HProp} (hS : Fx P f vs Hp r H') (hc : callB P f = true) (hargs : evs E as = some vs) (hM : Mem β w (star Hp F)) (hd : Nat.blt d n = true)
    (h : ∀ x a' w', Env n D a' ((d, r x) :: E) → Mem β w' (star (H' x) F) → K a' w') :
    Oper.wp P { dst := some d, op := .call { callee := .value (.func f), args := as.toArray, argTypes := ts }, type := ty, pos, after, guard := none } a w K Q := by
  refine call hE hc hS hargs hM hd fun a' w' v hE' hM' => ?_
  obtain ⟨x, hM'⟩ := hM'.any
  obtain ⟨e, m2⟩ := (hM'.cast (star_assoc _ _ _)).fact
  subst e
  exact h x a' w' hE' m2
theorem callM (hE : Env n D a E) {d : Nat} {f : FuncId} {as : List Operand} {ts : Array TypeId} {vs : List Value} {Hp F : HProp} {r : Value} {H' : HProp} (hS : Fm P f vs Hp r H') (hc : callB P f = true) (hargs : evs E as = some vs) (hM : Mem β w (star Hp F)) (hd : Nat.blt d n = true)
    (h : ∀ a' w', Env n D a' ((d, r) :: E) → Mem β w' (star H' F) → K a' w') :
    Oper.wp P { dst := some d, op := .call { callee := .value (.func f), args := as.toArray, argTypes := ts }, type := ty, pos, after, guard := none } a w K Q := by
  refine call hE hc hS hargs hM hd fun a' w' v hE' hM' => ?_
  obtain ⟨e, m2⟩ := (hM'.cast (star_assoc _ _ _)).fact
  subst e
  exact h a' w' hE' m2
theorem callF (hE : Env n D a E) {d : Nat} {f : FuncId} {as : List Operand} {ts : Array TypeId} {vs : List Value} {r : Value} (hS : Fn P f vs r) (hc : callB P f = true) (hargs : evs E as = some vs) (hM : Mem β w H) (hd : Nat.blt d n = true)
    (h : ∀ a' w', Env n D a' ((d, r) :: E) → Mem β w' H → K a' w') :
    Oper.wp P { dst := some d, op := .call { callee := .value (.func f), args := as.toArray, argTypes := ts }, type := ty, pos, after, guard := none } a w K Q := by
  refine call hE hc hS hargs hM.emp hd fun a' w' v hE' hM' => ?_
  obtain ⟨e, m2⟩ := hM'.fact
  subst e
  exact h a' w' hE' m2

/-- A new slice out of a list written out. -/
theorem litSlice (hE : Env n D a E) (hM : Mem β w H) {t len : Nat} {parts : List (Nat × Operand)} {d : Nat} (e : Nat) (cs : List Value) (hr : ∀ w, (Instr.buildSlice t len (parts.map fun p => (p.1, a.eval p.2)).toArray).run P w = .ok (.slice (some ⟨w.heap.size, 0, none⟩) len len) (w.alloc (.cells cs.toArray e)))
    (hd : Nat.blt d n = true) (h : ∀ b a' w', Env n D a' ((d, .slice (some ⟨b, 0, none⟩) len len) :: E) → Mem β w' (star (pts b e cs) H) → K a' w') :
    Oper.wp P { dst := some d, op := .buildSlice t len parts.toArray, type := ty, pos, after, guard := none } a w K Q := by
  refine fresh hE hM e cs (fun b => .slice (some ⟨b, 0, none⟩) len len) (fun _ _ _ _ => ?_) hd h
  have := hr w
  simp [execOp] at this ⊢
  rw [this]
  rfl
/-- What the text says of a slice of one element of one cell. -/
theorem lit1 (hE : Env n D a E) (hM : Mem β w H) {t : Nat} {x : Operand} {d : Nat} {e : Nat} (bytes : Nat) (ht : elemB P t e 1 bytes = true) {v : Value} (hx : evE E x = some v) (hv : v.oneCell' = true)
    (hd : Nat.blt d n = true) (h : ∀ b a' w', Env n D a' ((d, .slice (some ⟨b, 0, none⟩) 1 1) :: E) → Mem β w' (star (pts b e [v]) H) → K a' w') :
    Oper.wp P { dst := some d, op := .buildSlice t 1 #[(0, x)], type := ty, pos, after, guard := none } a w K Q := by
  refine litSlice (parts := [(0, x)]) hE hM e [v] (fun w => ?_) hd h
  obtain ⟨hu, i, z, hi, hz, hs, _, hzs⟩ := elemB_spec ht
  have hcell : v.cells = #[v] := by cases v <;> simp [Value.oneCell'] at hv <;> rfl
  have hr1 : Array.range 1 = #[0] := rfl
  simp [Instr.buildSlice, run_underlying hu, sizeOf, typeInfo, hi, hs, zeroValue, hz, hE.ev hx, Instr.fill, hcell, newRow, hr1]

/-- append of what was just written out. -/
theorem appendL {α : Type} (hE : Env n D a E) {x y : Operand} {t d : Nat} {a0 : Option Addr} {cap m c n0 g : Nat} {Eb sz bytes : Nat} {enc : α → List Value} [henc : Enc enc sz] {xs : List α} (ys : List α) {cs : List Value} {R2 : HProp} {E2 : Nat}
    (ht : elemB P t Eb sz bytes = true) (hx : evE E x = some (.slice a0 n0 cap)) (hy : evE E y = some (.slice (some ⟨g, 0, none⟩) m c)) (hM : Mem β w H) [hs : FindRow H a0 α Eb sz enc cap xs R] [hs2 : FindP R g E2 cs R2]
    (hn : n0 = xs.length) (hm : m = ys.length) (hcs : ys.flatMap enc = cs)
    (h63 : xs.length + ys.length ≤ maxLen) (hby : (xs.length + ys.length) * bytes ≤ 140737488355328) (hd : Nat.blt d n = true)
    (h : ∀ a0' cap' a' w', Env n D a' ((d, .slice a0' (xs ++ ys).length cap') :: E) → Mem β w' (star (row Eb sz enc a0' cap' (xs ++ ys)) R2) → K a' w') :
    Oper.wp P { dst := some d, op := .call { callee := .builtin .append, args := #[x, y], argTypes := #[t, t] }, type := ty, pos, after, guard := none } a w K Q := by
  subst hn hm hcs
  have hM := hM.split hs.out
  have hR : R = star (pts g E2 (ys.flatMap enc)) R2 := hs2.out
  subst hR
  have hsrc : ∀ j u, (ys.flatMap enc)[j]? = some u → w.cell? ((⟨g, 0, none⟩ : Addr).add j) = some u := fun j u hj => by
    have := (hM.drop).cell hj
    rw [Addr.add_lit, Nat.zero_add]; exact this
  obtain ⟨a0', cap', w', hr, hM'⟩ := append_own hM ht ty ⟨g, 0, none⟩ c ys (fun y _ => henc.len y) hsrc (Enc.flat ys) h63 hby
  refine val hE (w' := w') (v := .slice a0' (xs ++ ys).length cap') (fun _ _ _ _ => ?_) hd fun a' hE' => h a0' cap' a' w' hE' ?_
  · simp only [execOp, resolve, invoke, builtin, Sem.run_bind, Sem.run_pure, Result.andThen_ok, List.map_toArray, List.map_cons, List.map_nil, hE.ev hx, hE.ev hy, hr]
  · exact Mem.drop (hM'.cast (by ac_rfl) : Mem β w' (star (pts g E2 (ys.flatMap enc)) (star (row Eb sz enc a0' cap' (xs ++ ys)) R2)))
end
theorem Mem.done {β : Base} {w : World} {p : Prop} {H F : HProp} (hp : p) (h : Mem β w (star H F)) : Mem β w (star (star (Sv.fact p) H) F) := (Mem.mkFact hp h).cast (star_assoc _ _ _).symm
theorem Mem.doneX {α : Type} {β : Base} {w : World} {v : Value} {r : α → Value} {H : α → HProp} {F : HProp} (x : α) (hp : v = r x) (h : Mem β w (star (H x) F)) : Mem β w (star (Sv.any fun x => star (Sv.fact (v = r x)) (H x)) F) :=
  Mem.mkAny x (Mem.done hp h)
section
variable {P : Program} {a : Act} {w : World} {n : Nat} {D : List Deferred} {E : List (Nat × Value)} {ty : TypeId}
theorem wrap64_id {i : Int} (h1 : -9223372036854775808 ≤ i) (h2 : i ≤ 9223372036854775807) : IntKind.i64.wrap i = i := by
  rw [IntKind.wrap_i64]; omega
theorem wrap32_id {i : Int} (h1 : -2147483648 ≤ i) (h2 : i ≤ 2147483647) : IntKind.i32.wrap i = i := by
  rw [IntKind.wrap_i32]; omega
theorem R.add64 (hE : Env n D a E) {t yt : TypeId} {x y : Operand} {i j : Int} (hx : evE E x = some (.int .i64 i)) (hy : evE E y = some (.int .i64 j)) (h1 : -9223372036854775808 ≤ i + j) (h2 : i + j ≤ 9223372036854775807) :
    Runs P (.binOp .add t x y yt) ty a w (.int .i64 (i + j)) w := by have := R.add (P := P) (ty := ty) (w := w) (t := t) (yt := yt) hE hx hy; rwa [wrap64_id h1 h2] at this
theorem R.sub64 (hE : Env n D a E) {t yt : TypeId} {x y : Operand} {i j : Int} (hx : evE E x = some (.int .i64 i)) (hy : evE E y = some (.int .i64 j)) (h1 : -9223372036854775808 ≤ i - j) (h2 : i - j ≤ 9223372036854775807) :
    Runs P (.binOp .sub t x y yt) ty a w (.int .i64 (i - j)) w := by have := R.sub (P := P) (ty := ty) (w := w) (t := t) (yt := yt) hE hx hy; rwa [wrap64_id h1 h2] at this
theorem R.mul64 (hE : Env n D a E) {t yt : TypeId} {x y : Operand} {i j : Int} (hx : evE E x = some (.int .i64 i)) (hy : evE E y = some (.int .i64 j)) (h1 : -9223372036854775808 ≤ i * j) (h2 : i * j ≤ 9223372036854775807) :
    Runs P (.binOp .mul t x y yt) ty a w (.int .i64 (i * j)) w := by have := R.mul (P := P) (ty := ty) (w := w) (t := t) (yt := yt) hE hx hy; rwa [wrap64_id h1 h2] at this
theorem R.add32 (hE : Env n D a E) {t yt : TypeId} {x y : Operand} {i j : Int} (hx : evE E x = some (.int .i32 i)) (hy : evE E y = some (.int .i32 j)) (h1 : -2147483648 ≤ i + j) (h2 : i + j ≤ 2147483647) :
    Runs P (.binOp .add t x y yt) ty a w (.int .i32 (i + j)) w := by have := R.add (P := P) (ty := ty) (w := w) (t := t) (yt := yt) hE hx hy; rwa [wrap32_id h1 h2] at this
theorem R.sub32 (hE : Env n D a E) {t yt : TypeId} {x y : Operand} {i j : Int} (hx : evE E x = some (.int .i32 i)) (hy : evE E y = some (.int .i32 j)) (h1 : -2147483648 ≤ i - j) (h2 : i - j ≤ 2147483647) :
    Runs P (.binOp .sub t x y yt) ty a w (.int .i32 (i - j)) w := by have := R.sub (P := P) (ty := ty) (w := w) (t := t) (yt := yt) hE hx hy; rwa [wrap32_id h1 h2] at this
theorem R.convInt (hE : Env n D a E) {s t : TypeId} {x : Operand} {k : IntKind} {i : Int} {q : IntKind} (hs : (P.underlying s).isSome = true) (ht : P.underlying t = some (.int k)) (hx : evE E x = some (.int q i)) :
    Runs P (.convert s t x) ty a w (.int k (k.wrap i)) w := fun _ _ _ _ => by
  obtain ⟨d, hd⟩ := Option.isSome_iff_exists.1 hs
  have := run_underlying hd w
  cases d <;> simp [execOp, hE.ev hx, convert, run_underlying ht, this, Conv.intToInt]
end
end Go.Sv
