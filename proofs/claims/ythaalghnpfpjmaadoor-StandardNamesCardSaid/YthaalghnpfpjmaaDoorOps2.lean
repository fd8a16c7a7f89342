import Derived.Test.YthaalghnpfpjmaaDoorElem
import Derived.Laws.Tables
set_option linter.all false
/-! Own words: structs, conversions, slices of slices. -/
namespace Go.Sv
open Go.RowKit
def evp (E : List (Nat × Value)) : List (Nat × Operand) → Option (List (Nat × Value))
  | [] => some []
  | (i, x) :: r => match evE E x, evp E r with
    | some v, some vs => some ((i, v) :: vs)
    | _, _ => none
theorem Env.evp {n : Nat} {D : List Deferred} {a : Act} {E : List (Nat × Value)} (h : Env n D a E) : ∀ {xs : List (Nat × Operand)} {vs : List (Nat × Value)}, Sv.evp E xs = some vs → xs.map (fun p => (p.1, a.eval p.2)) = vs
  | [], vs, hx => by simp [Sv.evp] at hx; simp [hx]
  | (i, x) :: r, vs, hx => by
    unfold Sv.evp at hx
    cases h1 : evE E x with
    | none => rw [h1] at hx; simp at hx
    | some v =>
      cases h2 : Sv.evp E r with
      | none => rw [h1, h2] at hx; simp at hx
      | some us =>
        rw [h1, h2] at hx
        simp at hx
        subst hx
        simp [h.ev h1, h.evp h2]
/-- A part of a block's cells set anew. -/
def setSeg : List Value → Nat → List Value → List Value
  | cs, _, [] => cs
  | cs, o, v :: r => setSeg (cs.set o v) (o + 1) r
theorem setSeg_length : ∀ (vs cs : List Value) (o : Nat), (setSeg cs o vs).length = cs.length
  | [], _, _ => rfl
  | v :: r, cs, o => by unfold setSeg; rw [setSeg_length r]; simp
theorem setSeg_eq : ∀ (vs cs : List Value) (o : Nat), o + vs.length ≤ cs.length → setSeg cs o vs = cs.take o ++ vs ++ cs.drop (o + vs.length)
  | [], cs, o, _ => by simp [setSeg]
  | v :: r, cs, o, h => by
    simp only [List.length_cons] at h
    unfold setSeg
    rw [setSeg_eq r _ _ (by simp; omega)]
    have h1 : (cs.set o v).take (o + 1) = cs.take o ++ [v] := by
      rw [List.take_set, List.take_succ_eq_append_getElem (by omega)]
      rw [List.set_append_right _ _ (by simp; exact Nat.min_le_left _ _)]
      simp [Nat.min_eq_left (show o ≤ cs.length by omega)]
    have h2 : (cs.set o v).drop (o + 1 + r.length) = cs.drop (o + (v :: r).length) := by
      rw [List.drop_set_of_lt (by omega)]
      congr 1
      simp; omega
    rw [h1, h2]
    simp

theorem Mem.blk' {β : Base} {w : World} {b : Nat} {Eb : Nat} {cs : List Value} {F : HProp} (h : Mem β w (star (pts b Eb cs) F)) : w.heap[b]? = some (.cells cs.toArray Eb (0, 0)) := Mem.blk h
theorem Mem.setRow {β : Base} {w : World} {b : Nat} {Eb : Nat} {cs : List Value} {F : HProp} (h : Mem β w (star (pts b Eb cs) F)) (cs' : List Value) : Mem β (w.setRow b cs'.toArray) (star (pts b Eb cs') F) :=
  Mem.turn h rfl (setRow_heap w b _ cs'.toArray Eb (0, 0) (Mem.blk h)) (fun c hc _ => setRow_other w b c _ hc)
theorem Mem.row_flat {β : Base} {w : World} {F : HProp} {α : Type} {E : Nat} {sz : Nat} {enc : α → List Value} {a : Option Addr} {cap : Nat} {xs : List α} (h : Mem β w (star (row E sz enc a cap xs) F)) {g : Nat} (hg : a = some ⟨g, 0, none⟩) {j : Nat} {u : Value} (hj : (xs.flatMap enc)[j]? = some u) : w.cell? ⟨g, j, none⟩ = some u := by
  obtain ⟨hb, _, ⟨f, k, hd, rfl, ⟨_, h1⟩, hf⟩, hh⟩ := h
  rcases h1 with ⟨rfl, _⟩ | ⟨g', rest, e, _, _, _, h4⟩
  · simp at hj
  · rw [hg] at e
    simp at e
    subst e
    have hm : Mem β w (star (pts g E (xs.flatMap enc ++ rest)) F) := ⟨hb, _, ⟨f, k, hd, rfl, h4, hf⟩, hh⟩
    refine Mem.cell hm ?_
    rw [List.getElem?_append_left (List.getElem?_eq_some_iff.1 hj).1]
    exact hj
theorem fill_one (vs : List Value) : ∀ (cs : List Value), cs.length = vs.length → Instr.fill (fun i => some (i * vs.length, vs.length)) cs.toArray [(0, .agg vs.toArray)] = some vs.toArray := by
  intro cs hl
  have key : ∀ (l : List Value) (k : Nat) (c : List Value), k + l.length = c.length → (l.zipIdx k).foldl (fun (cs : Array Value) (x : Value × Nat) => cs.setIfInBounds (0 * vs.length + x.2) x.1) c.toArray = (c.take k ++ l).toArray := by
    intro l
    induction l with
    | nil => intro k c h; simp at h; simp [h]
    | cons x r ih =>
      intro k c h
      simp only [List.length_cons] at h
      simp only [List.zipIdx_cons, List.foldl_cons]
      have := ih (k + 1) (c.set k x) (by simp; omega)
      simp only [Nat.zero_mul, Nat.zero_add, List.setIfInBounds_toArray] at this ⊢
      rw [this]
      rw [List.take_set, List.take_succ_eq_append_getElem (by omega), List.set_append_right _ _ (by simp; exact Nat.min_le_left _ _)]
      simp [Nat.min_eq_left (show k ≤ c.length by omega)]
  have := key vs 0 cs (by simpa using hl.symm)
  simp only [Instr.fill, Value.cells, List.size_toArray, hl]
  simp
  simp at this
  rw [← this]
theorem run_buildSlice1 {P : Program} (w : World) (t e : Nat) (vs : List Value) {i : TypeInfo} {z : Value} (hu : P.underlying t = some (.slice e)) (hi : P.info? e = some i) (hz : i.zero = some z) (hs : i.size = vs.length) (hzs : z.cells.size = vs.length) (hpos : 0 < vs.length) (hsm : vs.length ≤ 16777216) :
    (Instr.buildSlice t 1 #[(0, .agg vs.toArray)]).run P w = .ok (.slice (some ⟨w.heap.size, 0, none⟩) 1 1) (w.alloc (.cells vs.toArray e)) := by
  have h1 : ¬ (16777216 < vs.length) := by omega
  have h2 : vs ≠ [] := by intro e; subst e; simp at hpos
  have hf : Instr.fill (fun i => some (i * vs.length, vs.length)) (Array.map (fun x => z.cells[x % z.cells.size]!) (Array.range vs.length)) [(0, .agg vs.toArray)] = some vs.toArray := by
    have := fill_one vs (Array.map (fun x => z.cells[x % z.cells.size]!) (Array.range vs.length)).toList (by simp)
    rwa [Array.toArray_toList] at this
  simp [Instr.buildSlice, run_underlying hu, sizeOf, typeInfo, hi, hs, h1, h2, zeroValue, hz, newRow, hf]

section
variable {P : Program} {β : Base} {a : Act} {w : World} {n : Nat} {D : List Deferred} {E : List (Nat × Value)} {ty : TypeId} {H R0 : HProp}
theorem R.build {t : TypeId} {parts : List (Nat × Operand)} {ps : List (Nat × Value)} {cs : List Value} (hE : Env n D a E) (hp : evp E parts = some ps) (hb : ∀ w, (Instr.build t ps.toArray).run P w = .ok (.agg cs.toArray) w) :
    Runs P (.build t parts.toArray) ty a w (.agg cs.toArray) w := fun _ _ _ _ => by
  have h1 := hE.evp hp
  have h2 := hb w
  simp only [execOp, List.map_toArray]
  simp only [Sem.run_bind, Sem.run_pure]
  have e : (List.map (fun x => match x with | (i, x) => (i, a.eval x)) parts) = ps := by rw [← h1]
  rw [e, h2]
  rfl
theorem R.loadAgg {t : TypeId} {x : Operand} {b o m : Nat} {Eb : Nat} {cs vs : List Value} (hE : Env n D a E) (ht : structB P t m = true) (hx : evE E x = some (.pointer (some ⟨b, o, none⟩))) (hM : Mem β w H) [hs : FindP H b Eb cs R0]
    (hv : (cs.drop o).take m = vs) (hm : vs.length = m) : Runs P (.load t x) ty a w (.agg vs.toArray) w := fun _ _ _ _ => by
  have ⟨h1, h2⟩ := structB_spec ht w
  have hc : ∀ j v, vs[j]? = some v → w.cell? ((⟨b, o, none⟩ : Addr).add j) = some v := fun j v hj => by
    subst hv
    have hlt := (List.getElem?_eq_some_iff.1 hj).1
    have : cs[o + j]? = some v := by
      rw [List.getElem?_take_of_lt (by simp at hlt; omega), List.getElem?_drop] at hj
      exact hj
    rw [Addr.add_lit]
    exact (hM.split hs.out).cell this
  have := run_loadCells_list (P := P) w ⟨b, o, none⟩ vs hc
  rw [hm] at this
  simp [execOp, hE.ev hx, Instr.loadAt, Instr.sureAddr, loadVar, h1, h2, this]
theorem R.loadElemAgg {α : Type} {Eb sz cap : Nat} {enc : α → List Value} {xs : List α} {ad : Option Addr} {t : TypeId} {x : Operand} {k : Nat} {el : α} (hE : Env n D a E) (ht : structB P t sz = true) (hx : evE E x = some (ptrAt ad k)) (hM : Mem β w H) [hs : FindRow H ad α Eb sz enc cap xs R0] [henc : Enc enc sz]
    (j : Nat) (hk : k = j * sz) (hy : xs[j]? = some el) : Runs P (.load t x) ty a w (.agg (enc el).toArray) w := fun _ _ _ _ => by
  subst hk
  have ⟨h1, h2⟩ := structB_spec ht w
  obtain ⟨g, rfl⟩ := (hM.split hs.out).row_some (by have := (List.getElem?_eq_some_iff.1 hy).1; omega)
  have hc : ∀ i v, (enc el)[i]? = some v → w.cell? ((⟨g, 0 + j * sz, none⟩ : Addr).add i) = some v := fun i v hi => by
    obtain ⟨g', hg, hc⟩ := (hM.split hs.out).row_cell hy hi
    simp at hg
    subst hg
    rw [Addr.add_lit, Nat.zero_add]
    exact hc
  have := run_loadCells_list (P := P) w ⟨g, 0 + j * sz, none⟩ (enc el) hc
  rw [henc.len] at this
  simp at this
  simp [execOp, hE.ev hx, ptrAt, Instr.loadAt, Instr.sureAddr, loadVar, h1, h2, this]
def runesB (P : Program) (s d e : Nat) : Bool := (match P.underlying s with | some (.slice x) => x == e | _ => false) && (match P.underlying e with | some (.int .i32) => true | _ => false) && (match P.underlying d with | some .string => true | _ => false)
theorem runesB_spec {s d e : Nat} (h : runesB P s d e = true) : P.underlying s = some (.slice e) ∧ P.underlying e = some (.int .i32) ∧ P.underlying d = some .string := by
  unfold runesB at h
  simp only [Bool.and_eq_true] at h
  obtain ⟨⟨h1, h2⟩, h3⟩ := h
  refine ⟨?_, ?_, ?_⟩
  · split at h1
    · rename_i x hx; rw [hx]; simp at h1; rw [h1]
    · cases h1
  · split at h2
    · assumption
    · cases h2
  · split at h3
    · assumption
    · cases h3
theorem R.runes {s d : TypeId} {x : Operand} {ad : Option Addr} {l c Eb cap : Nat} {zs : List Int} (hE : Env n D a E) (e : Nat) (ht : runesB P s d e = true) (hx : evE E x = some (.slice ad l c)) (hM : Mem β w H) [hs : FindRow H ad Int Eb 1 (fun i => [Value.int .i32 i]) cap zs R0] (hl : l = zs.length) :
    Runs P (.convert s d x) ty a w (.string (runesBytes zs)) w := fun _ _ _ _ => by
  obtain ⟨h1, h2, h3⟩ := runesB_spec ht
  subst hl
  have hrun : (convert s d (.slice ad zs.length c)).run P w = .ok (.string (runesBytes zs)) w := by
    rcases Nat.eq_zero_or_pos zs.length with h0 | h0
    · have hz : zs = [] := List.eq_nil_of_length_eq_zero h0
      subst hz
      cases ad with
      | none => exact run_convert_runes_nil w s d e _ _ h1 h2 h3
      | some b => simpa using run_convert_runes w s d e b 0 c [] (by simp) h1 h2 h3 (by intro j hj; simp at hj)
    · obtain ⟨g, rfl⟩ := (hM.split hs.out).row_some h0
      have := run_convert_runes w s d e ⟨g, 0, none⟩ zs.length c zs (Nat.le_refl _) h1 h2 h3 (fun j hj => by
        obtain ⟨g', hg, hc⟩ := (hM.split hs.out).row_cell (getElem?_of_lt hj) (j := 0) (v := .int .i32 zs[j]) rfl
        simp at hg
        subst hg
        simp [Addr.add_lit, List.getD, hj]
        simpa using hc)
      simpa using this
  simp [execOp, hE.ev hx, hrun]
end
section
variable {P : Program} {Q : Exit → Act → World → Prop} {K : Act → World → Prop} {β : Base} {a : Act} {w : World} {n : Nat} {D : List Deferred} {E : List (Nat × Value)} {ty : TypeId} {pos : String} {after : Array Edge} {H R0 : HProp}
theorem storeAgg {t : TypeId} {x y : Operand} {b o m : Nat} {vs : List Value} {Eb : Nat} {cs : List Value} (hE : Env n D a E) (hM : Mem β w H) (ht : structB P t m = true) (hx : evE E x = some (.pointer (some ⟨b, o, none⟩))) (hy : evE E y = some (.agg vs.toArray)) (hv : vs.all Value.oneCell' = true)
    [hs : FindP H b Eb cs R0] (hlt : Nat.ble (o + vs.length) cs.length = true) (hm : vs.length = m)
    (h : ∀ a' w', Env n D a' E → Mem β w' (star (pts b Eb (setSeg cs o vs)) R0) → K a' w') :
    Oper.wp P { dst := none, op := .store t x y, type := ty, pos, after, guard := none } a w K Q := by
  have hM := hM.split hs.out
  have hlt : o + vs.length ≤ cs.length := Nat.le_of_ble_eq_true hlt
  have ⟨_, h2⟩ := structB_spec ht w
  have hb := hM.blk'
  have h1 : ∀ v ∈ vs, v.oneCell' = true := List.all_eq_true.1 hv
  have hst := run_storeCells_at P b o Eb vs 0 cs.toArray w hb (by simpa using hlt) h1
  refine act hE (w' := w.setRow b (setSeg cs o vs).toArray) (fun _ _ _ _ => ?_) (fun a' hE' => h a' _ hE' ?_)
  · rw [setSeg_eq vs cs o hlt]
    simp [execOp, hE.ev hx, hE.ev hy, Instr.storeAt, Instr.sureAddr, storeVar, Value.cells, h2, hm]
    simp at hst
    rw [hm] at hst
    rw [hst]
    rfl
  · exact hM.setRow (setSeg cs o vs)
/-- One element of several cells, written out. -/
theorem litA {t : Nat} {x : Operand} {d : Nat} {e sz : Nat} {vs : List Value} (hE : Env n D a E) (hM : Mem β w H) (bytes : Nat) (ht : elemB P t e sz bytes = true) (hx : evE E x = some (.agg vs.toArray)) (hlen : vs.length = sz) (hsz : Nat.blt 0 sz = true) (hsm : Nat.ble sz 16777216 = true)
    (hd : Nat.blt d n = true) (h : ∀ b a' w', Env n D a' ((d, .slice (some ⟨b, 0, none⟩) 1 1) :: E) → Mem β w' (star (pts b e vs) H) → K a' w') :
    Oper.wp P { dst := some d, op := .buildSlice t 1 #[(0, x)], type := ty, pos, after, guard := none } a w K Q := by
  refine litSlice (parts := [(0, x)]) hE hM e vs (fun w => ?_) hd h
  obtain ⟨hu, i, z, hi, hz, hs, _, hzs⟩ := elemB_spec ht
  subst hlen
  have hr := run_buildSlice1 w t e vs hu hi hz hs hzs (by simpa [Nat.blt_eq] using hsz) (Nat.le_of_ble_eq_true hsm)
  simpa [hE.ev hx] using hr
/-- append of a row that is held. -/
theorem appendR {α : Type} {x y : Operand} {t d : Nat} {a0 a1 : Option Addr} {cap cap1 m c n0 : Nat} {Eb E2 sz bytes : Nat} {enc : α → List Value} {xs ys : List α} {R2 : HProp} (hE : Env n D a E) [henc : Enc enc sz]
    (ht : elemB P t Eb sz bytes = true) (hx : evE E x = some (.slice a0 n0 cap)) (hy : evE E y = some (.slice a1 m c)) (hM : Mem β w H) [hs : FindRow H a0 α Eb sz enc cap xs R0] [hs2 : FindRow R0 a1 α E2 sz enc cap1 ys R2]
    (hn : n0 = xs.length) (hm : m = ys.length) (hpos : 0 < ys.length)
    (h63 : xs.length + ys.length ≤ maxLen) (hby : (xs.length + ys.length) * bytes ≤ 140737488355328) (hd : Nat.blt d n = true)
    (h : ∀ a0' cap' a' w', Env n D a' ((d, .slice a0' (xs ++ ys).length cap') :: E) → Mem β w' (star (row Eb sz enc a0' cap' (xs ++ ys)) R0) → K a' w') :
    Oper.wp P { dst := some d, op := .call { callee := .builtin .append, args := #[x, y], argTypes := #[t, t] }, type := ty, pos, after, guard := none } a w K Q := by
  subst hn hm
  have hM := hM.split hs.out
  have hR : R0 = star (row E2 sz enc a1 cap1 ys) R2 := hs2.out
  have hM2 : Mem β w (star (row E2 sz enc a1 cap1 ys) R2) := hR ▸ hM.drop
  obtain ⟨g, rfl⟩ := hM2.row_some hpos
  have hsrc : ∀ j u, (ys.flatMap enc)[j]? = some u → w.cell? ((⟨g, 0, none⟩ : Addr).add j) = some u := fun j u hj => by
    rw [Addr.add_lit, Nat.zero_add]; exact hM2.row_flat rfl hj
  obtain ⟨a0', cap', w', hr, hM'⟩ := append_own hM ht ty ⟨g, 0, none⟩ c ys (fun y _ => henc.len y) hsrc (Enc.flat ys) h63 hby
  refine val hE (w' := w') (v := .slice a0' (xs ++ ys).length cap') (fun _ _ _ _ => ?_) hd fun a' hE' => h a0' cap' a' w' hE' hM'
  simp only [execOp, resolve, invoke, builtin, Sem.run_bind, Sem.run_pure, Result.andThen_ok, List.map_toArray, List.map_cons, List.map_nil, hE.ev hx, hE.ev hy, hr]
/-- x[:0:0]: nothing of it, and no room. -/
theorem R.sliceNone {P : Program} {a : Act} {w : World} {n : Nat} {D : List Deferred} {E : List (Nat × Value)} {ty : TypeId} {t : TypeId} {x : Operand} {ad : Option Addr} {l c : Nat} (hE : Env n D a E) (e z : Nat) (ht : sliceB P t e z = true) (hx : evE E x = some (.slice ad l c)) :
    Runs P (.slice t x none (some (.const (.int .i64 0))) (some (.const (.int .i64 0)))) ty a w (.slice ad 0 0) w := fun _ _ _ _ => by
  obtain ⟨h1, h2⟩ := sliceB_spec ht
  have hc : a.eval (.const (.int .i64 0)) = .int .i64 0 := rfl
  simp [execOp, hE.ev hx, hc, Instr.sliceAt, Instr.slice, run_underlying h1, Instr.sliceBounds, Instr.sliceBound, asIntOf, h2]
end
end Go.Sv
