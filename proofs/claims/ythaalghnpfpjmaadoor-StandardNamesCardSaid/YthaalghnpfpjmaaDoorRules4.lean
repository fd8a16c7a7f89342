import Derived.Test.YthaalghnpfpjmaaDoorRules3
import Derived.Test.YthaalghnpfpjmaaDoorMach
import Derived.Laws.IdiomStrings
import Derived.Laws.ByValue
import Derived.Great.BuildSlice
import Derived.Lib.Builder
import Derived.Lib.UnsafeStr
import Derived.Laws.Externs
import Derived.Laws.Strings
set_option linter.all false
/-! Own words: the runes of a string of single bytes. -/
namespace Go.Sv
open Go.RowKit
def bytesInts (s : ByteArray) : List Int := s.data.toList.map fun x => (x.toNat : Int)
/-- Single bytes alone. -/
def ascii (s : ByteArray) : Prop := ∀ j, j < s.size → (s.get! j).toNat < 128
theorem bytesInts_length (s : ByteArray) : (bytesInts s).length = s.size := by simp [bytesInts]
theorem get!_list (s : ByteArray) (i : Nat) (h : i < s.size) : s.get! i = s.data.toList[i]'(by simpa using h) := by
  have h2 : i < s.data.size := h
  have e : s.get! i = s.data[i]! := rfl
  rw [e, getElem!_pos s.data i h2]
  simp
theorem runesFrom_ascii {s : ByteArray} (h : ascii s) : ∀ (k i : Nat) (acc : Array Value), i + k = s.size → Conv.runesFrom s k i acc = acc ++ (((bytesInts s).drop i).map (Value.int .i32)).toArray
  | 0, i, acc, hi => by
    have : (bytesInts s).drop i = [] := List.drop_eq_nil_of_le (by rw [bytesInts_length]; omega)
    simp [Conv.runesFrom, this]
  | k + 1, i, acc, hi => by
    have hlt : i < s.size := by omega
    have hl : i < (bytesInts s).length := by rw [bytesInts_length]; exact hlt
    unfold Conv.runesFrom
    rw [if_pos hlt, decode_ascii (h i hlt)]
    simp only []
    rw [runesFrom_ascii h k (i + 1) _ (by omega), List.drop_eq_getElem_cons hl]
    have e : (bytesInts s)[i] = Int.ofNat (s.get! i).toNat := by
      rw [get!_list s i hlt]
      simp [bytesInts]
    rw [e]
    simp
def strRunesB (P : Program) (src dst e : Nat) : Bool :=
  (match P.underlying src with | some .string => true | _ => false) && (match P.underlying dst with | some (.slice x) => x == e | _ => false) && (match P.underlying e with | some (.int .i32) => true | _ => false)
theorem strRunesB_spec {P : Program} {src dst e : Nat} (h : strRunesB P src dst e = true) : P.underlying src = some .string ∧ P.underlying dst = some (.slice e) ∧ P.underlying e = some (.int .i32) := by
  unfold strRunesB at h
  simp only [Bool.and_eq_true] at h
  obtain ⟨⟨h1, h2⟩, h3⟩ := h
  refine ⟨?_, ?_, ?_⟩
  · split at h1 <;> first | assumption | cases h1
  · split at h2
    · rename_i x hx; rw [hx]; simp at h2; rw [h2]
    · cases h2
  · split at h3 <;> first | assumption | cases h3
theorem flat_one : ∀ l : List Int, l.flatMap (fun i => [Value.int .i32 i]) = l.map (Value.int .i32)
  | [] => rfl
  | y :: r => by rw [List.flatMap_cons, flat_one r]; rfl
section
variable {P : Program} {Q : Exit → Act → World → Prop} {K : Act → World → Prop} {β : Base} {a : Act} {w : World} {n : Nat} {D : List Deferred} {E : List (Nat × Value)} {ty : TypeId} {pos : String} {after : Array Edge} {H R : HProp}
theorem strRunes (hE : Env n D a E) (hM : Mem β w H) {src dst : Nat} {x : Operand} {d : Nat} {s : ByteArray} (e : Nat) (ht : strRunesB P src dst e = true) (hx : evE E x = some (.string s)) (hA : ascii s) (hs : s.size ≤ 1000) (hd : Nat.blt d n = true)
    (h : ∀ a0 cap a' w', Env n D a' ((d, .slice a0 (bytesInts s).length cap) :: E) → Mem β w' (star (row e 1 rune a0 cap (bytesInts s)) H) → K a' w') :
    Oper.wp P { dst := some d, op := .convert src dst x, type := ty, pos, after, guard := none } a w K Q := by
  obtain ⟨h1, h2, h3⟩ := strRunesB_spec ht
  have hr := runesFrom_ascii hA s.size 0 #[] (by omega)
  simp only [List.drop_zero, Array.empty_append] at hr
  have hsz : (Conv.runesFrom s s.size 0 #[]).size = (bytesInts s).length := by rw [hr]; simp
  have hl := bytesInts_length s
  have hrun := run_runes_of_string (P := P) w src dst e s h1 h2 h3 (by rw [hsz, hl]; omega)
  rw [hsz, hr] at hrun
  rw [show ((bytesInts s).map (Value.int .i32)).toArray ++ Array.replicate (grownCap w (bytesInts s).length 0 e - (bytesInts s).length) (Value.int .i32 0) = ((bytesInts s).map (Value.int .i32) ++ List.replicate (grownCap w (bytesInts s).length 0 e - (bytesInts s).length) (Value.int .i32 0)).toArray by simp] at hrun
  have hge := grownCap_ge w (bytesInts s).length 0 e
  have hcm := grownCap_le_maxLen w (bytesInts s).length 0 e (by rw [hl]; unfold maxLen; omega)
  have hfl : (bytesInts s).flatMap (fun i => [Value.int .i32 i]) = (bytesInts s).map (Value.int .i32) := by
    exact flat_one _
  have hrow := hM.row_new (E := e) (sz := 1) (enc := fun i => [Value.int .i32 i]) (xs := bytesInts s) ((bytesInts s).map (Value.int .i32) ++ List.replicate (grownCap w (bytesInts s).length 0 e - (bytesInts s).length) (Value.int .i32 0))
    (grownCap w (bytesInts s).length 0 e) (fun _ _ => rfl) hge hcm (by simp; omega) ⟨_, by rw [hfl]⟩
  have hR : Runs P (.convert src dst x) ty a w (.slice (some ⟨w.heap.size, 0, none⟩) (bytesInts s).length (grownCap w (bytesInts s).length 0 e)) (w.drew.alloc (.cells ((bytesInts s).map (Value.int .i32) ++ List.replicate (grownCap w (bytesInts s).length 0 e - (bytesInts s).length) (Value.int .i32 0)).toArray e)) := fun _ _ _ _ => by
    simp only [execOp, hE.ev hx, Sem.run_bind, hrun]
    rfl
  exact val hE hR hd fun a' hE' => h _ _ a' _ hE' hrow
end
end Go.Sv
/-! Own words: closures, arrays that are read, the lesser of two numbers, widths. -/
namespace Go.Sv
open Go.RowKit
section
variable {P : Program} {Q : Exit → Act → World → Prop} {K : Act → World → Prop} {β : Base} {a : Act} {w : World} {n : Nat} {D : List Deferred} {E : List (Nat × Value)} {ty : TypeId} {pos : String} {after : Array Edge} {H R : HProp}
theorem R.mkClo (hE : Env n D a E) {f : FuncId} {caps : List Operand} {vs : List Value} (hc : evs E caps = some vs) :
    Runs P (.makeFunc (.func f) #[] caps.toArray) ty a w (.func (.func f) #[] vs.toArray) w := fun _ _ _ _ => by
  have := hE.evs hc
  simp [execOp, Instr.makeFunc] at this ⊢
  exact this
theorem callV (hE : Env n D a E) {d t : Nat} {f : FuncId} {caps : Array Value} {as : List Operand} {ts : Array TypeId} {vs : List Value} {Hp F : HProp} {Rp : Value → HProp} (hl : lookE E t = some (.func (.func f) #[] caps)) (hc : callB P f = true) (hS : Spec P f (vs ++ caps.toList) Hp Rp) (hargs : evs E as = some vs) (hM : Mem β w (star Hp F)) (hd : Nat.blt d n = true)
    (h : ∀ a' w' v, Env n D a' ((d, v) :: E) → Mem β w' (star (Rp v) F) → K a' w') :
    Oper.wp P { dst := some d, op := .call { callee := .value (.tmp t), args := as.toArray, argTypes := ts }, type := ty, pos, after, guard := none } a w K Q := by
  unfold Oper.wp
  have hrun : (execOp a.eval { dst := some d, op := .call { callee := .value (.tmp t), args := as.toArray, argTypes := ts }, type := ty, pos, after, guard := none }).run P w = .ok (.enter f (vs ++ caps.toList).toArray) w := by
    have h1 := hE.evs hargs
    have h2 : a.eval (.tmp t) = .func (.func f) #[] caps := hE.ev (x := .tmp t) hl
    simp [execOp, resolve, Deferred.ofValue, invoke, h2, callB_spec hc] at h1 ⊢
    have h3 : Array.map a.eval as.toArray = vs.toArray := by simpa using h1
    first | (rw [← h1]; done) | (simp [h1]; done) | skip
  rw [hrun, Oper.upon_enter]
  refine (hS β w F hM).mono fun e w'' hh => ?_
  obtain ⟨v, rfl, hm⟩ := hh
  exact h _ _ v (hE.put d v hd) hm
theorem callVM (hE : Env n D a E) {d t : Nat} {f : FuncId} {caps : Array Value} {as : List Operand} {ts : Array TypeId} {vs : List Value} {Hp F : HProp} {r : Value} {H' : HProp} (hl : lookE E t = some (.func (.func f) #[] caps)) (hargs : evs E as = some vs) (hS : Fm P f (vs ++ caps.toList) Hp r H') (hc : callB P f = true) (hM : Mem β w (star Hp F)) (hd : Nat.blt d n = true)
    (h : ∀ a' w', Env n D a' ((d, r) :: E) → Mem β w' (star H' F) → K a' w') :
    Oper.wp P { dst := some d, op := .call { callee := .value (.tmp t), args := as.toArray, argTypes := ts }, type := ty, pos, after, guard := none } a w K Q := by
  refine callV hE hl hc hS hargs hM hd fun a' w' v hE' hM' => ?_
  obtain ⟨e, m2⟩ := (hM'.cast (star_assoc _ _ _)).fact
  subst e
  exact h a' w' hE' m2
theorem R.min2 (hE : Env n D a E) {ts : Array TypeId} {x y : Operand} {k : IntKind} {i j : Int} (hx : evE E x = some (.int k i)) (hy : evE E y = some (.int k j)) :
    Runs P (.call { callee := .builtin .min, args := #[x, y], argTypes := ts }) ty a w (.int k (min i j)) w := fun _ _ _ _ => by
  have e : (if j < i then j else i) = min i j := by omega
  simp [execOp, resolve, invoke, builtin, hE.ev hx, hE.ev hy, Builtin.min_, Builtin.min2, e]
theorem R.conv64 (hE : Env n D a E) {s t : TypeId} {x : Operand} {i : Int} {q : IntKind} (hs : (P.underlying s).isSome = true) (ht : P.underlying t = some (.int .i64)) (hx : evE E x = some (.int q i)) (h1 : -9223372036854775808 ≤ i) (h2 : i ≤ 9223372036854775807) :
    Runs P (.convert s t x) ty a w (.int .i64 i) w := by have := R.convInt (P := P) (ty := ty) (w := w) hE hs ht hx; rwa [wrap64_id h1 h2] at this
theorem R.conv32 (hE : Env n D a E) {s t : TypeId} {x : Operand} {i : Int} {q : IntKind} (hs : (P.underlying s).isSome = true) (ht : P.underlying t = some (.int .i32)) (hx : evE E x = some (.int q i)) (h1 : -2147483648 ≤ i) (h2 : i ≤ 2147483647) :
    Runs P (.convert s t x) ty a w (.int .i32 i) w := by have := R.convInt (P := P) (ty := ty) (w := w) hE hs ht hx; rwa [wrap32_id h1 h2] at this
def arrayB (P : Program) (t n e sz : Nat) : Bool :=
  match P.underlying t with
  | some (.array n' e') => (n' == n) && (e' == e) && (match P.info? e with | some i => i.size == sz | none => false)
  | _ => false
theorem arrayB_spec {P : Program} {t n e sz : Nat} (h : arrayB P t n e sz = true) : P.underlying t = some (.array n e) ∧ ∀ w, (sizeOf e).run P w = .ok sz w := by
  unfold arrayB at h
  split at h
  · rename_i n' e' hu
    simp only [Bool.and_eq_true, beq_iff_eq] at h
    obtain ⟨⟨rfl, rfl⟩, h⟩ := h
    refine ⟨hu, fun w => ?_⟩
    split at h
    · rename_i i hi
      have hz := eq_of_beq h
      simp [sizeOf, typeInfo, hi, hz]
    · cases h
  · cases h
theorem R.indexArr (hE : Env n D a E) {t : TypeId} (len e sz : Nat) (ht : arrayB P t len e sz = true) {x y : Operand} {b o : Nat} {k : IntKind} {i : Int} (hx : evE E x = some (.pointer (some ⟨b, o, none⟩))) (hy : evE E y = some (.int k i))
    (j : Nat) (hi : i = j) (hl : j < len) : Runs P (.indexAddr t x y) ty a w (.pointer (some ⟨b, o + j * sz, none⟩)) w := fun _ _ _ _ => by
  obtain ⟨h1, h2⟩ := arrayB_spec ht
  subst hi
  have he : P.elem t = e := by simp [Program.elem, h1]
  have hn : P.arrayLen t = len := by simp [Program.arrayLen, h1]
  have h1' : P.underlying t = some (.array (P.arrayLen t) (P.elem t)) := by rw [he, hn]; exact h1
  have := run_indexAt_array (P := P) (w := w) t ⟨b, o, none⟩ k (j : Int) h1'
  rw [if_pos (by omega), he, h2] at this
  simp [execOp, hE.ev hx, hE.ev hy, this, Addr.add_lit]
theorem wp_seq2 {x y z : Code} (h : ∀ K2 : Act → World → Prop, (∀ a w, z.wp P Q a w → K2 a w) → ∀ K1 : Act → World → Prop, (∀ a w, y.wp P (Exit.then K2 Q) a w → K1 a w) → x.wp P (Exit.then K1 Q) a w) : (Code.seq x (.seq y z)).wp P Q a w :=
  wp_seq (h _ (fun _ _ h => h) _ fun _ _ h => wp_seq h)
end
end Go.Sv
/-! Own words: a great literal of structs: many builds and one slice of them. -/
namespace Go.Sv
open Go.RowKit
def constParts : List (Nat × Operand) → Option (List (Nat × Value))
  | [] => some []
  | (i, .const v) :: r => (constParts r).map ((i, v) :: ·)
  | _ :: _ => none
def buildVal (P : Program) (d : Nat) (o : Oper) : Option (Array Value) :=
  match o with
  | { dst := some d', op := .build t parts, guard := none, .. } => if d' = d then (constParts parts.toList).bind (P.built t) else none
  | _ => none
def runBuilds (P : Program) (d : Nat) : List Oper → Option (List (Array Value))
  | [] => some []
  | o :: l => (buildVal P d o).bind fun v => (runBuilds P (d + 1) l).map (v :: ·)
def accE (d : Nat) : List Value → List (Nat × Value) → List (Nat × Value)
  | [], E => E
  | v :: vs, E => accE (d + 1) vs ((d, v) :: E)
theorem lookE_accE_lt : ∀ (vs : List Value) (d : Nat) (E : List (Nat × Value)) (t : Nat), t < d → lookE (accE d vs E) t = lookE E t
  | [], _, _, _, _ => rfl
  | v :: vs, d, E, t, h => by
    rw [accE, lookE_accE_lt vs (d + 1) _ t (by omega), lookE]
    have : Nat.beq d t = false := by cases e : Nat.beq d t <;> first | rfl | (have := Nat.eq_of_beq_eq_true e; omega)
    rw [this]; rfl
theorem lookE_accE : ∀ (vs : List Value) (d : Nat) (E : List (Nat × Value)) (i : Nat) (h : i < vs.length), lookE (accE d vs E) (d + i) = some vs[i]
  | v :: vs, d, E, 0, _ => by
    show lookE (accE (d + 1) vs ((d, v) :: E)) d = some v
    rw [lookE_accE_lt vs (d + 1) _ d (by omega), lookE, Nat.beq_refl]; rfl
  | v :: vs, d, E, i + 1, h => by
    rw [accE, show d + (i + 1) = (d + 1) + i by omega, lookE_accE vs (d + 1) _ i (by simpa using h)]
    rfl
theorem constParts_eval (a : Act) : ∀ (l : List (Nat × Operand)) (ps : List (Nat × Value)), constParts l = some ps → l.map (fun p => (p.1, a.eval p.2)) = ps
  | [], ps, h => by simp [constParts] at h; simp [h]
  | (i, x) :: r, ps, h => by
    cases x <;> simp only [constParts] at h <;> try (cases h; done)
    rename_i v
    cases hr : constParts r with
    | none => rw [hr] at h; cases h
    | some qs =>
      rw [hr] at h
      simp at h
      subst h
      rw [List.map_cons, constParts_eval a r qs hr]; rfl
section
variable {P : Program} {Q : Exit → Act → World → Prop} {K : Act → World → Prop} {β : Base} {a : Act} {w : World} {n : Nat} {D : List Deferred} {E : List (Nat × Value)} {ty : TypeId} {pos : String} {after : Array Edge} {H R : HProp}
theorem buildsR {all : Array Oper} {rest : List Oper} : ∀ (l : List Oper) (vs : List (Array Value)) (d : Nat) (a : Act) (E : List (Nat × Value)), runBuilds P d l = some vs → Env n D a E → d + l.length ≤ n →
    (∀ a', Env n D a' (accE d (vs.map Value.agg) E) → wpList P all Q rest a' w) → wpList P all Q (l ++ rest) a w
  | [], vs, d, a, E, hB, hE, _, h => by
    simp [runBuilds] at hB
    subst hB
    exact h a hE
  | o :: l, vs, d, a, E, hB, hE, hn, h => by
    unfold runBuilds at hB
    cases hv : buildVal P d o with
    | none => rw [hv] at hB; cases hB
    | some cs =>
      rw [hv] at hB
      simp only [Option.bind_some] at hB
      cases hr : runBuilds P (d + 1) l with
      | none => rw [hr] at hB; cases hB
      | some us =>
        rw [hr] at hB
        simp at hB
        subst hB
        unfold buildVal at hv
        split at hv
        · rename_i d' t parts ty' pos' after'
          split at hv
          · rename_i e
            subst e
            cases hc : constParts parts.toList with
            | none => rw [hc] at hv; cases hv
            | some ps =>
              rw [hc] at hv
              simp only [Option.bind_some] at hv
              have hb := run_build (P := P) w t ps.toArray cs (by simpa using hv)
              refine one fun C hC => val hE (v := .agg cs) (w' := w) ?_ (by simp at hn; simp [Nat.blt_eq]; omega) fun a1 hE1 => hC _ _ ?_
              · intro _ _ _ _
                have hp := constParts_eval a _ _ hc
                have e2 : parts.map (fun p => (p.1, a.eval p.2)) = ps.toArray := by
                  apply Array.toList_inj.1; simpa using hp
                simp only [execOp]
                simp only [Sem.run_bind, Sem.run_pure]
                first
                  | (rw [show (Array.map (fun x => match x with | (i, x) => (i, a.eval x)) parts) = ps.toArray from e2, hb]; rfl)
                  | (simp [e2, hb]; done)
              · exact buildsR l us (d' + 1) a1 _ hr hE1 (by simp at hn; omega) h
          · cases hv
        · cases hv
def keyOf (o : Oper) : Option Tmp × Op × Option (Nat × Bool) := (o.dst, o.op, o.guard)
def rangeParts (k : Nat) : List (Nat × Operand) := (List.range k).map fun i => (i, .tmp (i + 1))
theorem evp_range (vs : List Value) : ∀ (a : Act) (n : Nat) (D : List Deferred) (E : List (Nat × Value)), Env n D a (accE 1 vs E) → (rangeParts vs.length).map (fun p => (p.1, a.eval p.2)) = (vs.zipIdx 0).map fun x => (x.2, x.1) := by
  intro a n D E hE
  unfold rangeParts
  apply List.ext_getElem
  · simp
  · intro i h1 h2
    have hi : i < vs.length := by simpa using h1
    have hl := hE.ev (x := .tmp (i + 1)) (v := vs[i]) (by show lookE _ (i + 1) = _; rw [Nat.add_comm]; exact lookE_accE vs 1 E i hi)
    simp [hl]
theorem len_two {α : Type} : ∀ l : List α, l.length = 2 → ∃ a b, l = [a, b]
  | [a, b], _ => ⟨a, b, rfl⟩
theorem greatLit {L : List Oper} {all : Array Oper} {vs : List (Array Value)} (k : Nat) {t e sz bytes : Nat} {E : List (Nat × Value)} (hE : Env n D a E) (hM : Mem β w H) (hB : runBuilds P 1 (L.take k) = some vs) (hL : L.length = k + 2) (hk : vs.length = k) (hk0 : 0 < k)
    (h1 : (L.drop k).map keyOf = [(some (k + 1), .buildSlice t k (rangeParts k).toArray, none), (some 0, .assign (.tmp (k + 1)), none)])
    (ht : elemB P t e sz bytes = true) (hsz : 0 < sz) (hsm : k * sz ≤ 2 ^ 24) (hv : ∀ v ∈ vs, v.size = sz) (hn : k + 1 < n)
    (h : ∀ b a' w', Env n D a' [(0, .slice (some ⟨b, 0, none⟩) k k)] → Mem β w' (star (pts b e (vs.flatMap fun v => v.toList)) H) → Q .normal a' w') : wpList P all Q L a w := by
  rw [← List.take_append_drop k L]
  refine buildsR (L.take k) vs 1 a E hB hE (by simp; omega) fun a1 hE1 => ?_
  have h2 : (L.drop k).length = 2 := by simp; omega
  generalize L.drop k = L2 at h1 h2
  obtain ⟨o1, o2, rfl⟩ := len_two _ h2
  obtain ⟨d1, p1, ty1, pos1, af1, g1⟩ := o1
  obtain ⟨d2, p2, ty2, pos2, af2, g2⟩ := o2
  simp [keyOf] at h1
  obtain ⟨⟨rfl, rfl, rfl⟩, rfl, rfl, rfl⟩ := h1
  obtain ⟨hu, i, z, hi, hz, hs, _, hzs⟩ := elemB_spec ht
  refine one fun C hC => litSlice (parts := rangeParts k) hE1 hM e (vs.flatMap fun v => v.toList) (fun w => ?_) (by simp [Nat.blt_eq]; omega) fun b a2 w2 hE2 hM2 => hC _ _ ?_
  · have hf := Great.fill_whole hsz (vs.map Value.agg) ((Array.range (k * sz)).map (z.cells[· % z.cells.size]!)) (fun v hv' => by obtain ⟨u, hu', rfl⟩ := List.mem_map.1 hv'; exact hv u hu') (by simp [hk])
    have hev := evp_range (vs.map Value.agg) a1 n D E hE1
    rw [List.length_map, hk] at hev
    have := run_buildSlice (P := P) w t e k ((rangeParts k).map fun p => (p.1, a1.eval p.2)).toArray _ i z hu hi hz (by rw [hs]; omega) (by rw [hs]; exact Nat.ne_of_gt (Nat.mul_pos hk0 hsz)) (by rw [hs]; simp only [hev]; exact hf)
    rw [this]
    simp [List.flatMap_map, Value.cells]
  · refine one fun C hC => val hE2 (w' := w2) (R.assign hE2 (v := .slice (some ⟨b, 0, none⟩) k k) ?_) (by simp [Nat.blt_eq]; omega) fun a3 hE3 => hC _ _ ?_
    · show lookE _ (k + 1) = _
      rw [lookE, Nat.beq_refl]; rfl
    · exact wpList_nil (h b a3 w2 (hE3.keep ⟨rfl, trivial⟩) hM2)
end
end Go.Sv
/-! Own words: slices of some cells written out; the bytes of a rune. -/
namespace Go.Sv
open Go.RowKit
set_option maxRecDepth 10000
section
variable {P : Program} {Q : Exit → Act → World → Prop} {K : Act → World → Prop} {β : Base} {a : Act} {w : World} {n : Nat} {D : List Deferred} {E : List (Nat × Value)} {ty : TypeId} {pos : String} {after : Array Edge} {H R : HProp}
theorem litN (hE : Env n D a E) (hM : Mem β w H) {t len : Nat} {parts : List (Nat × Operand)} {vs : List Value} {d e bytes : Nat} (ht : elemB P t e 1 bytes = true) (hp : evp E parts = some ((vs.zipIdx 0).map fun x => (x.2, x.1))) (hv : ∀ v ∈ vs, v.cells = #[v]) (hl : len = vs.length) (h0 : 0 < len) (h1 : len ≤ 1000) (hd : Nat.blt d n = true)
    (h : ∀ b a' w', Env n D a' ((d, .slice (some ⟨b, 0, none⟩) len len) :: E) → Mem β w' (star (pts b e vs) H) → K a' w') :
    Oper.wp P { dst := some d, op := .buildSlice t len parts.toArray, type := ty, pos, after, guard := none } a w K Q := by
  refine litSlice (parts := parts) hE hM e vs (fun w => ?_) hd h
  obtain ⟨hu, i, z, hi, hz, hs, _, hzs⟩ := elemB_spec ht
  have hf := Great.fill_flat vs ((Array.range (len * 1)).map (z.cells[· % z.cells.size]!)) hv (by simp [hl])
  have := run_buildSlice (P := P) w t e len (parts.map fun p => (p.1, a.eval p.2)).toArray _ i z hu hi hz (by rw [hs]; omega) (by rw [hs]; omega) (by rw [hs]; simp only [hE.evp hp]; exact hf)
  exact this
end
def encB (r : Int) : List Int := (Utf8.encode r).data.toList.map fun x => (x.toNat : Int)
theorem valid_nat {n : Nat} (h : n ≤ 1114111) (h2 : n < 55296 ∨ 57343 < n) : Utf8.valid (n : Int) = true := by
  unfold Utf8.valid
  simp only [Bool.or_eq_true, Bool.and_eq_true, decide_eq_true_eq]
  omega
theorem u8_nat (m : Nat) (h : m < 256) : (((UInt8.ofNat m).toNat : Nat) : Int) = (m : Int) := by
  rw [UInt8.toNat_ofNat']; omega
theorem encode_nat {n : Nat} (h : n ≤ 1114111) (h2 : n < 55296 ∨ 57343 < n) : Utf8.encode (n : Int) = (if n < 0x80 then ⟨#[UInt8.ofNat n]⟩
  else if n < 0x800 then ⟨#[UInt8.ofNat (0xC0 + n / 64), UInt8.ofNat (0x80 + n % 64)]⟩
  else if n < 0x10000 then ⟨#[UInt8.ofNat (0xE0 + n / 4096), UInt8.ofNat (0x80 + n / 64 % 64), UInt8.ofNat (0x80 + n % 64)]⟩
  else ⟨#[UInt8.ofNat (0xF0 + n / 262144), UInt8.ofNat (0x80 + n / 4096 % 64), UInt8.ofNat (0x80 + n / 64 % 64), UInt8.ofNat (0x80 + n % 64)]⟩) := by
  unfold Utf8.encode
  rw [valid_nat h h2]
  rfl
theorem encB_one {n : Nat} (h : n < 128) : encB n = [(n : Int)] := by
  unfold encB
  rw [encode_nat (by omega) (by omega), if_pos h]
  show [(((UInt8.ofNat n).toNat : Nat) : Int)] = _
  rw [u8_nat n (by omega)]
theorem encB_two {n : Nat} (h0 : 128 ≤ n) (h : n < 2048) : encB n = [((192 + n / 64 : Nat) : Int), ((128 + n % 64 : Nat) : Int)] := by
  unfold encB
  rw [encode_nat (by omega) (by omega), if_neg (by omega), if_pos h]
  show [(((UInt8.ofNat (192 + n / 64)).toNat : Nat) : Int), (((UInt8.ofNat (128 + n % 64)).toNat : Nat) : Int)] = _
  rw [u8_nat _ (by omega), u8_nat _ (by omega)]
theorem encB_three {n : Nat} (h0 : 2048 ≤ n) (h : n < 65536) (h2 : n < 55296 ∨ 57343 < n) : encB n = [((224 + n / 4096 : Nat) : Int), ((128 + n / 64 % 64 : Nat) : Int), ((128 + n % 64 : Nat) : Int)] := by
  unfold encB
  rw [encode_nat (by omega) h2, if_neg (by omega), if_neg (by omega), if_pos h]
  show [(((UInt8.ofNat (224 + n / 4096)).toNat : Nat) : Int), (((UInt8.ofNat (128 + n / 64 % 64)).toNat : Nat) : Int), (((UInt8.ofNat (128 + n % 64)).toNat : Nat) : Int)] = _
  rw [u8_nat _ (by omega), u8_nat _ (by omega), u8_nat _ (by omega)]
theorem encB_four {n : Nat} (h0 : 65536 ≤ n) (h : n ≤ 1114111) : encB n = [((240 + n / 262144 : Nat) : Int), ((128 + n / 4096 % 64 : Nat) : Int), ((128 + n / 64 % 64 : Nat) : Int), ((128 + n % 64 : Nat) : Int)] := by
  unfold encB
  rw [encode_nat h (by omega), if_neg (by omega), if_neg (by omega), if_neg (by omega)]
  show [(((UInt8.ofNat (240 + n / 262144)).toNat : Nat) : Int), (((UInt8.ofNat (128 + n / 4096 % 64)).toNat : Nat) : Int), (((UInt8.ofNat (128 + n / 64 % 64)).toNat : Nat) : Int), (((UInt8.ofNat (128 + n % 64)).toNat : Nat) : Int)] = _
  rw [u8_nat _ (by omega), u8_nat _ (by omega), u8_nat _ (by omega), u8_nat _ (by omega)]
theorem encB_bad {n : Nat} (h0 : 55296 ≤ n) (h : n ≤ 57343) : encB n = [239, 191, 189] := by
  have hv : Utf8.valid (n : Int) = false := by
    unfold Utf8.valid
    simp only [Bool.or_eq_false_iff, Bool.and_eq_false_iff, decide_eq_false_iff_not]
    omega
  have e : Utf8.encode (n : Int) = Utf8.encode (65533 : Int) := by
    unfold Utf8.encode
    rw [hv]
    rfl
  unfold encB
  rw [e]
  decide
theorem or_head (c : Nat) (m : Nat) (hc : (c = 192 ∧ m = 32) ∨ (c = 224 ∧ m = 16) ∨ (c = 240 ∧ m = 8)) {q : Nat} (hq : q < m) : bits .or .u8 (c : Int) (IntKind.u8.wrap (q : Int)) = ((c + q : Nat) : Int) := by
  rcases hc with ⟨rfl, rfl⟩ | ⟨rfl, rfl⟩ | ⟨rfl, rfl⟩
  · exact (by decide : ∀ q : Fin 32, bits .or .u8 ((192 : Nat) : Int) (IntKind.u8.wrap (q.val : Int)) = ((192 + q.val : Nat) : Int)) ⟨q, hq⟩
  · exact (by decide : ∀ q : Fin 16, bits .or .u8 ((224 : Nat) : Int) (IntKind.u8.wrap (q.val : Int)) = ((224 + q.val : Nat) : Int)) ⟨q, hq⟩
  · exact (by decide : ∀ q : Fin 8, bits .or .u8 ((240 : Nat) : Int) (IntKind.u8.wrap (q.val : Int)) = ((240 + q.val : Nat) : Int)) ⟨q, hq⟩
theorem or_tail (q : Nat) : bits .or .u8 128 (bits .and .u8 (IntKind.u8.wrap (q : Int)) 63) = ((128 + q % 64 : Nat) : Int) := by
  have e : IntKind.u8.wrap (q : Int) = ((q % 256 : Nat) : Int) := by rw [IntKind.wrap_u8]; omega
  rw [e]
  have := (by decide : ∀ m : Fin 256, bits .or .u8 128 (bits .and .u8 (m.val : Int) 63) = ((128 + m.val % 64 : Nat) : Int)) ⟨q % 256, Nat.mod_lt _ (by omega)⟩
  simp only at this
  rw [this]; omega
theorem shr_nat (n k : Nat) : (n : Int) / 2 ^ ((k : Int)).toNat = ((n / 2 ^ k : Nat) : Int) := by
  simp
end Go.Sv
namespace Go.Sv
open Go.RowKit
section
variable {P : Program} {Q : Exit → Act → World → Prop} {K : Act → World → Prop} {β : Base} {a : Act} {w : World} {n : Nat} {D : List Deferred} {E : List (Nat × Value)} {ty : TypeId} {pos : String} {after : Array Edge} {H R : HProp}
theorem R.convU32 (hE : Env n D a E) {s t : TypeId} {x : Operand} {i : Int} {q : IntKind} (hs : (P.underlying s).isSome = true) (ht : P.underlying t = some (.int .u32)) (hx : evE E x = some (.int q i)) (h1 : 0 ≤ i) (h2 : i ≤ 4294967295) :
    Runs P (.convert s t x) ty a w (.int .u32 i) w := by
  have := R.convInt (P := P) (ty := ty) (w := w) hE hs ht hx
  rwa [show IntKind.u32.wrap i = i by rw [IntKind.wrap_u32]; omega] at this
end
end Go.Sv
/-! Own words: pointers held against nil and themselves; unsafe; a string out of a row of bytes. -/
namespace Go.Sv
open Go.RowKit
def ptrB (P : Program) (t e : Nat) : Bool := (match P.underlying t with | some (.pointer e') => e' == e | _ => false) && (P.info? e).isSome
theorem ptrB_spec {P : Program} {t e : Nat} (h : ptrB P t e = true) : P.underlying t = some (.pointer e) ∧ ∃ j, P.info? e = some j := by
  unfold ptrB at h
  simp only [Bool.and_eq_true] at h
  obtain ⟨h1, h2⟩ := h
  split at h1
  · rename_i e' hu
    have := eq_of_beq h1
    subst this
    exact ⟨hu, Option.isSome_iff_exists.1 h2⟩
  · cases h1
def toUnsafeB (P : Program) (s d t : Nat) : Bool := ptrB P s t && (match P.underlying d with | some .unsafePointer => true | _ => false) && (match P.info? t with | some j => j.size != 0 | none => false)
def liesB (P : Program) (t n : Nat) : Bool := liesAt P P.depth t (n / P.cellsOf t) 0 t 1
def extB (P : Program) (f : Nat) : Bool := match P.funcs[f]? with | some fn => !(fn.name == "runtime.NumGoroutine") && fn.body.isNone && (Extern.findNext fn).isNone | none => false
section
variable {P : Program} {Q : Exit → Act → World → Prop} {K : Act → World → Prop} {β : Base} {a : Act} {w : World} {n : Nat} {D : List Deferred} {E : List (Nat × Value)} {ty : TypeId} {pos : String} {after : Array Edge} {H R : HProp}
theorem R.eqlPN (hE : Env n D a E) {t e yt : TypeId} {x y : Operand} {p : Option Addr} (ht : ptrB P t e = true) (hx : evE E x = some (.pointer p)) (hy : evE E y = some (.pointer none)) :
    Runs P (.binOp .eql t x y yt) ty a w (.bool p.isNone) w := fun _ _ _ _ => by
  have h := (ptrB_spec ht).1
  have := run_eql_pointer_nil w t p (P := P) (by rw [show P.pointee t = e by simp [Program.pointee, h]]; exact h)
  cases p <;> simp [execOp, hE.ev hx, hE.ev hy, this, eqGuard]
theorem R.neqPS (hE : Env n D a E) {t e yt : TypeId} {x y : Operand} {p : Addr} (ht : ptrB P t e = true) (hx : evE E x = some (.pointer (some p))) (hy : evE E y = some (.pointer (some p))) :
    Runs P (.binOp .neq t x y yt) ty a w (.bool false) w := fun _ _ _ _ => by
  obtain ⟨h, j, hj⟩ := ptrB_spec ht
  have := Lib.run_neq_ptr_same (P := P) w p h hj
  simp [execOp, hE.ev hx, hE.ev hy, this, eqGuard]
theorem Mem.shape {b Eb : Nat} {cs : List Value} (hM : Mem β w H) [hs : FindP H b Eb cs R] : w.shape? b = some (Eb, cs.length) := by
  have := Mem.blk (hM.split hs.out)
  simp [World.shape?, this]
theorem R.toUnsafe (hE : Env n D a E) {s d t b Eb : Nat} {cs : List Value} {x : Operand} (ht : toUnsafeB P s d t = true) (hx : evE E x = some (.pointer (some ⟨b, 0, none⟩))) (hM : Mem β w H) [hs : FindP H b Eb cs R] (hl : 0 < cs.length) :
    Runs P (.convert s d x) ty a w (.pointer (some ⟨b, 0, none⟩)) w := fun _ _ _ _ => by
  unfold toUnsafeB at ht
  simp only [Bool.and_eq_true] at ht
  obtain ⟨⟨h1, h2⟩, h3⟩ := ht
  obtain ⟨h1, j, hj⟩ := ptrB_spec h1
  have hd : P.underlying d = some .unsafePointer := by split at h2 <;> first | assumption | cases h2
  rw [hj] at h3
  have := Lib.run_to_unsafe (P := P) w ⟨b, 0, none⟩ h1 hd hj (by simpa using h3) hM.shape hl
  simp [execOp, hE.ev hx, this]
theorem R.fromUnsafe (hE : Env n D a E) {s d u b : Nat} {cs : List Value} {x : Operand} (hs : P.underlying s = some .unsafePointer) (hd : ptrB P d u = true) (hx : evE E x = some (.pointer (some ⟨b, 0, none⟩))) (hM : Mem β w H) [hf : FindP H b u cs R] (hl : liesB P u cs.length = true) :
    Runs P (.convert s d x) ty a w (.pointer (some ⟨b, 0, none⟩)) w := fun _ _ _ _ => by
  obtain ⟨h1, j, hj⟩ := ptrB_spec hd
  have := Lib.run_from_unsafe (P := P) w ⟨b, 0, none⟩ hs h1 hj (hM.shape) hl
  simp [execOp, hE.ev hx, this]
theorem R.noEscape (hE : Env n D a E) {f : FuncId} {fn : Func} {x : Operand} {v : Value} {ts : Array TypeId} (hf : P.funcs[f]? = some fn) (h1 : (fn.name == "runtime.NumGoroutine") = false) (h2 : fn.body.isNone = true) (h3 : Extern.findNext fn = none) (h4 : Extern.find fn = some Extern.AbiNoEscape.same) (hx : evE E x = some v) :
    Runs P (.call { callee := .value (.func f), args := #[x], argTypes := ts }) ty a w v w := fun _ _ _ _ => by
  have h := run_callFunc_extern hf h1 h2 h3 h4 #[v] w
  rw [Lib.run_noEscape] at h
  have e : a.eval x = v := hE.ev hx
  have e2 : a.eval (.func f) = .func (.func f) #[] #[] := rfl
  simp [execOp, resolve, Deferred.ofValue, invoke, e, e2]
  rw [h]; rfl
theorem R.sliceData (hE : Env n D a E) {t b l c : Nat} {x : Operand} (hx : evE E x = some (.slice (some ⟨b, 0, none⟩) l c)) (hc : c ≠ 0) :
    Runs P (.call { callee := .builtin .unsafeSliceData, args := #[x], argTypes := #[t] }) ty a w (.pointer (some ⟨b, 0, none⟩)) w := fun _ _ _ _ => by
  have := Lib.run_unsafeSliceData_row (P := P) w #[t] ty ⟨b, 0, none⟩ l c hc
  simp [execOp, resolve, invoke, builtin, hE.ev hx, this]
theorem R.sliceDataNil (hE : Env n D a E) {t l c : Nat} {x : Operand} (hx : evE E x = some (.slice none l c)) :
    Runs P (.call { callee := .builtin .unsafeSliceData, args := #[x], argTypes := #[t] }) ty a w (.pointer none) w := fun _ _ _ _ => by
  have := Lib.run_unsafeSliceData_nil (P := P) w #[t] ty l c
  simp [execOp, resolve, invoke, builtin, hE.ev hx, this]
theorem R.unsafeStr0 (hE : Env n D a E) {pt it : TypeId} {x y : Operand} {p : Option Addr} (hx : evE E x = some (.pointer p)) (hy : evE E y = some (.int .i64 0)) :
    Runs P (.call { callee := .builtin .unsafeString, args := #[x, y], argTypes := #[pt, it] }) ty a w (.string .empty) w := fun _ _ _ _ => by
  have := Lib.run_unsafeString_none (P := P) w pt it ty p
  simp [execOp, resolve, invoke, builtin, hE.ev hx, hE.ev hy, this]
theorem Mem.freeze {b Eb : Nat} {cs : List Value} {F : HProp} (h : Mem β w (star (pts b Eb cs) F)) (m : Nat) : Mem β (w.freeze ⟨b, 0, none⟩ m) F := by
  obtain ⟨hb, _, ⟨f, g, hd, rfl, ha, hf⟩, hh⟩ := h
  refine ⟨?_, g, hf, fun k o hk => ?_⟩
  · rw [← hb]; unfold World.freeze; split <;> rfl
  · have hk2 : w.heap[k]? = some o := hh.right hd k o hk
    have hne : k ≠ b := by
      intro e
      subst e
      have ha2 : f = fun c => if c = k then some (.cells cs.toArray Eb (0, 0)) else none := ha
      have := hd k
      rw [ha2] at this
      simp [hk] at this
    unfold World.freeze
    split
    · exact hk2
    · simp only [Array.getElem?_modify]
      rw [if_neg (fun e => hne e.symm)]
      exact hk2
def bytesB (L : List UInt8) : List Int := L.map fun x => (x.toNat : Int)
def unsafeStrB (P : Program) (pt e : Nat) : Bool := (match P.underlying pt with | some (.pointer e') => e' == e | _ => false) && (P.cellsOf e == 1)
theorem unsafeStr (hE : Env n D a E) {pt it e b d : Nat} {x y : Operand} {L : List UInt8} {rest : List Value} {F : HProp} (ht : unsafeStrB P pt e = true) (hx : evE E x = some (.pointer (some ⟨b, 0, none⟩))) (hy : evE E y = some (.int .i64 L.length)) (h0 : L ≠ []) (hL : L.length ≤ 1000000000) (hM : Mem β w (star (pts b e ((bytesB L).map (Value.int .u8) ++ rest)) F)) (hd : Nat.blt d n = true)
    (h : ∀ a' w', Env n D a' ((d, .string ⟨L.toArray⟩) :: E) → Mem β w' F → K a' w') :
    Oper.wp P { dst := some d, op := .call { callee := .builtin .unsafeString, args := #[x, y], argTypes := #[pt, it] }, type := ty, pos, after, guard := none } a w K Q := by
  unfold unsafeStrB at ht
  simp only [Bool.and_eq_true] at ht
  obtain ⟨h1, h2⟩ := ht
  have hp : P.underlying pt = some (.pointer e) := by
    split at h1
    · rename_i e' hu; have := eq_of_beq h1; subst this; exact hu
    · cases h1
  have hsh : w.shape? b = some (e, ((bytesB L).map (Value.int .u8) ++ rest).length) := by
    have := Mem.blk hM
    simp [World.shape?, this]
  have hr := Lib.run_unsafeString_row (P := P) w pt it ty e hp (eq_of_beq h2) b _ hsh L h0 (by simp [bytesB]) (by omega) (fun j x hj => by
    rw [show (⟨b, 0, none⟩ : Addr).add j = ⟨b, j, none⟩ by rw [Addr.add_lit, Nat.zero_add]]
    refine hM.cell ?_
    rw [List.getElem?_append_left (by simp [bytesB]; exact (List.getElem?_eq_some_iff.1 hj).1)]
    simp [bytesB, hj]
    )
  refine val hE (w' := w.freeze ⟨b, 0, none⟩ L.length) ?_ hd fun a' hE' => h a' _ hE' (hM.freeze _)
  intro _ _ _ _
  simp [execOp, resolve, invoke, builtin, hE.ev hx, hE.ev hy, hr]
end
theorem row_some_all {α : Type} {E sz : Nat} {enc : α → List Value} {a : Option Addr} {c : Nat} {xs : List α} {β : Base} {w : World} {F : HProp} (h : Mem β w (star (row E sz enc a c xs) F)) (h0 : xs ≠ []) : ∃ g rest, a = some ⟨g, 0, none⟩ ∧ 0 < c ∧ Mem β w (star (pts g E (xs.flatMap enc ++ rest)) F) := by
  obtain ⟨hb, _, ⟨f, g, hd, rfl, ha, hf⟩, hh⟩ := h
  obtain ⟨_, ⟨rfl, _⟩ | ⟨k, rest, rfl, hl, _, _, hp⟩⟩ := ha
  · exact absurd rfl h0
  · have : 0 < xs.length := List.length_pos_iff.2 h0
    exact ⟨k, rest, rfl, by omega, hb, _, ⟨f, g, hd, rfl, hp, hf⟩, hh⟩
theorem flat_u8 : ∀ l : List Int, l.flatMap (encInt .u8) = l.map (Value.int .u8)
  | [] => rfl
  | y :: r => by rw [List.flatMap_cons, flat_u8 r]; rfl
end Go.Sv
/-! Own words: the shelf's contracts as own ones; a byte of a string. -/
namespace Go.Sv
open Go.RowKit
section
variable {P : Program} {Q : Exit → Act → World → Prop} {K : Act → World → Prop} {β : Base} {a : Act} {w : World} {n : Nat} {D : List Deferred} {E : List (Nat × Value)} {ty : TypeId} {pos : String} {after : Array Edge} {H R : HProp}
theorem fn_of_calls {f : FuncId} {vs : List Value} {r : Value} (h : ∀ w, Calls P f vs.toArray w fun e w' => e = .returned r ∧ w' = w) : Fn P f vs r := by
  intro β w F hM
  refine (h w).mono fun e w' hh => ?_
  obtain ⟨rfl, rfl⟩ := hh
  exact ⟨r, rfl, Mem.mkFact rfl hM.ofEmp⟩
theorem R.strIndex (hE : Env n D a E) {t : TypeId} (ht : stringB P t = true) {x y : Operand} {s : ByteArray} {k : IntKind} {i : Int} (hx : evE E x = some (.string s)) (hy : evE E y = some (.int k i)) (j : Nat) (hi : i = j) (hl : j < s.size) :
    Runs P (.index t x y) ty a w (.int .u8 (s.data.toList[j]'(by simpa using hl)).toNat) w := fun _ _ _ _ => by
  subst hi
  have := run_index_string (P := P) (w := w) t s k (j : Int) (stringB_spec ht)
  rw [dif_pos (by omega)] at this
  have e : (s[(j : Int).toNat]'(by omega)) = s.data.toList[j]'(by simpa using hl) := by
    simp [ByteArray.getElem_eq_getElem_data]
  simp [execOp, hE.ev hx, hE.ev hy, this]
  rfl
end
end Go.Sv
/-! Own words: a result that is a variable; an array's element; a cell of an array that a variable holds. -/
namespace Go.Sv
open Go.RowKit
section
variable {P : Program} {Q : Exit → Act → World → Prop} {K : Act → World → Prop} {β : Base} {a : Act} {w : World} {n : Nat} {D : List Deferred} {E : List (Nat × Value)} {ty : TypeId} {pos : String} {after : Array Edge} {H R R0 F : HProp}
theorem backCell {fn : Func} {R : Value → HProp} {b t m : Nat} {Eb : Nat} {cs : List Value} (hE : Env n [] a E) {x : Nat} (hr : fn.results = #[.cell x t]) (hl : lookE E x = some (.pointer (some ⟨b, 0, none⟩))) (ht : structB P t m = true) (hM : Mem β w H) [hs : FindP H b Eb cs R0] (hm : cs.length = m) (h : Mem β w (star (R (.agg cs.toArray)) F)) : Back P fn β R F a w := by
  refine ⟨hE.defers, .agg cs.toArray, ?_, h⟩
  have ⟨h1, h2⟩ := structB_spec ht w
  have hc : ∀ j v, cs[j]? = some v → w.cell? ((⟨b, 0, none⟩ : Addr).add j) = some v := fun j v hj => by
    rw [Addr.add_lit, Nat.zero_add]
    exact (hM.split hs.out).cell hj
  have := run_loadCells_list (P := P) w ⟨b, 0, none⟩ cs hc
  rw [hm] at this
  have hg := hE.look x _ hl
  simp [results, hr, hg, asAddr, loadVar, h1, h2, this]
theorem R.indexArr0 (hE : Env n D a E) {t : TypeId} (len e : Nat) (ht : arrayB P t len e 1 = true) {x y : Operand} {b : Nat} {k : IntKind} {i : Int} (hx : evE E x = some (.pointer (some ⟨b, 0, none⟩))) (hy : evE E y = some (.int k i))
    (j : Nat) (hi : i = j) (hl : j < len) : Runs P (.indexAddr t x y) ty a w (.pointer (some ⟨b, j, none⟩)) w := by
  have := R.indexArr (P := P) (ty := ty) (w := w) hE len e 1 ht hx hy j hi hl
  rwa [Nat.zero_add, Nat.mul_one] at this
theorem R.arrAt (hE : Env n D a E) {t : TypeId} (len e : Nat) (ht : arrayB P t len e 1 = true) (he : scalarB P e = true) {x y : Operand} {cs : List Value} {k : IntKind} {i : Int} {v : Value} (hx : evE E x = some (.agg cs.toArray)) (hy : evE E y = some (.int k i))
    (j : Nat) (hi : i = j) (hl : j < len) (hv : cs[j]? = some v) : Runs P (.index t x y) ty a w v w := fun _ _ _ _ => by
  obtain ⟨h1, h2⟩ := arrayB_spec ht
  have ⟨h3, _⟩ := scalarB_spec he w
  subst hi
  simp [execOp, hE.ev hx, hE.ev hy, Instr.index, asIntOf, run_underlying h1, h2, part, h3, hv, hl]
theorem Mem.heapAt {b Eb : Nat} {cs : List Value} {F : HProp} (h : Mem β w (star (pts b Eb cs) F)) : w.heap[b]? = some (.cells cs.toArray Eb (0, 0)) := Mem.blk h
theorem Mem.newPts (h : Mem β w F) (cs : Array Value) (e : Nat) : Mem β (w.alloc (.cells cs e)) (star (pts w.heap.size e cs.toList) F) := h.new _
end
end Go.Sv
/-! Own words: a part of a slice; append of a part; calls that leave the world alone. -/
namespace Go.Sv
open Go.RowKit
/-- A call that reads what is held, and leaves all as it is. -/
def Fr (P : Program) (f : FuncId) (args : List Value) (H : HProp) (r : Value) : Prop := ∀ β w F X, Mem β w (star H F) → Mem β w X → Calls P f args.toArray w fun e w' => ∃ v, e = .returned v ∧ Mem β w' (star (fact (v = r)) X)
/-- Both are held, maybe over one another. -/
def conj (A B : HProp) : HProp := fun h => (∃ f, A f ∧ ∀ b o, f b = some o → h b = some o) ∧ (∃ g, B g ∧ ∀ b o, g b = some o → h b = some o)
theorem Mem.both {β : Base} {w : World} {A B : HProp} (h : Mem β w A) (k : Mem β w B) : Mem β w (conj A B) := by
  obtain ⟨hb, f, hf, hh⟩ := h
  obtain ⟨_, g, hg, hk⟩ := k
  exact ⟨hb, fun b => w.heap[b]?, ⟨⟨f, hf, hh⟩, ⟨g, hg, hk⟩⟩, fun b o h => h⟩
theorem Mem.left {β : Base} {w : World} {A B : HProp} (h : Mem β w (conj A B)) : Mem β w A := by
  obtain ⟨hb, _, ⟨⟨f, hf, hs⟩, _⟩, hh⟩ := h
  exact ⟨hb, f, hf, fun b o hbo => hh b o (hs b o hbo)⟩
theorem Mem.right {β : Base} {w : World} {A B : HProp} (h : Mem β w (conj A B)) : Mem β w B := by
  obtain ⟨hb, _, ⟨_, ⟨g, hg, hs⟩⟩, hh⟩ := h
  exact ⟨hb, g, hg, fun b o hbo => hh b o (hs b o hbo)⟩
section
variable {P : Program} {Q : Exit → Act → World → Prop} {K : Act → World → Prop} {β : Base} {a : Act} {w : World} {n : Nat} {D : List Deferred} {E : List (Nat × Value)} {ty : TypeId} {pos : String} {after : Array Edge} {H R R0 F X : HProp}
theorem callR (hE : Env n D a E) {d : Nat} {f : FuncId} {as : List Operand} {ts : Array TypeId} {vs : List Value} {Hp : HProp} {r : Value} (hS : Fr P f vs Hp r) (hc : callB P f = true) (hargs : evs E as = some vs) (hM : Mem β w (star Hp F)) (hX : Mem β w X) (hd : Nat.blt d n = true)
    (h : ∀ a' w', Env n D a' ((d, r) :: E) → Mem β w' X → K a' w') :
    Oper.wp P { dst := some d, op := .call { callee := .value (.func f), args := as.toArray, argTypes := ts }, type := ty, pos, after, guard := none } a w K Q := by
  unfold Oper.wp
  have hrun : (execOp a.eval { dst := some d, op := .call { callee := .value (.func f), args := as.toArray, argTypes := ts }, type := ty, pos, after, guard := none }).run P w = .ok (.enter f vs.toArray) w := by
    have := hE.evs hargs
    simp [execOp, resolve, Deferred.ofValue, invoke, Act.eval, callB_spec hc] at this ⊢
    rw [← this]
  rw [hrun, Oper.upon_enter]
  refine (hS β w F X hM hX).mono fun e w'' hh => ?_
  obtain ⟨v, rfl, hm⟩ := hh
  obtain ⟨e, m2⟩ := hm.fact
  subst e
  exact h _ _ (hE.put d _ hd) m2
theorem R.sliceLH (hE : Env n D a E) {t : TypeId} (e : Nat) (ht : sliceB P t e 1 = true) {x y z : Operand} {g o l c lo hi : Nat} {i j : Int} (hx : evE E x = some (.slice (some ⟨g, o, none⟩) l c)) (hy : evE E y = some (.int .i64 i)) (hz : evE E z = some (.int .i64 j)) (hi0 : i = lo) (hj0 : j = hi) (h1 : lo ≤ hi) (h2 : hi ≤ c) (h3 : lo < c) :
    Runs P (.slice t x (some y) (some z) none) ty a w (.slice (some ⟨g, o + lo, none⟩) (hi - lo) (c - lo)) w := fun _ _ _ _ => by
  obtain ⟨u1, u2⟩ := sliceB_spec ht
  subst hi0 hj0
  simp [execOp, hE.ev hx, hE.ev hy, hE.ev hz, Instr.sliceAt, Instr.slice, run_underlying u1, Instr.sliceBounds, Instr.sliceBound, asIntOf, u2, h1, h2, Addr.add_lit]
  omega
theorem appendS {α : Type} {x y : Operand} {t d : Nat} {a0 : Option Addr} {g o cap m c n0 : Nat} {Eb sz bytes : Nat} {enc : α → List Value} {xs ys : List α} (hE : Env n D a E) [henc : Enc enc sz]
    (ht : elemB P t Eb sz bytes = true) (hx : evE E x = some (.slice a0 n0 cap)) (hy : evE E y = some (.slice (some ⟨g, o, none⟩) m c)) (hM : Mem β w H) [hs : FindRow H a0 α Eb sz enc cap xs R0]
    (hsrc : ∀ j u, (ys.flatMap enc)[j]? = some u → w.cell? ⟨g, o + j, none⟩ = some u)
    (hn : n0 = xs.length) (hm : m = ys.length)
    (h63 : xs.length + ys.length ≤ maxLen) (hby : (xs.length + ys.length) * bytes ≤ 140737488355328) (hd : Nat.blt d n = true)
    (h : ∀ a0' cap' a' w', Env n D a' ((d, .slice a0' (xs ++ ys).length cap') :: E) → Mem β w' (star (row Eb sz enc a0' cap' (xs ++ ys)) R0) → K a' w') :
    Oper.wp P { dst := some d, op := .call { callee := .builtin .append, args := #[x, y], argTypes := #[t, t] }, type := ty, pos, after, guard := none } a w K Q := by
  subst hn hm
  have hM := hM.split hs.out
  obtain ⟨a0', cap', w', hr, hM'⟩ := append_own hM ht ty ⟨g, o, none⟩ c ys (fun y _ => henc.len y) (fun j u hj => by rw [Addr.add_lit]; exact hsrc j u hj) (Enc.flat ys) h63 hby
  refine val hE (w' := w') (v := .slice a0' (xs ++ ys).length cap') (fun _ _ _ _ => ?_) hd fun a' hE' => h a0' cap' a' w' hE' hM'
  simp only [execOp, resolve, invoke, builtin, Sem.run_bind, Sem.run_pure, Result.andThen_ok, List.map_toArray, List.map_cons, List.map_nil, hE.ev hx, hE.ev hy, hr]
end
/-- The bytes of runes. -/
def encs (l : List Int) : List UInt8 := l.flatMap fun r => (Utf8.encode r).data.toList
theorem encs_append (l k : List Int) : encs (l ++ k) = encs l ++ encs k := by simp [encs]
theorem foldl_encs (l : List Int) : ∀ b : ByteArray, (l.foldl (fun r n => r ++ Utf8.encode n) b).data.toList = b.data.toList ++ encs l := by
  induction l with
  | nil => intro b; simp [encs]
  | cons y r ih => intro b; rw [List.foldl_cons, ih]; simp [encs]
theorem runesBytes_list (l : List Int) : (runesBytes l).data.toList = encs l := by
  unfold runesBytes
  rw [foldl_encs]
  rfl
theorem runesBytes_eq (l : List Int) : runesBytes l = ⟨(encs l).toArray⟩ := by
  have := runesBytes_list l
  cases h : runesBytes l with
  | mk d => rw [h] at this; simp at this; rw [← this]
end Go.Sv
namespace Go.Sv
open Go.RowKit
theorem row_sub {β : Base} {w : World} {F : HProp} {E g c : Nat} {xs : List Int} (h : Mem β w (star (row E 1 (encInt .i32) (some ⟨g, 0, none⟩) c xs) F)) {p n j : Nat} {u : Value} (hj : (((xs.drop p).take n).flatMap (encInt .i32))[j]? = some u) : w.cell? ⟨g, 0 + p + j, none⟩ = some u := by
  have e : ((xs.drop p).take n).flatMap (encInt .i32) = ((xs.drop p).take n).map (Value.int .i32) := flat_one _
  rw [e] at hj
  have hx : xs[p + j]? = (((xs.drop p).take n)[j]?) := by
    rw [List.getElem?_map] at hj
    have hlt : j < ((xs.drop p).take n).length := by
      rcases Nat.lt_or_ge j ((xs.drop p).take n).length with h' | h'
      · exact h'
      · rw [List.getElem?_eq_none h'] at hj; cases hj
    rw [List.getElem?_take_of_lt (by simp at hlt; omega), List.getElem?_drop]
  rw [List.getElem?_map, ← hx] at hj
  cases hxx : xs[p + j]? with
  | none => rw [hxx] at hj; cases hj
  | some y =>
    rw [hxx] at hj
    simp at hj
    subst hj
    obtain ⟨g2, hg, hc⟩ := h.row_cell (i := p + j) (j := 0) (x := y) (v := .int .i32 y) hxx rfl
    cases hg
    rw [Nat.zero_add]
    simpa using hc
end Go.Sv
