import Derived.Test.YthaalghnpfpjmaaDoorRules
import Derived.OrdersHeld
set_option linter.all false
/-! Own words: a region whose order is left open, walked in one order that the prover plans.
A step of kind 0 only reads (its value is the same in every world that meets S), one of kind 1 hangs on no world, one of any other kind comes up alone. -/
namespace Go.Sv
open Go.RowKit
section
variable {P : Program} {ops : Array Oper} {Q : Exit → Act → World → Prop} {md : Region.Mode} {S : World → Prop} {ds : List Nat}

/-- Operation d waits for i, by at most 'fuel' edges. -/
def waitB (md : Region.Mode) (ops : Array Oper) (i : Nat) : Nat → Nat → Bool
  | 0, _ => false
  | f + 1, d => match ops[d]? with
    | some o => o.after.any fun e => Region.binds md e && (e.on == i || waitB md ops i f e.on)
    | none => false
def shutB (md : Region.Mode) (ops : Array Oper) (l : Array Bool) : Bool :=
  (List.range ops.size).all fun j => !l.getD j false || match ops[j]? with
    | some o => o.after.all fun e => !Region.binds md e || l.getD e.on false
    | none => true
def Shutd (md : Region.Mode) (ops : Array Oper) (l : Array Bool) : Prop :=
  ∀ j o, ops[j]? = some o → l.getD j false = true → ∀ e ∈ o.after, Region.binds md e = true → l.getD e.on false = true
theorem shutB_spec {l : Array Bool} (h : shutB md ops l = true) : Shutd md ops l := by
  intro j o hj hl e he hb
  have h1 := List.all_eq_true.1 h j (List.mem_range.2 (Array.getElem?_eq_some_iff.1 hj).1)
  simp only [hl, hj, Bool.not_true, Bool.false_or] at h1
  simpa [hb] using Array.all_eq_true_iff_forall_mem.1 h1 e he
theorem Shutd.set {l : Array Bool} {i : Nat} (h : Shutd md ops l) (hi : i ∈ Region.ready md ops l) : Shutd md ops (l.setIfInBounds i true) := by
  obtain ⟨_, oi, hoi, hall⟩ := mem_ready.1 hi
  intro j o hj hl e he hb
  by_cases hij : i = j
  · subst hij
    obtain rfl : o = oi := Option.some.inj (hj.symm.trans hoi)
    exact getD_set_true (hall e he hb)
  · rw [getD_set_ne false hij] at hl
    exact getD_set_true (h j o hj hl e he hb)
theorem wait_listed {l : Array Bool} {i : Nat} (hc : Shutd md ops l) : ∀ (f d : Nat), waitB md ops i f d = true → l.getD d false = true → l.getD i false = true
  | 0, _, h, _ => by simp [waitB] at h
  | f + 1, d, h, hl => by
    unfold waitB at h
    cases ho : ops[d]? with
    | none => rw [ho] at h; simp at h
    | some o =>
      rw [ho] at h
      obtain ⟨e, he, h1⟩ := Array.any_eq_true'.1 h
      simp only [Bool.and_eq_true, Bool.or_eq_true, beq_iff_eq] at h1
      have hle := hc d o ho hl e he h1.1
      rcases h1.2 with h2 | h2
      · exact h2 ▸ hle
      · exact wait_listed hc f e.on h2 hle
theorem getD_off {l : Array Bool} {i : Nat} (hun : l.getD i true = false) : l.getD i false = true → False := by
  intro h
  rcases Nat.lt_or_ge i l.size with h' | h'
  · simp [h'] at hun h; rw [hun] at h; cases h
  · simp [Array.getElem?_eq_none h'] at hun
theorem wait_not {l : Array Bool} {i d f : Nat} (hc : Shutd md ops l) (hr : waitB md ops i f d = true) (hun : l.getD i true = false) : d ∉ Region.ready md ops l := by
  intro hd
  obtain ⟨_, o, ho, hall⟩ := mem_ready.1 hd
  refine getD_off hun ?_
  cases f with
  | zero => simp [waitB] at hr
  | succ n =>
    unfold waitB at hr
    rw [ho] at hr
    obtain ⟨e, he, h1⟩ := Array.any_eq_true'.1 hr
    simp only [Bool.and_eq_true, Bool.or_eq_true, beq_iff_eq] at h1
    have hle := hall e he h1.1
    rcases h1.2 with h2 | h2
    · exact h2 ▸ hle
    · exact wait_listed hc n e.on h2 hle

/-- Whatever order is drawn; S holds behind each operation, those of ds apart. -/
def wpD (P : Program) (md : Region.Mode) (ops : Array Oper) (Q : Exit → Act → World → Prop) (S : World → Prop) (ds : List Nat) : Nat → Array Bool → Act → World → Prop
  | 0, l, a, w => Region.ready md ops l = [] ∧ Q .normal a w
  | f + 1, l, a, w => (Region.ready md ops l = [] → Q .normal a w) ∧
    ∀ i ∈ Region.ready md ops l, wpOp P ops Q i (fun a' w' => (i ∉ ds → S w → S w') ∧ wpD P md ops Q S ds f (l.setIfInBounds i true) a' w') a w
theorem wpAny_of_D : ∀ (f : Nat) (l : Array Bool) (a : Act) (w : World), wpD P md ops Q S ds f l a w → wpAny P md ops Q f l a w
  | 0, _, _, _, h => h
  | f + 1, _, _, _, h => ⟨h.1, fun i hi => wpOp_mono (fun a' w' h' => wpAny_of_D f _ a' w' h'.2) (h.2 i hi)⟩
theorem wpD_first {i : Nat} {oi : Oper} {v : Value} (hi : ops[i]? = some oi) (hsel : ∀ (j : Nat) (o : Oper) cs b, ops[j]? = some o → o.op ≠ .select cs b)
    (hQ : ∀ c a w, Q (.panic c) (a.put oi.dst v) w → Q (.panic c) a w) (T : World → Prop) (n : Nat) :
    ∀ (f : Nat) (l : Array Bool) (a : Act) (w : World),
      (∀ j oj, ops[j]? = some oj → j ≠ i → l.getD j true = false → (∀ e ∈ oj.after, Region.binds md e = true → e.on ≠ i) → oi.apart ops oj = true) →
      (T = S ∧ Shutd md ops l ∧ (∀ d ∈ ds, l.getD d true = false → waitB md ops i n d = true) ∨ T = fun _ => True) →
      i ∈ Region.ready md ops l → YieldsIf P ops T oi v a → T w →
      wpD P md ops Q S ds f (l.setIfInBounds i true) (a.put oi.dst v) w → wpD P md ops Q S ds (f + 1) l a w := by
  intro f
  induction f with
  | zero =>
    intro l a w _ _ hr hy hT H
    refine ⟨fun h => (by rw [h] at hr; cases hr), fun j hj => ?_⟩
    by_cases hji : j = i
    · subst hji; exact hy.wpOp hi hT ⟨fun _ h => h, H⟩
    · have := ready_mono hj hji
      rw [H.1] at this
      cases this
  | succ f ih =>
    intro l a w hfree hd hr hy hT H
    refine ⟨fun h => (by rw [h] at hr; cases hr), fun j hj => ?_⟩
    by_cases hji : j = i
    · subst hji; exact hy.wpOp hi hT ⟨fun _ h => h, H⟩
    · have h1 := H.2 j (ready_mono hj hji)
      obtain ⟨hjun, oj, hoj, hall⟩ := mem_ready.1 hj
      have hiun := (mem_ready.1 hr).1
      have hnot : ∀ e ∈ oj.after, Region.binds md e = true → e.on ≠ i := fun e he hb heq => getD_off hiun (heq ▸ hall e he hb)
      have h2 := wpOp_putIf hoj (hfree j oj hoj hji hjun hnot) (fun cs b => hsel i oi cs b hi) (fun cs b => hsel j oj cs b hoj) hQ hy h1
      have un : ∀ k, (l.setIfInBounds j true).getD k true = false → l.getD k true = false := fun k hun => by
        by_cases hjk : j = k
        · subst hjk; exact hjun
        · rw [getD_set_ne true hjk] at hun; exact hun
      have hfree' : ∀ k ok, ops[k]? = some ok → k ≠ i → (l.setIfInBounds j true).getD k true = false →
          (∀ e ∈ ok.after, Region.binds md e = true → e.on ≠ i) → oi.apart ops ok = true := fun k ok hk hki hun hno => hfree k ok hk hki (un k hun) hno
      refine wpOp_mono (fun a' w' h3 => ⟨h3.2.1, ih (l.setIfInBounds j true) a' w' hfree' ?_ (ready_mono hr (Ne.symm hji)) h3.1 ?_ ?_⟩) h2
      · rcases hd with ⟨e, hc, hd⟩ | e
        · exact .inl ⟨e, hc.set hj, fun d hm hun => hd d hm (un d hun)⟩
        · exact .inr e
      · rcases hd with ⟨e, hc, hd⟩ | e
        · subst e
          exact h3.2.1 (fun hm => wait_not hc (hd j hm hjun) hiun hj) hT
        · rw [e]; trivial
      · rw [Array.setIfInBounds_comm _ _ hji]
        exact h3.2.2

/-- The planned order: which operation, and its kind. -/
def planB (md : Region.Mode) (ops : Array Oper) (ds : List Nat) : List (Nat × Nat) → Array Bool → Bool
  | [], l => (Region.ready md ops l).isEmpty
  | (i, 0) :: r, l => Region.free md ops l i && (Region.ready md ops l).contains i && shutB md ops l && (ds.all fun d => l.getD d true || waitB md ops i ops.size d) && planB md ops ds r (l.setIfInBounds i true)
  | (i, 1) :: r, l => Region.free md ops l i && (Region.ready md ops l).contains i && planB md ops ds r (l.setIfInBounds i true)
  | (i, _) :: r, l => (Region.ready md ops l == [i]) && planB md ops ds r (l.setIfInBounds i true)
def wpP (P : Program) (ops : Array Oper) (Q : Exit → Act → World → Prop) (S : World → Prop) (ds : List Nat) : List (Nat × Nat) → Act → World → Prop
  | [], a, w => Q .normal a w
  | (i, 0) :: r, a, w => ∃ o v, ops[i]? = some o ∧ YieldsIf P ops S o v a ∧ S w ∧ wpP P ops Q S ds r (a.put o.dst v) w
  | (i, 1) :: r, a, w => ∃ o v, ops[i]? = some o ∧ YieldsIf P ops (fun _ => True) o v a ∧ wpP P ops Q S ds r (a.put o.dst v) w
  | (i, _) :: r, a, w => wpOp P ops Q i (fun a' w' => (i ∉ ds → S w → S w') ∧ wpP P ops Q S ds r a' w') a w
theorem wpD_of_plan (hsel : ∀ (j : Nat) (o : Oper) cs b, ops[j]? = some o → o.op ≠ .select cs b) (hQ : ∀ c a a' w, a.defers = a'.defers → Q (.panic c) a w → Q (.panic c) a' w) :
    ∀ (p : List (Nat × Nat)) (l : Array Bool) (a : Act) (w : World), planB md ops ds p l = true → wpP P ops Q S ds p a w → wpD P md ops Q S ds p.length l a w
  | [], l, a, w, hB, h => ⟨by simpa [planB] using hB, h⟩
  | (i, 0) :: r, l, a, w, hB, ⟨o, v, ho, hy, hS, h⟩ => by
    simp only [planB, Bool.and_eq_true] at hB
    obtain ⟨⟨⟨⟨h1, h2⟩, h3⟩, h4⟩, h5⟩ := hB
    refine wpD_first ho hsel (fun c a w => hQ c _ _ w (by cases o.dst <;> rfl)) S ops.size _ l a w (Region.free_spec ho h1) (.inl ⟨rfl, shutB_spec h3, fun d hd hun => ?_⟩) (by simpa using h2) hy hS (wpD_of_plan hsel hQ r _ _ _ h5 h)
    have := List.all_eq_true.1 h4 d hd
    rw [hun] at this
    simpa using this
  | (i, 1) :: r, l, a, w, hB, ⟨o, v, ho, hy, h⟩ => by
    simp only [planB, Bool.and_eq_true] at hB
    obtain ⟨⟨h1, h2⟩, h5⟩ := hB
    exact wpD_first ho hsel (fun c a w => hQ c _ _ w (by cases o.dst <;> rfl)) (fun _ => True) ops.size _ l a w (Region.free_spec ho h1) (.inr rfl) (by simpa using h2) hy trivial (wpD_of_plan hsel hQ r _ _ _ h5 h)
  | (i, k + 2) :: r, l, a, w, hB, h => by
    simp only [planB, Bool.and_eq_true, beq_iff_eq] at hB
    refine ⟨fun h0 => (by rw [hB.1] at h0; cases h0), fun j hj => ?_⟩
    rw [hB.1] at hj
    obtain rfl : j = i := by simpa using hj
    exact wpOp_mono (fun a' w' h' => ⟨h'.1, wpD_of_plan hsel hQ r _ a' w' hB.2 h'.2⟩) h
def drawB (ops : Array Oper) (ds : List Nat) (p : List (Nat × Nat)) : Bool := Region.noSelect ops && (p.length == ops.size) && planB .any ops ds p (Array.replicate ops.size false)
/-- A region whose order is drawn, by a plan. -/
theorem planR {id : Nat} {l : List Oper} {a : Act} {w : World} (ds : List Nat) (p : List (Nat × Nat)) (hm : P.follows .mixedOrders = true) (hB : drawB l.toArray ds p = true) {β : Base} {H : HProp} (hM : Mem β w H) (S : World → Prop)
    (hQ : ∀ c a a' w, a.defers = a'.defers → Q (.panic c) a w → Q (.panic c) a' w) (h : ∀ w, Mem β w H → ∀ K : Act → World → Prop, (∀ a w, Q .normal a w → K a w) → wpP P l.toArray (fun e a w => match e with | .normal => K a w | e => Q e a w) S ds p a w) : (Code.region id l.toArray true).wp P Q a w := by
  simp only [drawB, Bool.and_eq_true, beq_iff_eq] at hB
  obtain ⟨⟨h1, h2⟩, h3⟩ := hB
  refine wp_region_any hm (wpAny_of_D (S := S) (ds := ds) _ _ _ _ ?_)
  have h4 := wpD_of_plan (Q := Q) (S := S) (P := P) (Region.noSelect_spec h1) hQ p _ a { w with drawn := w.drawn + 1 } h3 ?_
  · rw [h2] at h4; exact h4
  have := h { w with drawn := w.drawn + 1 } hM (fun a w => Q .normal a w) (fun _ _ h => h)
  have e : (fun e a w => match e with | .normal => Q .normal a w | e => Q e a w) = Q := by
    funext e a w; cases e <;> rfl
  rwa [e] at this
end
section
variable {P : Program} {Q : Exit → Act → World → Prop} {S : World → Prop} {ds : List Nat} {l : List Oper} {r : List (Nat × Nat)} {a : Act} {w : World} {n : Nat} {D : List Deferred} {E : List (Nat × Value)} {op : Op} {ty : TypeId} {pos : String} {after : Array Edge} {d i : Nat} {v : Value}
theorem pNil {K : Act → World → Prop} (h : K a w) : wpP P l.toArray (fun e a w => match e with | .normal => K a w | e => Q e a w) S ds [] a w := h
/-- A step that reads. -/
theorem pTake (ho : l[i]? = some { dst := some d, op, type := ty, pos, after, guard := none }) (hE : Env n D a E) (hr : ∀ w, S w → Runs P op ty a w v w) (hd : Nat.blt d n = true) (hS : S w)
    (h : ∀ a', Env n D a' ((d, v) :: E) → wpP P l.toArray Q S ds r a' w) : wpP P l.toArray Q S ds ((i, 0) :: r) a w :=
  ⟨_, v, by simpa using ho, .inl ⟨by simp [Region.wanted], fun w hw => hr w hw _ _ _ _⟩, hS, h _ (hE.put d v hd)⟩
/-- A step that hangs on no world. -/
theorem pPure (ho : l[i]? = some { dst := some d, op, type := ty, pos, after, guard := none }) (hE : Env n D a E) (hr : ∀ w, Runs P op ty a w v w) (hd : Nat.blt d n = true)
    (h : ∀ a', Env n D a' ((d, v) :: E) → wpP P l.toArray Q S ds r a' w) : wpP P l.toArray Q S ds ((i, 1) :: r) a w :=
  ⟨_, v, by simpa using ho, .inl ⟨by simp [Region.wanted], fun w _ => hr w _ _ _ _⟩, h _ (hE.put d v hd)⟩
/-- A step that comes up alone, behind which S is not told. -/
theorem pOne {dst : Option Tmp} (ho : l[i]? = some { dst, op, type := ty, pos, after, guard := none }) (hd : ds.contains i = true)
    (h : ∀ C : Act → World → Prop, (∀ a' w', wpP P l.toArray Q S ds r a' w' → C a' w') → Oper.wp P { dst, op, type := ty, pos, after, guard := none } a w C Q) : wpP P l.toArray Q S ds ((i, 2) :: r) a w := by
  unfold wpP wpOp
  have h1 : l.toArray[i]? = some { dst, op, type := ty, pos, after, guard := none } := by simpa using ho
  simp only [h1]
  rw [if_pos (by simp [Region.wanted])]
  exact .inl (h _ fun a' w' h' => ⟨fun hn => absurd (by simpa using hd) hn, h'⟩)
/-- A step that comes up alone, S kept. -/
theorem pOneS {dst : Option Tmp} (ho : l[i]? = some { dst, op, type := ty, pos, after, guard := none })
    (h : ∀ C : Act → World → Prop, (∀ a' w', S w' → wpP P l.toArray Q S ds r a' w' → C a' w') → Oper.wp P { dst, op, type := ty, pos, after, guard := none } a w C Q) : wpP P l.toArray Q S ds ((i, 2) :: r) a w := by
  unfold wpP wpOp
  have h1 : l.toArray[i]? = some { dst, op, type := ty, pos, after, guard := none } := by simpa using ho
  simp only [h1]
  rw [if_pos (by simp [Region.wanted])]
  exact .inl (h _ fun a' w' hS h' => ⟨fun _ _ => hS, h'⟩)
theorem wantedG {ops : Array Oper} {dst : Option Tmp} {j : Nat} {want : Bool} {g : Nat} {t : Bool} (hE : Env n D a E) (hj : (ops[j]?).bind (·.dst) = some g) (hl : lookE E g = some (.bool t)) : Region.wanted { dst, op, type := ty, pos, after, guard := some (j, want) } (yielded ops a.tmps) = (t == want) := by
  simp [Region.wanted, yielded, hj, hE.look g _ hl]
theorem pTakeG {j : Nat} {want : Bool} {g : Nat} {t : Bool} (ho : l[i]? = some { dst := some d, op, type := ty, pos, after, guard := some (j, want) }) (hE : Env n D a E) (hj : (l.toArray[j]?).bind (·.dst) = some g) (hl : lookE E g = some (.bool t)) (ht : t = want) (hr : ∀ w, S w → Runs P op ty a w v w) (hd : Nat.blt d n = true) (hS : S w)
    (h : ∀ a', Env n D a' ((d, v) :: E) → wpP P l.toArray Q S ds r a' w) : wpP P l.toArray Q S ds ((i, 0) :: r) a w :=
  ⟨_, v, by simpa using ho, .inl ⟨by rw [wantedG hE hj hl]; simp [ht], fun w hw => hr w hw _ _ _ _⟩, hS, h _ (hE.put d v hd)⟩
theorem pPureG {j : Nat} {want : Bool} {g : Nat} {t : Bool} (ho : l[i]? = some { dst := some d, op, type := ty, pos, after, guard := some (j, want) }) (hE : Env n D a E) (hj : (l.toArray[j]?).bind (·.dst) = some g) (hl : lookE E g = some (.bool t)) (ht : t = want) (hr : ∀ w, Runs P op ty a w v w) (hd : Nat.blt d n = true)
    (h : ∀ a', Env n D a' ((d, v) :: E) → wpP P l.toArray Q S ds r a' w) : wpP P l.toArray Q S ds ((i, 1) :: r) a w :=
  ⟨_, v, by simpa using ho, .inl ⟨by rw [wantedG hE hj hl]; simp [ht], fun w _ => hr w _ _ _ _⟩, h _ (hE.put d v hd)⟩
theorem pOff {j : Nat} {want : Bool} {g : Nat} {t : Bool} (ho : l[i]? = some { dst := some d, op, type := ty, pos, after, guard := some (j, want) }) (hE : Env n D a E) (hj : (l.toArray[j]?).bind (·.dst) = some g) (hl : lookE E g = some (.bool t)) (ht : t = !want) (hd : Nat.blt d n = true)
    (h : ∀ a', Env n D a' ((d, undef) :: E) → wpP P l.toArray Q S ds r a' w) : wpP P l.toArray Q S ds ((i, 1) :: r) a w :=
  ⟨_, undef, by simpa using ho, .inr ⟨by rw [wantedG hE hj hl]; subst ht; cases want <;> rfl, rfl⟩, h _ (hE.put d undef hd)⟩
/-- A plan under what is held. -/
theorem planM {id : Nat} {l : List Oper} {a : Act} {w : World} (ds : List Nat) (p : List (Nat × Nat)) (hm : P.follows .mixedOrders = true) (hB : drawB l.toArray ds p = true) {β : Base} {H : HProp} (hM : Mem β w H)
    (hQ : ∀ c a a' w, a.defers = a'.defers → Q (.panic c) a w → Q (.panic c) a' w) (h : ∀ w, Mem β w H → ∀ K : Act → World → Prop, (∀ a w, Q .normal a w → K a w) → wpP P l.toArray (fun e a w => match e with | .normal => K a w | e => Q e a w) (fun w => Mem β w H) ds p a w) : (Code.region id l.toArray true).wp P Q a w :=
  planR ds p hm hB hM _ hQ h
end
end Go.Sv
