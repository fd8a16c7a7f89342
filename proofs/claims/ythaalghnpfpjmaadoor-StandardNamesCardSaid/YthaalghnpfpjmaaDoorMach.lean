import Derived.Test.YthaalghnpfpjmaaDoorRules
set_option linter.all false
/-! Own words: the tokenizer's state, and how it lies in memory. -/
namespace Go.Sv
abbrev Attr := ByteArray × ByteArray
structure Tok where
  kind : Int
  name : ByteArray
  text : ByteArray
  attrs : List Attr
  self : Bool
/-- A token with the place of its attributes. -/
structure TokV where
  t : Tok
  ad : Option Addr
  cap : Nat
def encInt (k : IntKind) (i : Int) : List Value := [.int k i]
def encAttr (x : Attr) : List Value := [.string x.1, .string x.2]
def encTok (x : TokV) : List Value := [.int .i64 x.t.kind, .string x.t.name, .string x.t.text, .slice x.ad x.t.attrs.length x.cap, .bool x.t.self, .int .i64 0, .int .i64 0, .int .i64 0]
instance {k : IntKind} : Enc (encInt k) 1 := ⟨fun _ => rfl, fun x u hu => by simp [encInt] at hu; subst hu; rfl⟩
instance : Enc encAttr 2 := ⟨fun _ => rfl, fun x u hu => by simp [encAttr] at hu; rcases hu with rfl | rfl <;> rfl⟩
instance : Enc encTok 8 := ⟨fun _ => rfl, fun x u hu => by simp [encTok] at hu; rcases hu with rfl | rfl | rfl | rfl | rfl | rfl <;> rfl⟩
/-- The attributes of tokens, each list its own row. -/
def attrsOf (T : Nat) : List TokV → HProp
  | [] => emp
  | x :: r => star (row T 2 encAttr x.ad x.cap x.t.attrs) (attrsOf T r)
structure M where
  inp : List Int
  pos : Nat
  toks : List Tok
  faults : List Int
  text : List Int
  rcdata : ByteArray
  tag : Tok
  name : List Int
  attr : List Int
  value : List Int
  named : Bool
  twice : Bool
  slash : Bool
  last : Int
  /-- The tag at hand was told: its attributes are a token's now. -/
  stale : Bool
/-- Where the state's slices lie. -/
structure MRep where
  inA : Option Addr
  inC : Nat
  tkA : Option Addr
  tkC : Nat
  tks : List TokV
  fA : Option Addr
  fC : Nat
  tA : Option Addr
  tC : Nat
  gA : Option Addr
  gN : Nat
  gC : Nat
  nA : Option Addr
  nC : Nat
  aA : Option Addr
  aC : Nat
  vA : Option Addr
  vC : Nat
abbrev rune := encInt .i32
/-- The attributes of the tag at hand. -/
def tagAt (A : Nat) (stale : Bool) (a : Option Addr) (n c : Nat) (l : List Attr) : HProp := if stale then emp else star (fact (n = l.length)) (row A 2 encAttr a c l)
theorem tagAt_true (A : Nat) (a : Option Addr) (n c : Nat) (l : List Attr) : tagAt A true a n c l = emp := rfl
theorem attrsOf_snoc (A : Nat) (l : List TokV) (x : TokV) : attrsOf A (l ++ [x]) = star (attrsOf A l) (row A 2 encAttr x.ad x.cap x.t.attrs) := by
  induction l with
  | nil => simp [attrsOf, star_emp, emp_star]
  | cons y r ih => simp only [List.cons_append, attrsOf, ih, star_assoc]
/-- Where the value's row must lie. -/
def okV (V : Option (Option Addr × Nat)) (a : Option Addr) (c : Nat) : Prop :=
  match V with
  | none => True
  | some v => a = v.1 ∧ c = v.2
/-- The state at block b. The numbers: the types of the struct, a rune, a token, a fault, an attribute. -/
def machAt (T R K L A : Nat) (V : Option (Option Addr × Nat)) (b : Nat) (S : M) : HProp := any fun x : MRep =>
  star (fact (x.tks.map (·.t) = S.toks ∧ okV V x.vA x.vC)) (star (pts b T [.slice x.inA S.inp.length x.inC, .int .i64 S.pos, .slice x.tkA x.tks.length x.tkC, .slice x.fA S.faults.length x.fC, .slice x.tA S.text.length x.tC, .string S.rcdata,
   .int .i64 S.tag.kind, .string S.tag.name, .string S.tag.text, .slice x.gA x.gN x.gC, .bool S.tag.self, .int .i64 0, .int .i64 0, .int .i64 0,
   .slice x.nA S.name.length x.nC, .slice x.aA S.attr.length x.aC, .slice x.vA S.value.length x.vC, .bool S.named, .bool S.twice, .bool S.slash, .int .i32 S.last]) (star (row R 1 rune x.inA x.inC S.inp) (star (row K 8 encTok x.tkA x.tkC x.tks) (star (attrsOf A x.tks) (star (row L 1 (encInt .i64) x.fA x.fC S.faults) (star (row R 1 rune x.tA x.tC S.text) (star (tagAt A S.stale x.gA x.gN x.gC S.tag.attrs) (star (row R 1 rune x.nA x.nC S.name) (star (row R 1 rune x.aA x.aC S.attr) (row R 1 rune x.vA x.vC S.value))))))))))
theorem machAt.open_ {T R K L A : Nat} {V : Option (Option Addr × Nat)} {b : Nat} {S : M} {β : Base} {w : World} {F : HProp} (h : Mem β w (star (machAt T R K L A V b S) F)) : ∃ x : MRep, x.tks.map (·.t) = S.toks ∧ okV V x.vA x.vC ∧
    Mem β w (star (pts b T [.slice x.inA S.inp.length x.inC, .int .i64 S.pos, .slice x.tkA x.tks.length x.tkC, .slice x.fA S.faults.length x.fC, .slice x.tA S.text.length x.tC, .string S.rcdata,
   .int .i64 S.tag.kind, .string S.tag.name, .string S.tag.text, .slice x.gA x.gN x.gC, .bool S.tag.self, .int .i64 0, .int .i64 0, .int .i64 0,
   .slice x.nA S.name.length x.nC, .slice x.aA S.attr.length x.aC, .slice x.vA S.value.length x.vC, .bool S.named, .bool S.twice, .bool S.slash, .int .i32 S.last]) (star (row R 1 rune x.inA x.inC S.inp) (star (row K 8 encTok x.tkA x.tkC x.tks) (star (attrsOf A x.tks) (star (row L 1 (encInt .i64) x.fA x.fC S.faults) (star (row R 1 rune x.tA x.tC S.text) (star (tagAt A S.stale x.gA x.gN x.gC S.tag.attrs) (star (row R 1 rune x.nA x.nC S.name) (star (row R 1 rune x.aA x.aC S.attr) (star (row R 1 rune x.vA x.vC S.value) F)))))))))) := by
  unfold machAt at h
  obtain ⟨x, h⟩ := h.any
  obtain ⟨⟨hk, hV⟩, h⟩ := (h.cast (star_assoc _ _ _)).fact
  exact ⟨x, hk, hV, h.cast (by simp only [star_assoc])⟩
theorem machAt.close {T R K L A : Nat} {V : Option (Option Addr × Nat)} {b : Nat} {S : M} {β : Base} {w : World} {F : HProp} (x : MRep) (hk : x.tks.map (·.t) = S.toks) (hV : okV V x.vA x.vC)
    (h : Mem β w (star (pts b T [.slice x.inA S.inp.length x.inC, .int .i64 S.pos, .slice x.tkA x.tks.length x.tkC, .slice x.fA S.faults.length x.fC, .slice x.tA S.text.length x.tC, .string S.rcdata,
   .int .i64 S.tag.kind, .string S.tag.name, .string S.tag.text, .slice x.gA x.gN x.gC, .bool S.tag.self, .int .i64 0, .int .i64 0, .int .i64 0,
   .slice x.nA S.name.length x.nC, .slice x.aA S.attr.length x.aC, .slice x.vA S.value.length x.vC, .bool S.named, .bool S.twice, .bool S.slash, .int .i32 S.last]) (star (row R 1 rune x.inA x.inC S.inp) (star (row K 8 encTok x.tkA x.tkC x.tks) (star (attrsOf A x.tks) (star (row L 1 (encInt .i64) x.fA x.fC S.faults) (star (row R 1 rune x.tA x.tC S.text) (star (tagAt A S.stale x.gA x.gN x.gC S.tag.attrs) (star (row R 1 rune x.nA x.nC S.name) (star (row R 1 rune x.aA x.aC S.attr) (star (row R 1 rune x.vA x.vC S.value) F))))))))))) : Mem β w (star (machAt T R K L A V b S) F) := by
  unfold machAt
  refine Mem.mkAny x ?_
  refine Mem.cast (Mem.mkFact (And.intro hk hV) h) ?_
  simp only [star_assoc]
theorem machAt.anyV {T R K L A : Nat} {V : Option (Option Addr × Nat)} {b : Nat} {S : M} {β : Base} {w : World} {F : HProp} (h : Mem β w (star (machAt T R K L A V b S) F)) : Mem β w (star (machAt T R K L A none b S) F) := by
  obtain ⟨x, hk, _, h⟩ := machAt.open_ h
  exact machAt.close x hk trivial h
/-- The state laid open, at x. -/
def machO (T R K L A : Nat) (b : Nat) (S : M) (x : MRep) : HProp := star (pts b T [.slice x.inA S.inp.length x.inC, .int .i64 S.pos, .slice x.tkA x.tks.length x.tkC, .slice x.fA S.faults.length x.fC, .slice x.tA S.text.length x.tC, .string S.rcdata,
   .int .i64 S.tag.kind, .string S.tag.name, .string S.tag.text, .slice x.gA S.tag.attrs.length x.gC, .bool S.tag.self, .int .i64 0, .int .i64 0, .int .i64 0,
   .slice x.nA S.name.length x.nC, .slice x.aA S.attr.length x.aC, .slice x.vA S.value.length x.vC, .bool S.named, .bool S.twice, .bool S.slash, .int .i32 S.last]) (star (row R 1 rune x.inA x.inC S.inp) (star (row K 8 encTok x.tkA x.tkC x.tks) (star (attrsOf A x.tks) (star (row L 1 (encInt .i64) x.fA x.fC S.faults) (star (row R 1 rune x.tA x.tC S.text) (star (row A 2 encAttr x.gA x.gC S.tag.attrs) (star (row R 1 rune x.nA x.nC S.name) (star (row R 1 rune x.aA x.aC S.attr) (row R 1 rune x.vA x.vC S.value)))))))))
/-- The same, the tag at hand being open. -/
theorem machAt.openT {T R K L A : Nat} {V : Option (Option Addr × Nat)} {b : Nat} {S : M} {β : Base} {w : World} {F : HProp} (hs : S.stale = false) (h : Mem β w (star (machAt T R K L A V b S) F)) : ∃ x : MRep, x.tks.map (·.t) = S.toks ∧ okV V x.vA x.vC ∧
    Mem β w (star (pts b T [.slice x.inA S.inp.length x.inC, .int .i64 S.pos, .slice x.tkA x.tks.length x.tkC, .slice x.fA S.faults.length x.fC, .slice x.tA S.text.length x.tC, .string S.rcdata,
   .int .i64 S.tag.kind, .string S.tag.name, .string S.tag.text, .slice x.gA S.tag.attrs.length x.gC, .bool S.tag.self, .int .i64 0, .int .i64 0, .int .i64 0,
   .slice x.nA S.name.length x.nC, .slice x.aA S.attr.length x.aC, .slice x.vA S.value.length x.vC, .bool S.named, .bool S.twice, .bool S.slash, .int .i32 S.last]) (star (row R 1 rune x.inA x.inC S.inp) (star (row K 8 encTok x.tkA x.tkC x.tks) (star (attrsOf A x.tks) (star (row L 1 (encInt .i64) x.fA x.fC S.faults) (star (row R 1 rune x.tA x.tC S.text) (star (row A 2 encAttr x.gA x.gC S.tag.attrs) (star (row R 1 rune x.nA x.nC S.name) (star (row R 1 rune x.aA x.aC S.attr) (star (row R 1 rune x.vA x.vC S.value) F)))))))))) := by
  obtain ⟨x, hk, hV, h⟩ := machAt.open_ h
  simp only [tagAt, hs, Bool.false_eq_true, if_false] at h
  have h2 := (h.cast (by ac_rfl) : Mem β w (star (fact (x.gN = S.tag.attrs.length)) (star (pts b T [.slice x.inA S.inp.length x.inC, .int .i64 S.pos, .slice x.tkA x.tks.length x.tkC, .slice x.fA S.faults.length x.fC, .slice x.tA S.text.length x.tC, .string S.rcdata,
   .int .i64 S.tag.kind, .string S.tag.name, .string S.tag.text, .slice x.gA x.gN x.gC, .bool S.tag.self, .int .i64 0, .int .i64 0, .int .i64 0,
   .slice x.nA S.name.length x.nC, .slice x.aA S.attr.length x.aC, .slice x.vA S.value.length x.vC, .bool S.named, .bool S.twice, .bool S.slash, .int .i32 S.last]) (star (row R 1 rune x.inA x.inC S.inp) (star (row K 8 encTok x.tkA x.tkC x.tks) (star (attrsOf A x.tks) (star (row L 1 (encInt .i64) x.fA x.fC S.faults) (star (row R 1 rune x.tA x.tC S.text) (star (row A 2 encAttr x.gA x.gC S.tag.attrs) (star (row R 1 rune x.nA x.nC S.name) (star (row R 1 rune x.aA x.aC S.attr) (star (row R 1 rune x.vA x.vC S.value) F))))))))))))
  obtain ⟨e, h2⟩ := h2.fact
  rw [e] at h2
  exact ⟨x, hk, hV, h2⟩
theorem machAt.closeT {T R K L A : Nat} {V : Option (Option Addr × Nat)} {b : Nat} {S : M} {β : Base} {w : World} {F : HProp} (hs : S.stale = false) (x : MRep) (hk : x.tks.map (·.t) = S.toks) (hV : okV V x.vA x.vC)
    (h : Mem β w (star (pts b T [.slice x.inA S.inp.length x.inC, .int .i64 S.pos, .slice x.tkA x.tks.length x.tkC, .slice x.fA S.faults.length x.fC, .slice x.tA S.text.length x.tC, .string S.rcdata,
   .int .i64 S.tag.kind, .string S.tag.name, .string S.tag.text, .slice x.gA S.tag.attrs.length x.gC, .bool S.tag.self, .int .i64 0, .int .i64 0, .int .i64 0,
   .slice x.nA S.name.length x.nC, .slice x.aA S.attr.length x.aC, .slice x.vA S.value.length x.vC, .bool S.named, .bool S.twice, .bool S.slash, .int .i32 S.last]) (star (row R 1 rune x.inA x.inC S.inp) (star (row K 8 encTok x.tkA x.tkC x.tks) (star (attrsOf A x.tks) (star (row L 1 (encInt .i64) x.fA x.fC S.faults) (star (row R 1 rune x.tA x.tC S.text) (star (row A 2 encAttr x.gA x.gC S.tag.attrs) (star (row R 1 rune x.nA x.nC S.name) (star (row R 1 rune x.aA x.aC S.attr) (star (row R 1 rune x.vA x.vC S.value) F))))))))))) : Mem β w (star (machAt T R K L A V b S) F) := by
  refine machAt.close { x with gN := S.tag.attrs.length } hk hV ?_
  simp only [tagAt, hs, Bool.false_eq_true, if_false]
  exact (Mem.mkFact (p := True) trivial h).cast (by ac_rfl)
end Go.Sv
