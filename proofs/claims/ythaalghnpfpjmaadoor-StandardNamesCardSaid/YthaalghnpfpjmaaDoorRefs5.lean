import Derived.Test.YthaalghnpfpjmaaDoorRefs
import Derived.Test.YthaalghnpfpjmaaDoorMach7
set_option linter.all false
/-! Own words: the whole run. Labels: 0 data, 1 tag, 2 open, 3 close. -/
namespace Go.Sv
namespace M
/-- The end tag of the RCDATA element begins. -/
def closing (S : M) : M := { ({ S with pos := S.pos + (1 + S.rcdata.size) } : M).begin 2 with name := bytesInts S.rcdata }
def nul (S : M) : M := (S.fault 21).say [if S.rcdata.data.toList = [] then 0 else 65533]
def tagged (S : M) : Option (Bool × M) := S.tagName.bind fun y => y.2.attributes y.1
/-- One step: where to go on (none of 0 to 3: over), and the state. -/
def stepR (l : Nat) (S : M) : Option (Nat × M) :=
  match l with
  | 0 =>
    if S.peek 0 = -1 then some (9, S.read.flush) else
    if S.peek 0 = 38 then some (0, (S.read.reference false).2.say (S.read.reference false).1) else
    if S.peek 0 = 60 then
      (if S.read.rcdata.data.toList = [] then some (2, S.read) else if S.read.fits then some (1, S.read.closing) else some (0, S.read.say [60])) else
    if S.peek 0 = 0 then some (0, S.read.nul) else some (0, S.read.say [S.peek 0])
  | 1 => S.tagged.map fun z => (if z.1 then 0 else 9, z.2)
  | 2 =>
    if S.peek 0 = 47 then some (3, S.read) else if letterB (S.peek 0) then some (1, S.begin 1) else
    if S.peek 0 = 33 ∨ S.peek 0 = 63 then none else if S.peek 0 = -1 then some (0, (S.fault 7).say [60]) else some (0, S.first 60)
  | 3 =>
    if letterB (S.peek 0) then some (1, S.begin 2) else if S.peek 0 = 62 then some (0, S.read.fault 11) else
    if S.peek 0 = -1 then some (0, (S.fault 7).say [60, 47]) else none
  | _ => none
def runN : Nat → Nat → M → Option M
  | 0, _, _ => none
  | k + 1, l, S => (S.stepR l).bind fun p => if p.1 = 9 then some p.2 else runN k p.1 p.2
def run (S : M) : Option M := runN (4 * S.inp.length + 8) 0 S
end M
/-- What holds at the labels: f steps are left. -/
structure ROk (m : Nat) (lb : Nat) (V : M) : Prop where
  k : lb = 0 ∨ lb = 1 ∨ lb = 2 ∨ lb = 3
  o : V.Ok 200
  o2 : lb ≠ 0 → V.Ok 240
  st : lb = 1 → V.stale = false
  f : 4 * (V.inp.length - V.pos) + (if lb = 0 then 1 else if lb = 1 then 3 else 4) < m
  c : RC V
theorem fits_room {S : M} (h : S.fits = true) : S.pos + (1 + S.rcdata.size) < S.inp.length := by
  unfold M.fits M.fitsEnd at h
  simp only [Bool.and_eq_true, Bool.or_eq_true, decide_eq_true_eq] at h
  have h0 : S.peek (1 + S.rcdata.size) ≠ -1 := by
    rcases h.2 with (h | h) | h
    · exact blank_ne h
    · omega
    · omega
  rcases Nat.lt_or_ge (S.pos + (1 + S.rcdata.size)) S.inp.length with h' | h'
  · exact h'
  · exact absurd (by simp [M.peek, List.getElem?_eq_none h']) h0
theorem letter_ne {r : Int} (h : letterB r = true) : r ≠ -1 := fun e => by rw [e] at h; exact absurd h (by decide)
theorem M.Ok.first {S : M} {c d : Nat} {r : Int} (h : S.Ok c) (h0 : S.peek 0 ≠ -1) (hd : d + 4 ≤ c) : (S.first r).Ok d := by
  have h1 := h.read_more h0
  have hp := M.read_pos h0
  have hb : S.read.back.Ok (c - 1) := ⟨by show S.read.pos - 1 ≤ S.read.inp.length; have := h1.p; omega, h1.n, h1.r, by have := h1.s; have := h1.p; show S.read.sz + 64 * (S.read.inp.length - (S.read.pos - 1)) + (c - 1) ≤ 400000000; omega⟩
  have h2 := (hb.fault (x := 9) (d := d + 2) (by omega)).say (l := [r]) (d := d + 1) (by simp)
  refine h2.again (by omega) ?_
  show S.read.pos - 1 < S.read.inp.length
  rw [M.read_inp, hp]
  have := peek_lt h0
  omega
theorem M.first_eq {S : M} {r : Int} (h0 : S.peek 0 ≠ -1) : (S.first r).inp = S.inp ∧ S.pos ≤ (S.first r).pos ∧ (S.first r).rcdata = S.rcdata := by
  have hp := M.read_pos h0
  have e : ∀ (T : M) (n : Int), (T.again n).inp = T.inp ∧ T.pos ≤ (T.again n).pos ∧ (T.again n).rcdata = T.rcdata := by
    intro T n
    unfold M.again
    (repeat' split)
    · exact ⟨rfl, Nat.le_refl _, rfl⟩
    · exact ⟨rfl, Nat.le_succ _, rfl⟩
    · exact ⟨rfl, Nat.le_refl _, rfl⟩
  have h1 := e ((S.read.back.fault 9).say [r]) ((S.read.faults.length : Int) - S.faults.length)
  refine ⟨h1.1.trans S.read_inp, ?_, h1.2.2.trans S.read_rc⟩
  have : S.read.pos - 1 ≤ (S.first r).pos := h1.2.1
  omega
theorem fwd_fact {S T : M} (h : M.Fwd S T) (c : RC S) : RC T := by unfold RC at *; rw [h.c]; exact c
section
variable (hRo : ∀ (S : M) (a : Bool) (c d : Nat), S.Ok c → d + 8 ≤ c → (S.reference a).2.Ok (d + (S.reference a).1.length))
include hRo
/-- A tag's names and attributes, from the label. -/
theorem tag_aok {f : Nat} {V : M} {y : Int × M} (h : ROk f 1 V) (e : V.tagName = some y) : AOk 50 y.2 (y.2.inp.length + 3) y.2 y.1 ∧ y.2.inp = V.inp ∧ V.pos ≤ y.2.pos := by
  have := tagName_res (c := 50) _ e (h.o2 (by omega)) (h.st rfl)
  refine ⟨⟨?_, rfl, Nat.le_refl _, this.2.2.2.2.1.le (by omega), fun _ _ => ⟨this.2.2.2.2.1, by omega⟩, by omega, this.2.2.1, fun h2 => ?_, this.2.2.2.2.2 h.c⟩, this.1, this.2.1⟩
  · rcases this.2.2.2.1 with h1 | h1 | h1 | h1 <;> simp [h1]
  · rcases this.2.2.2.1 with h1 | h1 | h1 | h1 <;> omega
theorem step_tag {f : Nat} {V : M} {z : Bool × M} (h : ROk (f + 1) 1 V) (e : V.tagged = some z) : z.2.Ok 200 ∧ z.2.inp = V.inp ∧ V.pos ≤ z.2.pos ∧ RC z.2 := by
  unfold M.tagged at e
  cases hy : V.tagName with
  | none => rw [hy] at e; cases e
  | some y =>
    rw [hy] at e
    obtain ⟨h1, h2, h3⟩ := tag_aok hRo h hy
    have := attrs_aok hRo _ h1 e
    exact ⟨this.1.le (by omega), this.2.1.trans h2, Nat.le_trans h3 this.2.2.1, this.2.2.2⟩
theorem step_rok {n lb : Nat} {V : M} {p : Nat × M} (h : ROk (n + 1) lb V) (e : V.stepR lb = some p) : p.1 = 9 ∨ ROk n p.1 p.2 := by
  have hf := h.f
  have hfw := V.fwd_read
  rcases h.k with rfl | rfl | rfl | rfl
  · -- data
    simp only [M.stepR] at e
    simp at hf
    by_cases h0 : V.peek 0 = -1
    · rw [if_pos h0] at e; cases e; exact .inl rfl
    right
    have hm := h.o.read_more h0
    have hp := M.read_pos h0
    have hi := hfw.i
    have hl := peek_lt h0
    have mk : ∀ T : M, M.Fwd V.read T → T.Ok 200 → ROk n 0 T := fun T hF hO =>
      ⟨.inl rfl, hO, fun h => absurd rfl h, fun h => by omega, by have := hF.p; rw [hF.i, hi]; simp; omega, fwd_fact (hfw.trans hF) h.c⟩
    rw [if_neg h0] at e
    (repeat' split at e)
    · cases e
      exact mk _ ((M.fwd_reference _ _).trans ⟨rfl, Nat.le_refl _, rfl, rfl⟩) ((hRo _ _ 263 255 hm (by omega)).say (by omega))
    · cases e
      exact ⟨.inr (.inr (.inl rfl)), hm.le (by omega), fun _ => hm.le (by omega), fun h => by omega, by rw [hi]; simp; omega, fwd_fact hfw h.c⟩
    · rename_i h1 h2 h3 h4
      cases e
      have hr := fits_room h4
      have hil : V.read.inp.length = V.inp.length := by rw [hi]
      have hc : V.read.closing.Ok 240 := by
        refine ⟨by show V.read.pos + (1 + V.read.rcdata.size) ≤ V.read.inp.length; omega, hm.n, hm.r, ?_⟩
        have h5 := hm.s
        have h6 : (bytesInts V.read.rcdata).length = V.read.rcdata.size := by simp [bytesInts]
        show V.read.closing.sz + 64 * (V.read.inp.length - (V.read.pos + (1 + V.read.rcdata.size))) + 240 ≤ 400000000
        simp only [M.sz, M.closing, M.begin, h6, List.length_nil] at h5 ⊢
        omega
      exact ⟨.inr (.inl rfl), hc.le (by omega), fun _ => hc, fun _ => rfl, by show 4 * (V.read.inp.length - (V.read.pos + (1 + V.read.rcdata.size))) + _ < n; simp; omega, (fwd_fact hfw h.c : RC V.read)⟩
    · cases e
      exact mk _ ⟨rfl, Nat.le_refl _, rfl, rfl⟩ (hm.say (by simp))
    · cases e
      exact mk _ ⟨rfl, Nat.le_refl _, rfl, rfl⟩ ((hm.fault (d := 262) (by omega)).say (by simp))
    · cases e
      exact mk _ ⟨rfl, Nat.le_refl _, rfl, rfl⟩ (hm.say (by simp))
  · -- tag
    simp only [M.stepR] at e
    simp at hf
    cases hz : V.tagged with
    | none => rw [hz] at e; cases e
    | some z =>
      rw [hz] at e
      obtain ⟨h1, h2, h3, h4⟩ := step_tag hRo h hz
      by_cases hb : z.1 = true
      · simp [hb] at e
        subst e
        exact .inr ⟨.inl rfl, h1, fun h => absurd rfl h, fun h => by omega, by rw [h2]; simp; omega, h4⟩
      · simp [hb] at e
        subst e
        exact .inl rfl
  · -- open
    simp only [M.stepR] at e
    simp at hf
    have ho := h.o2 (by omega)
    have mk : ∀ T : M, M.Fwd V T → T.Ok 200 → ROk n 0 T := fun T hF hO =>
      ⟨.inl rfl, hO, fun h => absurd rfl h, fun h => by omega, by have := hF.p; rw [hF.i]; simp; omega, fwd_fact hF h.c⟩
    (repeat' split at e)
    · rename_i h1
      cases e
      have h0 : V.peek 0 ≠ -1 := by omega
      have := peek_lt h0
      exact .inr ⟨.inr (.inr (.inr rfl)), ho.read.le (by omega), fun _ => ho.read, fun h => by omega, by rw [hfw.i, M.read_pos h0]; simp; omega, fwd_fact hfw h.c⟩
    · cases e
      exact .inr ⟨.inr (.inl rfl), ho.begin.le (by omega), fun _ => ho.begin, fun _ => rfl, by show 4 * (V.inp.length - V.pos) + _ < n; simp; omega, h.c⟩
    · cases e
    · cases e
      exact .inr (mk _ ⟨rfl, Nat.le_refl _, rfl, rfl⟩ ((ho.fault (d := 239) (by omega)).say (by simp)))
    · rename_i h1 h2 h3 h4
      cases e
      have hF := M.first_eq (r := 60) h4
      refine .inr ⟨.inl rfl, ho.first h4 (by omega), fun h => absurd rfl h, fun h => by omega, by rw [hF.1]; simp; omega, ?_⟩
      have := h.c
      unfold RC at *
      rw [hF.2.2]
      exact this
  · -- close
    simp only [M.stepR] at e
    simp at hf
    have ho := h.o2 (by omega)
    have mk : ∀ T : M, M.Fwd V T → T.Ok 200 → ROk n 0 T := fun T hF hO =>
      ⟨.inl rfl, hO, fun h => absurd rfl h, fun h => by omega, by have := hF.p; rw [hF.i]; simp; omega, fwd_fact hF h.c⟩
    (repeat' split at e)
    · cases e
      exact .inr ⟨.inr (.inl rfl), ho.begin.le (by omega), fun _ => ho.begin, fun _ => rfl, by show 4 * (V.inp.length - V.pos) + _ < n; simp; omega, h.c⟩
    · cases e
      exact .inr (mk _ (hfw.trans (M.fwd_fault _ _)) (ho.read.fault (by omega)))
    · cases e
      exact .inr (mk _ ⟨rfl, Nat.le_refl _, rfl, rfl⟩ ((ho.fault (d := 239) (by omega)).say (by simp)))
    · cases e
end
end Go.Sv
