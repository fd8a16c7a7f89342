import Derived.Test.YthaalghnpfpjmaaDoorProg
import Derived.Test.YthaalghnpfpjmaaDoorMach1
import Derived.Test.YthaalghnpfpjmaaDoorRules2
set_option linter.all false
set_option linter.unusedVariables false
set_option linter.unusedSimpArgs false
set_option maxRecDepth 100000
namespace Go.Sv
open Go.RowKit Go.Proofs
attribute [local irreducible] row pts star blk emp fact any attrsOf machAt tagAt

namespace FMach2
theorem al_45 : (Tryd.prog.info? 45).bind (·.zero) = some (.agg [.string ByteArray.empty, .string ByteArray.empty].toArray) := by kernel_rfl
theorem cb_14 : callB Tryd.prog 14 = true := by kernel_rfl
theorem cb_16 : callB Tryd.prog 16 = true := by kernel_rfl
theorem cb_20 : callB Tryd.prog 20 = true := by kernel_rfl
theorem cb_38 : callB Tryd.prog 38 = true := by kernel_rfl
theorem el_50 : elemB Tryd.prog 50 21 1 4 = true := by kernel_rfl
theorem fb_43_3 : fieldB Tryd.prog 43 3 3 = true := by kernel_rfl
theorem fb_45_0 : fieldB Tryd.prog 45 0 0 = true := by kernel_rfl
theorem fb_53_0 : fieldB Tryd.prog 53 0 0 = true := by kernel_rfl
theorem fb_53_1 : fieldB Tryd.prog 53 1 1 = true := by kernel_rfl
theorem fb_53_11 : fieldB Tryd.prog 53 11 18 = true := by kernel_rfl
theorem fb_53_3 : fieldB Tryd.prog 53 3 3 = true := by kernel_rfl
theorem fb_53_6 : fieldB Tryd.prog 53 6 6 = true := by kernel_rfl
theorem fb_53_8 : fieldB Tryd.prog 53 8 15 = true := by kernel_rfl
theorem mix : Tryd.prog.follows .mixedOrders = true := by kernel_rfl
theorem ru_50_9 : runesB Tryd.prog 50 9 21 = true := by kernel_rfl
theorem sc_21 : scalarB Tryd.prog 21 = true := by kernel_rfl
theorem sc_26 : scalarB Tryd.prog 26 = true := by kernel_rfl
theorem sc_3 : scalarB Tryd.prog 3 = true := by kernel_rfl
theorem sc_39 : scalarB Tryd.prog 39 = true := by kernel_rfl
theorem sc_4 : scalarB Tryd.prog 4 = true := by kernel_rfl
theorem sc_50 : scalarB Tryd.prog 50 = true := by kernel_rfl
theorem sc_9 : scalarB Tryd.prog 9 = true := by kernel_rfl
theorem sl_26 : sliceB Tryd.prog 26 24 1 = true := by kernel_rfl
theorem sl_39 : sliceB Tryd.prog 39 45 2 = true := by kernel_rfl
theorem sl_50 : sliceB Tryd.prog 50 21 1 = true := by kernel_rfl
theorem ss_45 : structB Tryd.prog 45 2 = true := by kernel_rfl
end FMach2
open FMach2

def M.sz (S : M) : Nat := S.faults.length + S.text.length + S.toks.length + S.tag.attrs.length + S.name.length + S.attr.length + S.value.length
/-- There is room for c more, and for 64 more with each rune that is left. -/
structure M.Ok (S : M) (c : Nat) : Prop where
  p : S.pos ≤ S.inp.length
  n : S.inp.length ≤ 2097152
  r : ∀ x ∈ S.inp, 0 ≤ x ∧ x ≤ 1114111
  s : S.sz + 64 * (S.inp.length - S.pos) + c ≤ 400000000
/-- The attribute's name stands among the tag's. -/
def M.has (S : M) : Bool := S.tag.attrs.any fun x => x.1.data.toList == (runesBytes S.attr).data.toList
def M.leave (S : M) : M := if S.has then { S with twice := S.has }.fault 4 else { S with twice := S.has }
/-- The rune at hand is data, without its reading's faults. -/
def M.again (S : M) (n : Int) : M := if S.peek 0 = 38 ∨ S.peek 0 = 60 ∨ S.peek 0 = 0 then S else if 0 < n then { S with pos := S.pos + 1 }.say [S.peek 0] else S
def M.back (S : M) : M := { S with pos := S.pos - 1 }
def M.first (S : M) (r : Int) : M := ((S.read.back.fault 9).say [r]).again ((S.read.faults.length : Int) - S.faults.length)
theorem peek_lt {S : M} (h : S.peek 0 ≠ -1) : S.pos < S.inp.length := by
  rcases Nat.lt_or_ge S.pos S.inp.length with h' | h'
  · exact h'
  · exact absurd (by simp [M.peek, List.getElem?_eq_none h']) h
theorem peek_get {S : M} (h : S.pos < S.inp.length) : S.inp[S.pos]? = some (S.peek 0) := by
  simp [M.peek, List.getElem?_eq_getElem h]
theorem M.read_inp (S : M) : S.read.inp = S.inp := by unfold M.read; (repeat' split) <;> rfl
theorem M.read_pos {S : M} (h : S.peek 0 ≠ -1) : S.read.pos = S.pos + 1 := by unfold M.read; rw [if_neg h]; (repeat' split) <;> rfl
theorem M.read_eof {S : M} (h : S.peek 0 = -1) : S.read = S := by unfold M.read; rw [if_pos h]
theorem M.read_st (S : M) : S.read.stale = S.stale := by unfold M.read; (repeat' split) <;> rfl
theorem M.fault_st (S : M) (x : Int) : (S.fault x).stale = S.stale := rfl
theorem M.say_st (S : M) (l : List Int) : (S.say l).stale = S.stale := rfl
theorem M.begin_st (S : M) (k : Int) : (S.begin k).stale = false := rfl
theorem M.flush_st (S : M) : S.flush.stale = S.stale := by unfold M.flush; split <;> rfl
theorem M.keep_st (S : M) : S.keep.stale = S.stale := rfl
theorem M.leave_st (S : M) : S.leave.stale = S.stale := by unfold M.leave; split <;> rfl
theorem M.again_st (S : M) (n : Int) : (S.again n).stale = S.stale := by unfold M.again; (repeat' split) <;> rfl
theorem M.first_st (S : M) (r : Int) : (S.first r).stale = S.stale := by unfold M.first; rw [M.again_st, M.say_st, M.fault_st]; exact S.read_st
namespace M.Ok
variable {S : M} {c : Nat}
theorem pos (h : S.Ok c) : S.pos ≤ 4194304 := by have := h.p; have := h.n; omega
theorem f (h : S.Ok c) : S.faults.length < 1000000000 := by have := h.s; unfold M.sz at this; omega
theorem t (h : S.Ok c) : S.toks.length < 1000000000 := by have := h.s; unfold M.sz at this; omega
theorem g (h : S.Ok c) : S.tag.attrs.length < 1000000000 := by have := h.s; unfold M.sz at this; omega
theorem x (h : S.Ok c) : S.text.length + c < 1000000000 := by have := h.s; unfold M.sz at this; omega
theorem nm (h : S.Ok c) : S.name.length + c < 1000000000 := by have := h.s; unfold M.sz at this; omega
theorem at' (h : S.Ok c) : S.attr.length + c < 1000000000 := by have := h.s; unfold M.sz at this; omega
theorem vl (h : S.Ok c) : S.value.length + c < 1000000000 := by have := h.s; unfold M.sz at this; omega
theorem ls (h : S.Ok c) : S.faults.length < 500000000 ∧ S.text.length < 500000000 ∧ S.toks.length < 500000000 ∧ S.tag.attrs.length < 500000000 ∧ S.name.length < 500000000 ∧ S.attr.length < 500000000 ∧ S.value.length < 500000000 := by have := h.s; unfold M.sz at this; omega
theorem peek (h : S.Ok c) (i : Nat) : -1 ≤ S.peek i ∧ S.peek i ≤ 1114111 := by
  unfold M.peek
  cases e : S.inp[S.pos + i]? with
  | none => simp
  | some x => have := h.r x (List.mem_of_getElem? e); simp; omega
theorem le (h : S.Ok c) {d : Nat} (hd : d ≤ c) : S.Ok d := ⟨h.p, h.n, h.r, by have := h.s; omega⟩
theorem fault (h : S.Ok c) {d : Nat} {x : Int} (hd : d + 1 ≤ c) : (S.fault x).Ok d := ⟨h.p, h.n, h.r, by have := h.s; simp [M.fault, M.sz] at *; omega⟩
theorem read_more (h : S.Ok c) (h0 : S.peek 0 ≠ -1) : S.read.Ok (c + 63) := by
  unfold M.read
  rw [if_neg h0]
  have h1 := peek_lt h0
  have := h.p; have := h.n; have := h.s
  (repeat' split) <;> exact ⟨by simp only []; omega, by simp only []; omega, h.r, by simp [M.sz] at *; omega⟩
theorem read (h : S.Ok c) : S.read.Ok c := by
  by_cases h0 : S.peek 0 = -1
  · rw [M.read_eof h0]; exact h
  · exact (h.read_more h0).le (by omega)
theorem say (h : S.Ok c) {d : Nat} {l : List Int} (hd : d + l.length ≤ c) : (S.say l).Ok d := ⟨h.p, h.n, h.r, by have := h.s; simp [M.say, M.sz] at *; omega⟩
theorem begin (h : S.Ok c) {k : Int} : (S.begin k).Ok c := ⟨h.p, h.n, h.r, by have := h.s; simp [M.begin, M.sz] at *; omega⟩
theorem flush (h : S.Ok c) : S.flush.Ok c := by
  unfold M.flush
  split
  · exact ⟨h.p, h.n, h.r, by have := h.s; simp [M.sz] at *; omega⟩
  · exact h
theorem keep (h : S.Ok c) {d : Nat} (hd : d + 1 ≤ c) : S.keep.Ok d := by
  refine ⟨h.p, h.n, h.r, ?_⟩
  have := h.s
  unfold M.keep
  split <;> (simp [M.sz] at *; omega)
theorem leave (h : S.Ok c) {d : Nat} (hd : d + 1 ≤ c) : S.leave.Ok d := by
  have h2 : ({ S with twice := S.has } : M).Ok c := ⟨h.p, h.n, h.r, h.s⟩
  unfold M.leave
  split
  · exact h2.fault hd
  · exact h2.le (by omega)
theorem again (h : S.Ok c) {d : Nat} {i : Int} (hd : d + 1 ≤ c) (hp : S.pos < S.inp.length) : (S.again i).Ok d := by
  unfold M.again
  have h2 : ({ S with pos := S.pos + 1 } : M).Ok c := ⟨by have := h.p; simp only []; omega, h.n, h.r, by have := h.s; simp only [M.sz] at *; omega⟩
  (repeat' split)
  · exact h.le (by omega)
  · exact h2.say (by simp; omega)
  · exact h.le (by omega)
end M.Ok
theorem any_take {α : Type} (l : List α) (p : α → Bool) (j : Nat) (h : j < l.length) : (l.take (j + 1)).any p = ((l.take j).any p || p l[j]) := by
  rw [List.take_add_one, List.getElem?_eq_getElem h, List.any_append]
  simp only [Option.toList_some, List.any_cons, List.any_nil, Bool.or_false]

set_option maxHeartbeats 400000 in
theorem leave_c {V : Option (Option Addr × Nat)} (b : Nat) (S : M) (hs : S.stale = false)  (hO : S.Ok 1) : Fm Tryd.prog 57 [.pointer (some ⟨b, 0, none⟩)] (mach V b S) (.tuple #[]) (mach V b S.leave) := by
  intro β w0 F0 hM0
  obtain ⟨x, hk, hV, hM1⟩ := machAt.openT hs hM0
  clear hM0
  rename Mem _ _ _ => hM0
  refine enter Tryd.func57 (by rfl) 35 rfl rfl fun a0 Q hE0 hQ hN hP => ?_
  have hp0 := hO.p
  have hn0 := hO.n
  have hs0 := hO.s
  simp only [M.sz] at hs0
  refine wp_seq_k fun K0 hK0 => ?_
  refine wp_region_lit ?_
  refine one fun C hC => val hE0 (R.move hE0 rfl) rfl fun a1 hE1 => hC _ _ ?_
  clear hC C
  clear hE0 a0
  refine one fun C hC => val hE1 (R.nil hE1 rfl) rfl fun a2 hE2 => hC _ _ ?_
  clear hC C
  clear hE1 a1
  refine one fun C hC => val hE2 (R.fieldAddr hE2 53 11 18 fb_53_11 rfl) rfl fun a3 hE3 => hC _ _ ?_
  clear hC C
  clear hE2 a2
  refine one fun C hC => store hE3 hM0 sc_4 rfl rfl rfl rfl  fun  a4 w1 hE4 hM1 => hC _ _ ?_
  clear hC C hE3 hM0 a3
  try simp only [List.set_cons_zero, List.set_cons_succ, Nat.zero_add] at hM1
  refine wpList_nil (hK0 _ _ ?_)
  clear hK0 K0
  replace hE4 := hE4.keep (E' := [(0, _)]) ⟨rfl, trivial⟩
  refine wp_seq_k fun K1 hK1 => ?_
  refine wp_seq_k fun K2 hK2 => ?_
  refine wp_region_lit ?_
  refine one fun C hC => val hE4 (R.move hE4 rfl) rfl fun a5 hE5 => hC _ _ ?_
  clear hC C
  clear hE4 a4
  refine one fun C hC => val hE5 (R.nil hE5 rfl) rfl fun a6 hE6 => hC _ _ ?_
  clear hC C
  clear hE5 a5
  refine one fun C hC => val hE6 (R.fieldAddr hE6 53 6 6 fb_53_6 rfl) rfl fun a7 hE7 => hC _ _ ?_
  clear hC C
  clear hE6 a6
  refine one fun C hC => val hE7 (R.fieldAddr hE7 43 3 3 fb_43_3 rfl) rfl fun a8 hE8 => hC _ _ ?_
  clear hC C
  clear hE7 a7
  refine one fun C hC => val hE8 (R.load hE8 sc_39 rfl hM1 (by rfl)) rfl fun a9 hE9 => hC _ _ ?_
  clear hC C
  clear hE8 a8
  refine one fun C hC => val hE9 (R.lenSlice hE9 45 2 sl_39 rfl) rfl fun a10 hE10 => hC _ _ ?_
  clear hC C
  clear hE9 a9
  refine one fun C hC => val hE10 (R.move hE10 rfl) rfl fun a11 hE11 => hC _ _ ?_
  clear hC C
  clear hE10 a10
  refine wpList_nil (hK2 _ _ ?_)
  clear hK2 K2
  replace hE11 := hE11.keep (E' := [(0, _), (11, _), (12, _), (13, _)]) ⟨rfl, rfl, rfl, rfl, trivial⟩
  refine wp_block ?_
  refine loopR (σ := Nat) (fun j a w => Env 35 [] a [(0, .pointer (some ⟨b, 0, none⟩)), (11, .slice x.gA S.tag.attrs.length x.gC), (12, .int .i64 (S.tag.attrs.length : Nat)), (13, .int .i64 (j : Nat))] ∧ Mem β w (star (machO 53 21 43 24 45 b ({ S with twice := (S.tag.attrs.take j).any fun x => x.1.data.toList == (runesBytes S.attr).data.toList }) x) F0) ∧ (j ≤ S.tag.attrs.length)) (fun j => S.tag.attrs.length - j) 0 ?_ ?_
  · refine ⟨hE11.keep (by refine ⟨?_, ?_, ?_, ?_, trivial⟩ <;> first | rfl | exact eqInt (by first | rfl | omega | (push_cast; omega))), hM1.cast (by unfold machO; (try dsimp only); ac_rfl), ?_⟩
    omega
  · clear hE11 hM1 a11
    rintro j a12 w2 ⟨hE12, hM2, hI0⟩ K hK
    unfold machO at hM2
    try dsimp only at hM2
    simp only [star_assoc] at hM2
    have hg := hO.g
    have hf := hO.f
    have hK3 : ∀ a w, K a w → K a w := fun _ _ h => h
    refine wp_seq_k fun K4 hK4 => ?_
    refine wp_region_lit ?_
    refine one fun C hC => val hE12 (R.lss hE12 rfl rfl) rfl fun a13 hE13 => hC _ _ ?_
    clear hC C
    clear hE12 a12
    refine wpList_nil (hK4 _ _ ?_)
    clear hK4 K4
    replace hE13 := hE13.keep (E' := [(0, _), (11, _), (12, _), (13, _), (14, _)]) ⟨rfl, rfl, rfl, rfl, rfl, trivial⟩
    refine wp_seq_k fun K5 hK5 => ?_
    refine condR hE13 rfl ?_ ?_
    · intro hb1
      have ht1 := hb1
      try simp only [decide_eq_true_eq, decide_eq_false_iff_not, Bool.not_eq_true', Bool.not_eq_false', beq_iff_eq, Bool.and_eq_true, Bool.or_eq_true] at ht1
      refine wp_skip (hK5 _ _ ?_)
      refine wp_seq_k fun K6 hK6 => ?_
      refine wp_block ?_
      refine wp_seq_k fun K7 hK7 => ?_
      refine wp_region_lit ?_
      refine one fun C hC => val hE13 (R.indexRow hE13 45 2 sl_39 rfl rfl hM2 j rfl (by omega) rfl) rfl fun a14 hE14 => hC _ _ ?_
      clear hC C
      clear hE13 a13
      refine one fun C hC => val hE14 (R.loadElemAgg hE14 ss_45 rfl hM2 j rfl (getElem?_of_lt (l := S.tag.attrs) (j := j) (by omega))) rfl fun a15 hE15 => hC _ _ ?_
      clear hC C
      clear hE14 a14
      refine one fun C hC => alloc hE15 hM2 _ al_45 [.string ByteArray.empty, .string ByteArray.empty] rfl rfl  fun b3 a16 w3 hE16 hM3 => hC _ _ ?_
      clear hC C hE15 hM2 a15
      refine one fun C hC => storeAgg hE16 hM3 ss_45 rfl rfl rfl rfl rfl  fun  a17 w4 hE17 hM4 => hC _ _ ?_
      clear hC C hE16 hM3 a16
      try simp only [setSeg, List.set_cons_zero, List.set_cons_succ, Nat.zero_add, Nat.reduceAdd] at hM4
      refine wpList_nil (hK7 _ _ ?_)
      clear hK7 K7
      replace hE17 := hE17.keep (E' := [(0, _), (3, _), (11, _), (12, _), (13, _), (14, _)]) ⟨rfl, rfl, rfl, rfl, rfl, rfl, trivial⟩
      refine wp_seq_k fun K8 hK8 => ?_
      refine quietR mix (by kernel_rfl) hM4 fun C hC => ?_
      refine qval hE17 (fun _ hW => by exact R.fieldAddr hE17 45 0 0 fb_45_0 rfl) rfl fun a18 hE18 => ?_
      clear hE17 a17
      refine qval hE18 (fun _ hW => by exact R.load hE18 sc_9 rfl hW (by rfl)) rfl fun a19 hE19 => ?_
      clear hE18 a18
      refine qval hE19 (fun _ hW => by exact R.move hE19 rfl) rfl fun a20 hE20 => ?_
      clear hE19 a19
      refine qval hE20 (fun _ hW => by exact R.nil hE20 rfl) rfl fun a21 hE21 => ?_
      clear hE20 a20
      refine qval hE21 (fun _ hW => by exact R.fieldAddr hE21 53 8 15 fb_53_8 rfl) rfl fun a22 hE22 => ?_
      clear hE21 a21
      refine qval hE22 (fun _ hW => by exact R.load hE22 sc_50 rfl hW (by rfl)) rfl fun a23 hE23 => ?_
      clear hE22 a22
      refine qval hE23 (fun _ hW => by exact R.runes hE23 21 ru_50_9 rfl hW rfl) rfl fun a24 hE24 => ?_
      clear hE23 a23
      refine qval hE24 (fun _ hW => by exact R.seql hE24 rfl rfl) rfl fun a25 hE25 => ?_
      clear hE24 a24
      refine wpQuiet_nil (hC _ fun w5 hM5 => ?_)
      clear hC C hM4
      refine hK8 _ _ ?_
      clear hK8 K8
      replace hE25 := hE25.keep (E' := [(0, _), (3, _), (11, _), (12, _), (13, _), (14, _), (24, _)]) ⟨rfl, rfl, rfl, rfl, rfl, rfl, rfl, trivial⟩
      refine condR hE25 rfl ?_ ?_
      · intro hb2
        have ht2 := hb2
        try simp only [decide_eq_true_eq, decide_eq_false_iff_not, Bool.not_eq_true', Bool.not_eq_false', beq_iff_eq, Bool.and_eq_true, Bool.or_eq_true] at ht2
        refine wp_region_lit ?_
        refine one fun C hC => val hE25 (R.move hE25 rfl) rfl fun a26 hE26 => hC _ _ ?_
        clear hC C
        clear hE25 a25
        refine one fun C hC => val hE26 (R.nil hE26 rfl) rfl fun a27 hE27 => hC _ _ ?_
        clear hC C
        clear hE26 a26
        refine one fun C hC => val hE27 (R.fieldAddr hE27 53 11 18 fb_53_11 rfl) rfl fun a28 hE28 => hC _ _ ?_
        clear hC C
        clear hE27 a27
        refine one fun C hC => store hE28 hM5 sc_4 rfl rfl rfl rfl  fun  a29 w6 hE29 hM6 => hC _ _ ?_
        clear hC C hE28 hM5 a28
        try simp only [List.set_cons_zero, List.set_cons_succ, Nat.zero_add] at hM6
        replace hE29 := hE29.keep (E' := [(0, _), (3, _), (11, _), (12, _), (13, _), (14, _), (24, _)]) ⟨rfl, rfl, rfl, rfl, rfl, rfl, rfl, trivial⟩
        refine wpList_nil (hK6 _ _ ?_)
        refine wp_region_lit ?_
        refine one fun C hC => val hE29 (R.add64 hE29 rfl rfl (by omega) (by omega)) rfl fun a30 hE30 => hC _ _ ?_
        clear hC C
        clear hE29 a29
        refine one fun C hC => val hE30 (R.move hE30 rfl) rfl fun a31 hE31 => hC _ _ ?_
        clear hC C
        clear hE30 a30
        replace hE31 := hE31.keep (E' := [(0, _), (3, _), (11, _), (12, _), (13, _), (14, _), (24, _)]) ⟨rfl, rfl, rfl, rfl, rfl, rfl, rfl, trivial⟩
        refine wpList_nil (hK3 _ _ ?_)
        replace hM6 := hM6.cutB (b3)
        have e2 : ((S.tag.attrs.take (j + 1)).any fun x => x.1.data.toList == (runesBytes S.attr).data.toList) = true := by rw [any_take _ _ j (by omega), hb2]; simp
        refine hK (j + 1) _ _ ⟨hE31.keep (by refine ⟨?_, ?_, ?_, ?_, trivial⟩ <;> first | rfl | exact eqInt (by first | rfl | omega | (push_cast; omega))), hM6.cast (by unfold machO; (try dsimp only); (try rw [e2]); ac_rfl), ?_⟩ (by omega)
        omega
      · intro hb2
        have ht2 := hb2
        try simp only [decide_eq_true_eq, decide_eq_false_iff_not, Bool.not_eq_true', Bool.not_eq_false', beq_iff_eq, Bool.and_eq_true, Bool.or_eq_true] at ht2
        refine wp_skip (hK6 _ _ ?_)
        refine wp_region_lit ?_
        refine one fun C hC => val hE25 (R.add64 hE25 rfl rfl (by omega) (by omega)) rfl fun a26 hE26 => hC _ _ ?_
        clear hC C
        clear hE25 a25
        refine one fun C hC => val hE26 (R.move hE26 rfl) rfl fun a27 hE27 => hC _ _ ?_
        clear hC C
        clear hE26 a26
        replace hE27 := hE27.keep (E' := [(0, _), (3, _), (11, _), (12, _), (13, _), (14, _), (24, _)]) ⟨rfl, rfl, rfl, rfl, rfl, rfl, rfl, trivial⟩
        refine wpList_nil (hK3 _ _ ?_)
        replace hM5 := hM5.cutB (b3)
        have e2 : ((S.tag.attrs.take (j + 1)).any fun x => x.1.data.toList == (runesBytes S.attr).data.toList) = { S with twice := (S.tag.attrs.take j).any fun x => x.1.data.toList == (runesBytes S.attr).data.toList }.twice := by rw [any_take _ _ j (by omega), hb2]; simp
        refine hK (j + 1) _ _ ⟨hE27.keep (by refine ⟨?_, ?_, ?_, ?_, trivial⟩ <;> first | rfl | exact eqInt (by first | rfl | omega | (push_cast; omega))), hM5.cast (by unfold machO; (try dsimp only); (try rw [e2]); ac_rfl), ?_⟩ (by omega)
        omega
    · intro hb1
      have ht1 := hb1
      try simp only [decide_eq_true_eq, decide_eq_false_iff_not, Bool.not_eq_true', Bool.not_eq_false', beq_iff_eq, Bool.and_eq_true, Bool.or_eq_true] at ht1
      refine wp_exit (exitThen (exitThen (exitIn ?_)))
      refine hK1 _ _ ?_
      refine wp_seq_k fun K9 hK9 => ?_
      refine wp_region_lit ?_
      refine one fun C hC => val hE13 (R.move hE13 rfl) rfl fun a14 hE14 => hC _ _ ?_
      clear hC C
      clear hE13 a13
      refine one fun C hC => val hE14 (R.nil hE14 rfl) rfl fun a15 hE15 => hC _ _ ?_
      clear hC C
      clear hE14 a14
      refine one fun C hC => val hE15 (R.fieldAddr hE15 53 11 18 fb_53_11 rfl) rfl fun a16 hE16 => hC _ _ ?_
      clear hC C
      clear hE15 a15
      refine one fun C hC => val hE16 (R.load hE16 sc_4 rfl hM2 (by rfl)) rfl fun a17 hE17 => hC _ _ ?_
      clear hC C
      clear hE16 a16
      refine wpList_nil (hK9 _ _ ?_)
      clear hK9 K9
      replace hE17 := hE17.keep (E' := [(0, _), (11, _), (12, _), (13, _), (14, _), (32, _)]) ⟨rfl, rfl, rfl, rfl, rfl, rfl, trivial⟩
      refine condR hE17 rfl ?_ ?_
      · intro hb2
        have ht2 := hb2
        try simp only [decide_eq_true_eq, decide_eq_false_iff_not, Bool.not_eq_true', Bool.not_eq_false', beq_iff_eq, Bool.and_eq_true, Bool.or_eq_true] at ht2
        refine wp_region_lit ?_
        refine one fun C hC => val hE17 (R.move hE17 rfl) rfl fun a18 hE18 => hC _ _ ?_
        clear hC C
        clear hE17 a17
        refine one fun C hC => callM hE18 (fault_c b { S with twice := (S.tag.attrs.take j).any fun x => x.1.data.toList == (runesBytes S.attr).data.toList } 4 hf) cb_20 rfl (machAt.closeT (T := 53) (R := 21) (K := 43) (L := 24) (A := 45) (V := V) (b := b) (S := { S with twice := (S.tag.attrs.take j).any fun x => x.1.data.toList == (runesBytes S.attr).data.toList }) (F := F0) (by first | rfl | assumption | ((try dsimp only); (try simp only [M.read_st, M.fault_st, M.say_st, M.begin_st, M.flush_st, M.keep_st, M.leave_st, M.again_st, M.first_st]); first | rfl | assumption)) x hk hV (by (try dsimp only); (try simp only [List.length_nil, attrsOf_snoc, tagAt_true]); (try simp only [emp_star, star_emp]); exact hM2.cast (by ac_rfl))) rfl fun  a19 w3 hE19 hM3 => hC _ _ ?_
        clear hC C hE18 hM2 a18
        replace hE19 := hE19.keep (E' := [(0, _), (11, _), (12, _), (13, _), (14, _), (32, _)]) ⟨rfl, rfl, rfl, rfl, rfl, rfl, trivial⟩
        refine wpList_nil (hN _ _ ?_)
        refine back0 hE19 rfl (Mem.done rfl ?_)
        have hm := hM3
        have ej : List.take j S.tag.attrs = S.tag.attrs := List.take_of_length_le (by omega); simp only [ej] at hm hb2; simp only [hb2] at hm; have eS : S.leave = { S with twice := true }.fault 4 := (by have hh : S.has = _ := hb2; unfold M.leave; rw [hh]; rfl); rw [eS]; exact hm
      · intro hb2
        have ht2 := hb2
        try simp only [decide_eq_true_eq, decide_eq_false_iff_not, Bool.not_eq_true', Bool.not_eq_false', beq_iff_eq, Bool.and_eq_true, Bool.or_eq_true] at ht2
        refine wp_skip (hN _ _ ?_)
        refine back0 hE17 rfl (Mem.done rfl ?_)
        have hm := (machAt.closeT (T := 53) (R := 21) (K := 43) (L := 24) (A := 45) (V := V) (b := b) (S := { S with twice := (S.tag.attrs.take j).any fun x => x.1.data.toList == (runesBytes S.attr).data.toList }) (F := F0) (by first | rfl | assumption | ((try dsimp only); (try simp only [M.read_st, M.fault_st, M.say_st, M.begin_st, M.flush_st, M.keep_st, M.leave_st, M.again_st, M.first_st]); first | rfl | assumption)) x hk hV (by (try dsimp only); (try simp only [List.length_nil, attrsOf_snoc, tagAt_true]); (try simp only [emp_star, star_emp]); exact hM2.cast (by ac_rfl)))
        have ej : List.take j S.tag.attrs = S.tag.attrs := List.take_of_length_le (by omega); simp only [ej] at hm hb2; simp only [hb2] at hm; have eS : S.leave = { S with twice := false } := (by have hh : S.has = _ := hb2; unfold M.leave; rw [hh]; rfl); rw [eS]; exact hm

theorem say_lit {V : Option (Option Addr × Nat)} (b : Nat) (S : M) (r : Int) (g : Nat) (hO : S.Ok 1) : Fm Tryd.prog 16 [.pointer (some ⟨b, 0, none⟩), .slice (some ⟨g, 0, none⟩) 1 1] (star (mach V b S) (pts g 21 [.int .i32 r])) (.tuple #[]) (mach V b (S.say [r])) := by
  intro β w F hM
  have h1 : Mem β w (star (pts g 21 [.int .i32 r]) (star (mach V b S) F)) := hM.cast (by ac_rfl)
  have h2 := h1.row_of_pts (xs := [r]) (enc := rune) (sz := 1) (by intro x _; rfl) rfl (by simp [maxLen])
  refine (say_c (V := V) b S [r] (some ⟨g, 0, none⟩) 1 (by simp) (by have := hO.x; simp; omega) β w F (h2.cast (by ac_rfl))).mono fun e w' ⟨v, he, hm⟩ => ⟨v, he, ?_⟩
  have h3 : Mem β w' (star (row 21 1 rune (some ⟨g, 0, none⟩) 1 [r]) (star (star (fact (v = .tuple #[])) (mach V b (S.say [r]))) F)) := hm.cast (by ac_rfl)
  exact h3.drop
theorem say_lit2 {V : Option (Option Addr × Nat)} (b : Nat) (S : M) (r q : Int) (g : Nat) (hO : S.Ok 2) : Fm Tryd.prog 16 [.pointer (some ⟨b, 0, none⟩), .slice (some ⟨g, 0, none⟩) 2 2] (star (mach V b S) (pts g 21 [.int .i32 r, .int .i32 q])) (.tuple #[]) (mach V b (S.say [r, q])) := by
  intro β w F hM
  have h1 : Mem β w (star (pts g 21 [.int .i32 r, .int .i32 q]) (star (mach V b S) F)) := hM.cast (by ac_rfl)
  have h2 := h1.row_of_pts (xs := [r, q]) (enc := rune) (sz := 1) (by intro x _; rfl) rfl (by simp [maxLen])
  refine (say_c (V := V) b S [r, q] (some ⟨g, 0, none⟩) 2 (by simp) (by have := hO.x; simp; omega) β w F (h2.cast (by ac_rfl))).mono fun e w' ⟨v, he, hm⟩ => ⟨v, he, ?_⟩
  have h3 : Mem β w' (star (row 21 1 rune (some ⟨g, 0, none⟩) 2 [r, q]) (star (star (fact (v = .tuple #[])) (mach V b (S.say [r, q]))) F)) := hm.cast (by ac_rfl)
  exact h3.drop
theorem say_row {V : Option (Option Addr × Nat)} (b : Nat) (S : M) (l : List Int) (a : Option Addr) (c : Nat) (hl : 0 < l.length) (hO : S.Ok l.length) : Fm Tryd.prog 16 [.pointer (some ⟨b, 0, none⟩), .slice a l.length c] (star (mach V b S) (row 21 1 rune a c l)) (.tuple #[]) (mach V b (S.say l)) := by
  intro β w F hM
  refine (say_c (V := V) b S l a c hl (by have := hO.x; omega) β w F hM).mono fun e w' ⟨v, he, hm⟩ => ⟨v, he, ?_⟩
  have h3 : Mem β w' (star (row 21 1 rune a c l) (star (star (fact (v = .tuple #[])) (mach V b (S.say l))) F)) := hm.cast (by ac_rfl)
  exact h3.drop

set_option maxHeartbeats 400000 in
theorem again_c {V : Option (Option Addr × Nat)} (b : Nat) (S : M) (i : Int) (hp : S.pos < S.inp.length) (hO : S.Ok 1) : Fm Tryd.prog 38 [.pointer (some ⟨b, 0, none⟩), .int .i64 i] (mach V b S) (.tuple #[]) (mach V b (S.again i)) := by
  intro β w0 F0 hM0
  obtain ⟨x, hk, hV, hM1⟩ := machAt.open_ hM0
  clear hM0
  rename Mem _ _ _ => hM0
  refine enter Tryd.func38 (by rfl) 39 rfl rfl fun a0 Q hE0 hQ hN hP => ?_
  have hp0 := hO.p
  have hn0 := hO.n
  have hs0 := hO.s
  simp only [M.sz] at hs0
  refine wp_seq_k fun K0 hK0 => ?_
  refine quietR mix (by kernel_rfl) hM0 fun C hC => ?_
  refine qval hE0 (fun _ hW => by exact R.move hE0 rfl) rfl fun a1 hE1 => ?_
  clear hE0 a0
  refine qval hE1 (fun _ hW => by exact R.nil hE1 rfl) rfl fun a2 hE2 => ?_
  clear hE1 a1
  refine qval hE2 (fun _ hW => by exact R.fieldAddr hE2 53 0 0 fb_53_0 rfl) rfl fun a3 hE3 => ?_
  clear hE2 a2
  refine qval hE3 (fun _ hW => by exact R.load hE3 sc_50 rfl hW (by rfl)) rfl fun a4 hE4 => ?_
  clear hE3 a3
  refine qval hE4 (fun _ hW => by exact R.move hE4 rfl) rfl fun a5 hE5 => ?_
  clear hE4 a4
  refine qval hE5 (fun _ hW => by exact R.nil hE5 rfl) rfl fun a6 hE6 => ?_
  clear hE5 a5
  refine qval hE6 (fun _ hW => by exact R.fieldAddr hE6 53 1 1 fb_53_1 rfl) rfl fun a7 hE7 => ?_
  clear hE6 a6
  refine qval hE7 (fun _ hW => by exact R.load hE7 sc_3 rfl hW (by rfl)) rfl fun a8 hE8 => ?_
  clear hE7 a7
  refine qval hE8 (fun _ hW => by exact R.indexRow hE8 21 1 sl_50 rfl rfl hW S.pos rfl (by omega) rfl) rfl fun a9 hE9 => ?_
  clear hE8 a8
  refine qval hE9 (fun _ hW => by exact R.loadInt hE9 sc_21 rfl hW S.pos rfl (peek_get hp)) rfl fun a10 hE10 => ?_
  clear hE9 a9
  refine qval hE10 (fun _ hW => by exact R.assign hE10 rfl) rfl fun a11 hE11 => ?_
  clear hE10 a10
  refine wpQuiet_nil (hC _ fun w1 hM1 => ?_)
  clear hC C hM0
  refine hK0 _ _ ?_
  clear hK0 K0
  replace hE11 := hE11.keep (E' := [(0, _), (1, _), (4, _)]) ⟨rfl, rfl, rfl, trivial⟩
  refine wp_block ?_
  refine wp_seq_k fun K1 hK1 => ?_
  refine wp_region_lit ?_
  refine one fun C hC => val hE11 (R.move hE11 rfl) rfl fun a12 hE12 => hC _ _ ?_
  clear hC C
  clear hE11 a11
  refine one fun C hC => val hE12 (R.eql hE12 rfl rfl) rfl fun a13 hE13 => hC _ _ ?_
  clear hC C
  clear hE12 a12
  refine one fun C hC => val hE13 (R.move hE13 rfl) rfl fun a14 hE14 => hC _ _ ?_
  clear hC C
  clear hE13 a13
  refine splitE hE14 (x := .tmp 31) rfl ?_ ?_
  · intro hb1
    have ht1 := hb1
    try simp only [decide_eq_true_eq, decide_eq_false_iff_not, Bool.not_eq_true', Bool.not_eq_false', beq_iff_eq, Bool.and_eq_true, Bool.or_eq_true] at ht1
    refine oneOff hE14 rfl rfl hb1 rfl fun a15 hE15 => ?_
    clear hE14 a14
    refine oneOff hE15 rfl rfl hb1 rfl fun a16 hE16 => ?_
    clear hE15 a15
    refine one fun C hC => val hE16 (R.pickT hE16 rfl hb1 rfl) rfl fun a17 hE17 => hC _ _ ?_
    clear hC C
    clear hE16 a16
    refine one fun C hC => val hE17 (R.move hE17 rfl) rfl fun a18 hE18 => hC _ _ ?_
    clear hC C
    clear hE17 a17
    refine oneOff hE18 rfl rfl rfl rfl fun a19 hE19 => ?_
    clear hE18 a18
    refine oneOff hE19 rfl rfl rfl rfl fun a20 hE20 => ?_
    clear hE19 a19
    refine one fun C hC => val hE20 (R.pickT hE20 rfl rfl rfl) rfl fun a21 hE21 => hC _ _ ?_
    clear hC C
    clear hE20 a20
    refine one fun C hC => val hE21 (R.assign hE21 rfl) rfl fun a22 hE22 => hC _ _ ?_
    clear hC C
    clear hE21 a21
    refine wpList_nil (hK1 _ _ ?_)
    clear hK1 K1
    replace hE22 := hE22.keep (E' := [(0, _), (1, _), (4, _), (28, _)]) ⟨rfl, rfl, rfl, rfl, trivial⟩
    refine condT hE22 rfl rfl ?_
    refine wp_ret (hQ _ _ ?_)
    refine back0 hE22 rfl (Mem.done rfl ?_)
    have hm := (machAt.close (T := 53) (R := 21) (K := 43) (L := 24) (A := 45) (V := V) (b := b) (S := S) (F := F0) x hk hV (by (try dsimp only); (try simp only [List.length_nil, attrsOf_snoc, tagAt_true]); (try simp only [emp_star, star_emp]); exact hM1.cast (by ac_rfl)))
    simp only [M.again]; (repeat' split) <;> first | exact hm | (exfalso; omega) | (exfalso; simp_all; done) | (simp_all; done)
  · intro hb1
    have ht1 := hb1
    try simp only [decide_eq_true_eq, decide_eq_false_iff_not, Bool.not_eq_true', Bool.not_eq_false', beq_iff_eq, Bool.and_eq_true, Bool.or_eq_true] at ht1
    refine oneOn hE14 rfl rfl hb1 fun C hC => val hE14 (R.move hE14 rfl) rfl fun a15 hE15 => hC _ _ ?_
    clear hC C
    clear hE14 a14
    refine oneOn hE15 rfl rfl hb1 fun C hC => val hE15 (R.eql hE15 rfl rfl) rfl fun a16 hE16 => hC _ _ ?_
    clear hC C
    clear hE15 a15
    refine one fun C hC => val hE16 (R.pickF hE16 rfl hb1 rfl) rfl fun a17 hE17 => hC _ _ ?_
    clear hC C
    clear hE16 a16
    refine one fun C hC => val hE17 (R.move hE17 rfl) rfl fun a18 hE18 => hC _ _ ?_
    clear hC C
    clear hE17 a17
    refine splitE hE18 (x := .tmp 35) rfl ?_ ?_
    · intro hb2
      have ht2 := hb2
      try simp only [decide_eq_true_eq, decide_eq_false_iff_not, Bool.not_eq_true', Bool.not_eq_false', beq_iff_eq, Bool.and_eq_true, Bool.or_eq_true] at ht2
      refine oneOff hE18 rfl rfl hb2 rfl fun a19 hE19 => ?_
      clear hE18 a18
      refine oneOff hE19 rfl rfl hb2 rfl fun a20 hE20 => ?_
      clear hE19 a19
      refine one fun C hC => val hE20 (R.pickT hE20 rfl hb2 rfl) rfl fun a21 hE21 => hC _ _ ?_
      clear hC C
      clear hE20 a20
      refine one fun C hC => val hE21 (R.assign hE21 rfl) rfl fun a22 hE22 => hC _ _ ?_
      clear hC C
      clear hE21 a21
      refine wpList_nil (hK1 _ _ ?_)
      clear hK1 K1
      replace hE22 := hE22.keep (E' := [(0, _), (1, _), (4, _), (28, _)]) ⟨rfl, rfl, rfl, rfl, trivial⟩
      refine condT hE22 rfl rfl ?_
      refine wp_ret (hQ _ _ ?_)
      refine back0 hE22 rfl (Mem.done rfl ?_)
      have hm := (machAt.close (T := 53) (R := 21) (K := 43) (L := 24) (A := 45) (V := V) (b := b) (S := S) (F := F0) x hk hV (by (try dsimp only); (try simp only [List.length_nil, attrsOf_snoc, tagAt_true]); (try simp only [emp_star, star_emp]); exact hM1.cast (by ac_rfl)))
      simp only [M.again]; (repeat' split) <;> first | exact hm | (exfalso; omega) | (exfalso; simp_all; done) | (simp_all; done)
    · intro hb2
      have ht2 := hb2
      try simp only [decide_eq_true_eq, decide_eq_false_iff_not, Bool.not_eq_true', Bool.not_eq_false', beq_iff_eq, Bool.and_eq_true, Bool.or_eq_true] at ht2
      refine oneOn hE18 rfl rfl hb2 fun C hC => val hE18 (R.move hE18 rfl) rfl fun a19 hE19 => hC _ _ ?_
      clear hC C
      clear hE18 a18
      refine oneOn hE19 rfl rfl hb2 fun C hC => val hE19 (R.eql hE19 rfl rfl) rfl fun a20 hE20 => hC _ _ ?_
      clear hC C
      clear hE19 a19
      refine one fun C hC => val hE20 (R.pickF hE20 rfl hb2 rfl) rfl fun a21 hE21 => hC _ _ ?_
      clear hC C
      clear hE20 a20
      refine one fun C hC => val hE21 (R.assign hE21 rfl) rfl fun a22 hE22 => hC _ _ ?_
      clear hC C
      clear hE21 a21
      refine wpList_nil (hK1 _ _ ?_)
      clear hK1 K1
      replace hE22 := hE22.keep (E' := [(0, _), (1, _), (4, _), (28, _)]) ⟨rfl, rfl, rfl, rfl, trivial⟩
      refine condR hE22 rfl ?_ ?_
      · intro hb3
        have ht3 := hb3
        try simp only [decide_eq_true_eq, decide_eq_false_iff_not, Bool.not_eq_true', Bool.not_eq_false', beq_iff_eq, Bool.and_eq_true, Bool.or_eq_true] at ht3
        refine wp_ret (hQ _ _ ?_)
        refine back0 hE22 rfl (Mem.done rfl ?_)
        have hm := (machAt.close (T := 53) (R := 21) (K := 43) (L := 24) (A := 45) (V := V) (b := b) (S := S) (F := F0) x hk hV (by (try dsimp only); (try simp only [List.length_nil, attrsOf_snoc, tagAt_true]); (try simp only [emp_star, star_emp]); exact hM1.cast (by ac_rfl)))
        simp only [M.again]; (repeat' split) <;> first | exact hm | (exfalso; omega) | (exfalso; simp_all; done) | (simp_all; done)
      · intro hb3
        have ht3 := hb3
        try simp only [decide_eq_true_eq, decide_eq_false_iff_not, Bool.not_eq_true', Bool.not_eq_false', beq_iff_eq, Bool.and_eq_true, Bool.or_eq_true] at ht3
        refine wp_seq_k fun K2 hK2 => ?_
        refine wp_region_lit ?_
        refine one fun C hC => val hE22 (R.move hE22 rfl) rfl fun a23 hE23 => hC _ _ ?_
        clear hC C
        clear hE22 a22
        refine one fun C hC => val hE23 (R.gtr hE23 rfl rfl) rfl fun a24 hE24 => hC _ _ ?_
        clear hC C
        clear hE23 a23
        refine wpList_nil (hK2 _ _ ?_)
        clear hK2 K2
        replace hE24 := hE24.keep (E' := [(0, _), (1, _), (4, _), (16, _), (28, _)]) ⟨rfl, rfl, rfl, rfl, rfl, trivial⟩
        refine condR hE24 rfl ?_ ?_
        · intro hb4
          have ht4 := hb4
          try simp only [decide_eq_true_eq, decide_eq_false_iff_not, Bool.not_eq_true', Bool.not_eq_false', beq_iff_eq, Bool.and_eq_true, Bool.or_eq_true] at ht4
          refine wp_seq_k fun K3 hK3 => ?_
          refine wp_region_lit ?_
          refine one fun C hC => val hE24 (R.move hE24 rfl) rfl fun a25 hE25 => hC _ _ ?_
          clear hC C
          clear hE24 a24
          refine one fun C hC => val hE25 (R.nil hE25 rfl) rfl fun a26 hE26 => hC _ _ ?_
          clear hC C
          clear hE25 a25
          refine one fun C hC => val hE26 (R.fieldAddr hE26 53 1 1 fb_53_1 rfl) rfl fun a27 hE27 => hC _ _ ?_
          clear hC C
          clear hE26 a26
          refine one fun C hC => val hE27 (R.load hE27 sc_3 rfl hM1 (by rfl)) rfl fun a28 hE28 => hC _ _ ?_
          clear hC C
          clear hE27 a27
          refine one fun C hC => val hE28 (R.add64 hE28 rfl rfl (by omega) (by omega)) rfl fun a29 hE29 => hC _ _ ?_
          clear hC C
          clear hE28 a28
          refine one fun C hC => val hE29 (R.nil hE29 rfl) rfl fun a30 hE30 => hC _ _ ?_
          clear hC C
          clear hE29 a29
          refine one fun C hC => val hE30 (R.fieldAddr hE30 53 1 1 fb_53_1 rfl) rfl fun a31 hE31 => hC _ _ ?_
          clear hC C
          clear hE30 a30
          refine one fun C hC => store hE31 hM1 sc_3 rfl rfl rfl rfl  fun  a32 w2 hE32 hM2 => hC _ _ ?_
          clear hC C hE31 hM1 a31
          try simp only [List.set_cons_zero, List.set_cons_succ, Nat.zero_add] at hM2
          refine wpList_nil (hK3 _ _ ?_)
          clear hK3 K3
          replace hE32 := hE32.keep (E' := [(0, _), (1, _), (4, _), (16, _), (28, _)]) ⟨rfl, rfl, rfl, rfl, rfl, trivial⟩
          refine wp_region_lit ?_
          refine one fun C hC => val hE32 (R.move hE32 rfl) rfl fun a33 hE33 => hC _ _ ?_
          clear hC C
          clear hE32 a32
          refine one fun C hC => val hE33 (R.move hE33 rfl) rfl fun a34 hE34 => hC _ _ ?_
          clear hC C
          clear hE33 a33
          refine one fun C hC => lit1 hE34 hM2 4 el_50 rfl rfl rfl  fun b26 a35 w3 hE35 hM3 => hC _ _ ?_
          clear hC C hE34 hM2 a34
          have hO1 : M.Ok ({ S with pos := S.pos + 1 }) 1 := by have h1 := hO.p; have h2 := hO.n; have h3 := hO.s; exact ⟨by (try dsimp only); omega, by (try dsimp only); omega, hO.r, by (try simp only [M.sz, List.length_append, List.length_cons, List.length_nil] at h3 ⊢); omega⟩
          have hp1 := hO1.p
          have hn1 := hO1.n
          refine one fun C hC => callM hE35 (say_lit b { S with pos := S.pos + 1 } (S.peek 0) _ (hO1.le (by omega))) cb_16 rfl ((machAt.close (T := 53) (R := 21) (K := 43) (L := 24) (A := 45) (V := V) (b := b) (S := { S with pos := S.pos + 1 }) (F := star (pts b26 21 [.int .i32 (S.peek 0)]) F0) x hk hV (by (try dsimp only); (try simp only [List.length_nil, attrsOf_snoc, tagAt_true]); (try simp only [emp_star, star_emp]); exact hM3.cast (by ac_rfl))).cast (star_assoc _ _ _).symm) rfl fun  a36 w4 hE36 hM4 => hC _ _ ?_
          clear hC C hE35 hM3 a35
          have hO2 := hO1.say (l := [S.peek 0]) (d := 0) (by (try simp only [List.length_cons, List.length_nil]); omega)
          have hp2 := hO2.p
          have hn2 := hO2.n
          replace hE36 := hE36.keep (E' := [(0, _), (1, _), (4, _), (16, _), (28, _)]) ⟨rfl, rfl, rfl, rfl, rfl, trivial⟩
          refine wpList_nil (hN _ _ ?_)
          refine back0 hE36 rfl (Mem.done rfl ?_)
          have hm := hM4
          simp only [M.again]; (repeat' split) <;> first | exact hm | (exfalso; omega) | (exfalso; simp_all; done) | (simp_all; done)
        · intro hb4
          have ht4 := hb4
          try simp only [decide_eq_true_eq, decide_eq_false_iff_not, Bool.not_eq_true', Bool.not_eq_false', beq_iff_eq, Bool.and_eq_true, Bool.or_eq_true] at ht4
          refine wp_skip (hN _ _ ?_)
          refine back0 hE24 rfl (Mem.done rfl ?_)
          have hm := (machAt.close (T := 53) (R := 21) (K := 43) (L := 24) (A := 45) (V := V) (b := b) (S := S) (F := F0) x hk hV (by (try dsimp only); (try simp only [List.length_nil, attrsOf_snoc, tagAt_true]); (try simp only [emp_star, star_emp]); exact hM1.cast (by ac_rfl)))
          simp only [M.again]; (repeat' split) <;> first | exact hm | (exfalso; omega) | (exfalso; simp_all; done) | (simp_all; done)

set_option maxHeartbeats 400000 in
theorem first_c {V : Option (Option Addr × Nat)} (b : Nat) (S : M) (r : Int) (h0 : S.peek 0 ≠ -1) (hO : S.Ok 4) : Fm Tryd.prog 23 [.pointer (some ⟨b, 0, none⟩), .int .i32 r] (mach V b S) (.tuple #[]) (mach V b (S.first r)) := by
  intro β w0 F0 hM0
  obtain ⟨x, hk, hV, hM1⟩ := machAt.open_ hM0
  clear hM0
  rename Mem _ _ _ => hM0
  refine enter Tryd.func23 (by rfl) 36 rfl rfl fun a0 Q hE0 hQ hN hP => ?_
  have hp0 := hO.p
  have hn0 := hO.n
  have hs0 := hO.s
  simp only [M.sz] at hs0
  have er := M.read_pos h0
  have ei := M.read_inp S
  have el := peek_lt h0
  have ef := hO.read.s
  simp only [M.sz] at ef
  have eb : (S.read.pos : Int) - 1 = ((S.read.pos - 1 : Nat) : Int) := by omega
  refine wp_seq_k fun K0 hK0 => ?_
  refine wp_region_lit ?_
  refine one fun C hC => val hE0 (R.move hE0 rfl) rfl fun a1 hE1 => hC _ _ ?_
  clear hC C
  clear hE0 a0
  refine one fun C hC => val hE1 (R.nil hE1 rfl) rfl fun a2 hE2 => hC _ _ ?_
  clear hC C
  clear hE1 a1
  refine one fun C hC => val hE2 (R.fieldAddr hE2 53 3 3 fb_53_3 rfl) rfl fun a3 hE3 => hC _ _ ?_
  clear hC C
  clear hE2 a2
  refine one fun C hC => val hE3 (R.load hE3 sc_26 rfl hM0 (by rfl)) rfl fun a4 hE4 => hC _ _ ?_
  clear hC C
  clear hE3 a3
  refine one fun C hC => val hE4 (R.lenSlice hE4 24 1 sl_26 rfl) rfl fun a5 hE5 => hC _ _ ?_
  clear hC C
  clear hE4 a4
  refine one fun C hC => val hE5 (R.assign hE5 rfl) rfl fun a6 hE6 => hC _ _ ?_
  clear hC C
  clear hE5 a5
  refine wpList_nil (hK0 _ _ ?_)
  clear hK0 K0
  replace hE6 := hE6.keep (E' := [(0, _), (1, _), (4, _)]) ⟨rfl, rfl, rfl, trivial⟩
  refine wp_seq_k fun K1 hK1 => ?_
  refine wp_region_lit ?_
  refine one fun C hC => val hE6 (R.move hE6 rfl) rfl fun a7 hE7 => hC _ _ ?_
  clear hC C
  clear hE6 a6
  refine one fun C hC => callM hE7 (read_c b S hO.pos hO.f) cb_14 rfl (machAt.close (T := 53) (R := 21) (K := 43) (L := 24) (A := 45) (V := V) (b := b) (S := S) (F := F0) x hk hV (by (try dsimp only); (try simp only [List.length_nil, attrsOf_snoc, tagAt_true]); (try simp only [emp_star, star_emp]); exact hM0.cast (by ac_rfl))) rfl fun  a8 w1 hE8 hM1 => hC _ _ ?_
  clear hC C hE7 hM0 a7
  have hO1 := hO.read_more h0
  have hp1 := hO1.p
  have hn1 := hO1.n
  refine wpList_nil (hK1 _ _ ?_)
  clear hK1 K1
  replace hE8 := hE8.keep (E' := [(0, _), (1, _), (4, _)]) ⟨rfl, rfl, rfl, trivial⟩
  refine wp_seq_k fun K2 hK2 => ?_
  refine wp_region_lit ?_
  refine one fun C hC => val hE8 (R.move hE8 rfl) rfl fun a9 hE9 => hC _ _ ?_
  clear hC C
  clear hE8 a8
  refine one fun C hC => val hE9 (R.nil hE9 rfl) rfl fun a10 hE10 => hC _ _ ?_
  clear hC C
  clear hE9 a9
  refine one fun C hC => val hE10 (R.fieldAddr hE10 53 1 1 fb_53_1 rfl) rfl fun a11 hE11 => hC _ _ ?_
  clear hC C
  clear hE10 a10
  obtain ⟨x1, hk1, hV1, hM2⟩ := machAt.open_ hM1
  try dsimp only at hM2 hk1
  clear hM1
  have hZ1 := hO1.ls
  try dsimp only at hZ1
  refine one fun C hC => val hE11 (R.load hE11 sc_3 rfl hM2 (by rfl)) rfl fun a12 hE12 => hC _ _ ?_
  clear hC C
  clear hE11 a11
  refine one fun C hC => val hE12 (R.sub64 hE12 rfl rfl (by omega) (by omega)) rfl fun a13 hE13 => hC _ _ ?_
  clear hC C
  clear hE12 a12
  refine one fun C hC => val hE13 (R.nil hE13 rfl) rfl fun a14 hE14 => hC _ _ ?_
  clear hC C
  clear hE13 a13
  refine one fun C hC => val hE14 (R.fieldAddr hE14 53 1 1 fb_53_1 rfl) rfl fun a15 hE15 => hC _ _ ?_
  clear hC C
  clear hE14 a14
  refine one fun C hC => store hE15 hM2 sc_3 rfl rfl rfl rfl  fun  a16 w3 hE16 hM3 => hC _ _ ?_
  clear hC C hE15 hM2 a15
  try simp only [List.set_cons_zero, List.set_cons_succ, Nat.zero_add] at hM3
  rw [eb] at hM3
  refine wpList_nil (hK2 _ _ ?_)
  clear hK2 K2
  replace hE16 := hE16.keep (E' := [(0, _), (1, _), (4, _)]) ⟨rfl, rfl, rfl, trivial⟩
  refine wp_seq_k fun K3 hK3 => ?_
  refine wp_region_lit ?_
  refine one fun C hC => val hE16 (R.move hE16 rfl) rfl fun a17 hE17 => hC _ _ ?_
  clear hC C
  clear hE16 a16
  refine one fun C hC => val hE17 (R.nil hE17 rfl) rfl fun a18 hE18 => hC _ _ ?_
  clear hC C
  clear hE17 a17
  refine one fun C hC => val hE18 (R.fieldAddr hE18 53 3 3 fb_53_3 rfl) rfl fun a19 hE19 => hC _ _ ?_
  clear hC C
  clear hE18 a18
  refine one fun C hC => val hE19 (R.load hE19 sc_26 rfl hM3 (by rfl)) rfl fun a20 hE20 => hC _ _ ?_
  clear hC C
  clear hE19 a19
  refine one fun C hC => val hE20 (R.lenSlice hE20 24 1 sl_26 rfl) rfl fun a21 hE21 => hC _ _ ?_
  clear hC C
  clear hE20 a20
  refine one fun C hC => val hE21 (R.move hE21 rfl) rfl fun a22 hE22 => hC _ _ ?_
  clear hC C
  clear hE21 a21
  refine one fun C hC => val hE22 (R.sub64 hE22 rfl rfl (by omega) (by omega)) rfl fun a23 hE23 => hC _ _ ?_
  clear hC C
  clear hE22 a22
  refine one fun C hC => val hE23 (R.assign hE23 rfl) rfl fun a24 hE24 => hC _ _ ?_
  clear hC C
  clear hE23 a23
  refine wpList_nil (hK3 _ _ ?_)
  clear hK3 K3
  replace hE24 := hE24.keep (E' := [(0, _), (1, _), (4, _), (5, _)]) ⟨rfl, rfl, rfl, rfl, trivial⟩
  refine wp_seq_k fun K4 hK4 => ?_
  refine wp_region_lit ?_
  refine one fun C hC => val hE24 (R.move hE24 rfl) rfl fun a25 hE25 => hC _ _ ?_
  clear hC C
  clear hE24 a24
  have hO2 : M.Ok ({ S.read with pos := S.read.pos - 1 }) 3 := by have h1 := hO1.p; have h2 := hO1.n; have h3 := hO1.s; exact ⟨by (try dsimp only); omega, by (try dsimp only); omega, hO1.r, by (try simp only [M.sz, List.length_append, List.length_cons, List.length_nil] at h3 ⊢); omega⟩
  have hp2 := hO2.p
  have hn2 := hO2.n
  refine one fun C hC => callM hE25 (fault_c b { S.read with pos := S.read.pos - 1 } 9 hO2.f) cb_20 rfl (machAt.close (T := 53) (R := 21) (K := 43) (L := 24) (A := 45) (V := V) (b := b) (S := { S.read with pos := S.read.pos - 1 }) (F := F0) x1 hk1 hV1 (by (try dsimp only); (try simp only [List.length_nil, attrsOf_snoc, tagAt_true]); (try simp only [emp_star, star_emp]); exact hM3.cast (by ac_rfl))) rfl fun  a26 w4 hE26 hM4 => hC _ _ ?_
  clear hC C hE25 hM3 a25
  have hO3 := hO2.fault (x := 9) (d := 2) (by omega)
  have hp3 := hO3.p
  have hn3 := hO3.n
  refine wpList_nil (hK4 _ _ ?_)
  clear hK4 K4
  replace hE26 := hE26.keep (E' := [(0, _), (1, _), (4, _), (5, _)]) ⟨rfl, rfl, rfl, rfl, trivial⟩
  refine wp_seq_k fun K5 hK5 => ?_
  refine wp_region_lit ?_
  refine one fun C hC => val hE26 (R.move hE26 rfl) rfl fun a27 hE27 => hC _ _ ?_
  clear hC C
  clear hE26 a26
  refine one fun C hC => val hE27 (R.move hE27 rfl) rfl fun a28 hE28 => hC _ _ ?_
  clear hC C
  clear hE27 a27
  refine one fun C hC => lit1 hE28 hM4 4 el_50 rfl rfl rfl  fun b31 a29 w5 hE29 hM5 => hC _ _ ?_
  clear hC C hE28 hM4 a28
  refine one fun C hC => callM hE29 (say_lit b ({ S.read with pos := S.read.pos - 1 }.fault 9) r _ (hO3.le (by omega))) cb_16 rfl ((hM5.cast (show _ = (star (mach V b ({ S.read with pos := S.read.pos - 1 }.fault 9)) (star (pts b31 21 [.int .i32 r]) F0)) from by ac_rfl)).cast (star_assoc _ _ _).symm) rfl fun  a30 w6 hE30 hM6 => hC _ _ ?_
  clear hC C hE29 hM5 a29
  have hO4 := hO3.say (l := [r]) (d := 1) (by (try simp only [List.length_cons, List.length_nil]); omega)
  have hp4 := hO4.p
  have hn4 := hO4.n
  refine wpList_nil (hK5 _ _ ?_)
  clear hK5 K5
  replace hE30 := hE30.keep (E' := [(0, _), (1, _), (4, _), (5, _)]) ⟨rfl, rfl, rfl, rfl, trivial⟩
  refine wp_region_lit ?_
  refine one fun C hC => val hE30 (R.move hE30 rfl) rfl fun a31 hE31 => hC _ _ ?_
  clear hC C
  clear hE30 a30
  refine one fun C hC => val hE31 (R.move hE31 rfl) rfl fun a32 hE32 => hC _ _ ?_
  clear hC C
  clear hE31 a31
  refine one fun C hC => callM hE32 (again_c b (({ S.read with pos := S.read.pos - 1 }.fault 9).say [r]) _ (by show S.read.pos - 1 < S.read.inp.length; omega) (hO4.le (by omega))) cb_38 rfl hM6 rfl fun  a33 w7 hE33 hM7 => hC _ _ ?_
  clear hC C hE32 hM6 a32
  replace hE33 := hE33.keep (E' := [(0, _), (1, _), (4, _), (5, _)]) ⟨rfl, rfl, rfl, rfl, trivial⟩
  refine wpList_nil (hN _ _ ?_)
  refine back0 hE33 rfl (Mem.done rfl ?_)
  have hm := hM7
  exact hm

end Go.Sv
