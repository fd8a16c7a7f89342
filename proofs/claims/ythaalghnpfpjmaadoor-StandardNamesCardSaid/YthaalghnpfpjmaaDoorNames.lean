import Derived.Test.YthaalghnpfpjmaaDoorProg
import Derived.Test.YthaalghnpfpjmaaDoorMach
import Derived.Test.YthaalghnpfpjmaaDoorDraw
set_option linter.all false
set_option linter.unusedVariables false
set_option linter.unusedSimpArgs false
set_option maxRecDepth 100000
namespace Go.Sv
open Go.RowKit Go.Proofs
attribute [local irreducible] row pts star blk emp fact any attrsOf machAt tagAt

namespace FNames
theorem cb_22 : callB Tryd.prog 22 = true := by kernel_rfl
theorem cb_37 : callB Tryd.prog 37 = true := by kernel_rfl
theorem cb_50 : callB Tryd.prog 50 = true := by kernel_rfl
end FNames
open FNames
def upperB (r : Int) : Bool := decide (65 ≤ r) && decide (r ≤ 90)
def letterB (r : Int) : Bool := upperB r || (decide (97 ≤ r) && decide (r ≤ 122))
def digitB (r : Int) : Bool := decide (48 ≤ r) && decide (r ≤ 57)
def wordB (r : Int) : Bool := letterB r || digitB r
def blankB (r : Int) : Bool := decide (r = 9) || decide (r = 10) || decide (r = 12) || decide (r = 32)
def lowerR (r : Int) : Int := if upperB r then r + 32 else r
def noncharB (r : Int) : Bool := (decide (64976 ≤ r) && decide (r ≤ 65007)) || (decide (0 ≤ r) && decide (bits .and .i32 r 65534 = 65534))
def controlB (r : Int) : Bool := (decide (1 ≤ r) && decide (r ≤ 31) && !decide (r = 9) && !decide (r = 10) && !decide (r = 12)) || (decide (127 ≤ r) && decide (r ≤ 159))

set_option maxHeartbeats 400000 in
theorem upper_c (r : Int) : Fn Tryd.prog 37 [.int .i32 r] (.bool (upperB r)) := by
  intro β w0 F0 hM0
  replace hM0 := hM0.ofEmp
  refine enter Tryd.func37 (by rfl) 9 rfl rfl fun a0 Q hE0 hQ hN hP => ?_
  refine wp_seq_k fun K0 hK0 => ?_
  refine wp_region_lit ?_
  refine one fun C hC => val hE0 (R.assign hE0 rfl) rfl fun a1 hE1 => hC _ _ ?_
  clear hC C
  clear hE0 a0
  refine wpList_nil (hK0 _ _ ?_)
  clear hK0 K0
  replace hE1 := hE1.keep (E' := [(0, _), (2, _)]) ⟨rfl, rfl, trivial⟩
  refine wp_seq_k fun K1 hK1 => ?_
  refine wp_region_lit ?_
  refine one fun C hC => val hE1 (R.move hE1 rfl) rfl fun a2 hE2 => hC _ _ ?_
  clear hC C
  clear hE1 a1
  refine one fun C hC => val hE2 (R.geq hE2 rfl rfl) rfl fun a3 hE3 => hC _ _ ?_
  clear hC C
  clear hE2 a2
  refine one fun C hC => val hE3 (R.move hE3 rfl) rfl fun a4 hE4 => hC _ _ ?_
  clear hC C
  clear hE3 a3
  refine splitE hE4 (x := .tmp 5) rfl ?_ ?_
  · intro hb1
    have ht1 := hb1
    try simp only [decide_eq_true_eq, decide_eq_false_iff_not, Bool.not_eq_true', Bool.not_eq_false', beq_iff_eq, Bool.and_eq_true, Bool.or_eq_true] at ht1
    refine oneOn hE4 rfl rfl hb1 fun C hC => val hE4 (R.move hE4 rfl) rfl fun a5 hE5 => hC _ _ ?_
    clear hC C
    clear hE4 a4
    refine oneOn hE5 rfl rfl hb1 fun C hC => val hE5 (R.leq hE5 rfl rfl) rfl fun a6 hE6 => hC _ _ ?_
    clear hC C
    clear hE5 a5
    refine one fun C hC => val hE6 (R.pickT hE6 rfl hb1 rfl) rfl fun a7 hE7 => hC _ _ ?_
    clear hC C
    clear hE6 a6
    refine one fun C hC => val hE7 (R.assign hE7 rfl) rfl fun a8 hE8 => hC _ _ ?_
    clear hC C
    clear hE7 a7
    refine wpList_nil (hK1 _ _ ?_)
    clear hK1 K1
    replace hE8 := hE8.keep (E' := [(0, _), (2, _)]) ⟨rfl, rfl, trivial⟩
    refine wp_ret (hQ _ _ ?_)
    refine back1 hE8 rfl rfl (Mem.mkFact ?_ hM0)
    first | rfl | (simp [upperB, ht1]; done) | (simp [upperB, ht1]; omega)
  · intro hb1
    have ht1 := hb1
    try simp only [decide_eq_true_eq, decide_eq_false_iff_not, Bool.not_eq_true', Bool.not_eq_false', beq_iff_eq, Bool.and_eq_true, Bool.or_eq_true] at ht1
    refine oneOff hE4 rfl rfl hb1 rfl fun a5 hE5 => ?_
    clear hE4 a4
    refine oneOff hE5 rfl rfl hb1 rfl fun a6 hE6 => ?_
    clear hE5 a5
    refine one fun C hC => val hE6 (R.pickF hE6 rfl hb1 rfl) rfl fun a7 hE7 => hC _ _ ?_
    clear hC C
    clear hE6 a6
    refine one fun C hC => val hE7 (R.assign hE7 rfl) rfl fun a8 hE8 => hC _ _ ?_
    clear hC C
    clear hE7 a7
    refine wpList_nil (hK1 _ _ ?_)
    clear hK1 K1
    replace hE8 := hE8.keep (E' := [(0, _), (2, _)]) ⟨rfl, rfl, trivial⟩
    refine wp_ret (hQ _ _ ?_)
    refine back1 hE8 rfl rfl (Mem.mkFact ?_ hM0)
    first | rfl | (simp [upperB, ht1]; done) | (simp [upperB, ht1]; omega)

set_option maxHeartbeats 400000 in
theorem letter_c (r : Int) : Fn Tryd.prog 22 [.int .i32 r] (.bool (letterB r)) := by
  intro β w0 F0 hM0
  replace hM0 := hM0.ofEmp
  refine enter Tryd.func22 (by rfl) 13 rfl rfl fun a0 Q hE0 hQ hN hP => ?_
  refine wp_seq_k fun K0 hK0 => ?_
  refine wp_region_lit ?_
  refine one fun C hC => val hE0 (R.assign hE0 rfl) rfl fun a1 hE1 => hC _ _ ?_
  clear hC C
  clear hE0 a0
  refine wpList_nil (hK0 _ _ ?_)
  clear hK0 K0
  replace hE1 := hE1.keep (E' := [(0, _), (2, _)]) ⟨rfl, rfl, trivial⟩
  refine wp_seq_k fun K1 hK1 => ?_
  refine wp_region_lit ?_
  refine one fun C hC => val hE1 (R.move hE1 rfl) rfl fun a2 hE2 => hC _ _ ?_
  clear hC C
  clear hE1 a1
  refine one fun C hC => callF hE2 (upper_c _) cb_37 rfl hM0 rfl  fun  a3 w1 hE3 hM1 => hC _ _ ?_
  clear hC C hE2 hM0 a2
  refine one fun C hC => val hE3 (R.move hE3 rfl) rfl fun a4 hE4 => hC _ _ ?_
  clear hC C
  clear hE3 a3
  refine splitE hE4 (x := .tmp 5) rfl ?_ ?_
  · intro hb1
    have ht1 := hb1
    try simp only [decide_eq_true_eq, decide_eq_false_iff_not, Bool.not_eq_true', Bool.not_eq_false', beq_iff_eq, Bool.and_eq_true, Bool.or_eq_true] at ht1
    refine oneOff hE4 rfl rfl hb1 rfl fun a5 hE5 => ?_
    clear hE4 a4
    refine oneOff hE5 rfl rfl hb1 rfl fun a6 hE6 => ?_
    clear hE5 a5
    refine oneOff hE6 rfl rfl hb1 rfl fun a7 hE7 => ?_
    clear hE6 a6
    refine oneOffU hE7 rfl rfl rfl fun a8 hE8 => ?_
    clear hE7 a7
    refine oneOffU hE8 rfl rfl rfl fun a9 hE9 => ?_
    clear hE8 a8
    refine oneOff hE9 rfl rfl hb1 rfl fun a10 hE10 => ?_
    clear hE9 a9
    refine one fun C hC => val hE10 (R.pickT hE10 rfl hb1 rfl) rfl fun a11 hE11 => hC _ _ ?_
    clear hC C
    clear hE10 a10
    refine one fun C hC => val hE11 (R.assign hE11 rfl) rfl fun a12 hE12 => hC _ _ ?_
    clear hC C
    clear hE11 a11
    refine wpList_nil (hK1 _ _ ?_)
    clear hK1 K1
    replace hE12 := hE12.keep (E' := [(0, _), (2, _)]) ⟨rfl, rfl, trivial⟩
    refine wp_ret (hQ _ _ ?_)
    refine back1 hE12 rfl rfl (Mem.mkFact ?_ hM1)
    first | rfl | (simp [letterB, ht1]; done) | (simp [letterB, ht1]; omega)
  · intro hb1
    have ht1 := hb1
    try simp only [decide_eq_true_eq, decide_eq_false_iff_not, Bool.not_eq_true', Bool.not_eq_false', beq_iff_eq, Bool.and_eq_true, Bool.or_eq_true] at ht1
    refine oneOn hE4 rfl rfl hb1 fun C hC => val hE4 (R.move hE4 rfl) rfl fun a5 hE5 => hC _ _ ?_
    clear hC C
    clear hE4 a4
    refine oneOn hE5 rfl rfl hb1 fun C hC => val hE5 (R.geq hE5 rfl rfl) rfl fun a6 hE6 => hC _ _ ?_
    clear hC C
    clear hE5 a5
    refine oneOn hE6 rfl rfl hb1 fun C hC => val hE6 (R.move hE6 rfl) rfl fun a7 hE7 => hC _ _ ?_
    clear hC C
    clear hE6 a6
    refine splitE hE7 (x := .tmp 8) rfl ?_ ?_
    · intro hb2
      have ht2 := hb2
      try simp only [decide_eq_true_eq, decide_eq_false_iff_not, Bool.not_eq_true', Bool.not_eq_false', beq_iff_eq, Bool.and_eq_true, Bool.or_eq_true] at ht2
      refine oneOn hE7 rfl rfl hb2 fun C hC => val hE7 (R.move hE7 rfl) rfl fun a8 hE8 => hC _ _ ?_
      clear hC C
      clear hE7 a7
      refine oneOn hE8 rfl rfl hb2 fun C hC => val hE8 (R.leq hE8 rfl rfl) rfl fun a9 hE9 => hC _ _ ?_
      clear hC C
      clear hE8 a8
      refine oneOn hE9 rfl rfl hb1 fun C hC => val hE9 (R.pickT hE9 rfl hb2 rfl) rfl fun a10 hE10 => hC _ _ ?_
      clear hC C
      clear hE9 a9
      refine one fun C hC => val hE10 (R.pickF hE10 rfl hb1 rfl) rfl fun a11 hE11 => hC _ _ ?_
      clear hC C
      clear hE10 a10
      refine one fun C hC => val hE11 (R.assign hE11 rfl) rfl fun a12 hE12 => hC _ _ ?_
      clear hC C
      clear hE11 a11
      refine wpList_nil (hK1 _ _ ?_)
      clear hK1 K1
      replace hE12 := hE12.keep (E' := [(0, _), (2, _)]) ⟨rfl, rfl, trivial⟩
      refine wp_ret (hQ _ _ ?_)
      refine back1 hE12 rfl rfl (Mem.mkFact ?_ hM1)
      first | rfl | (simp [letterB, ht1, ht2]; done) | (simp [letterB, ht1, ht2]; omega)
    · intro hb2
      have ht2 := hb2
      try simp only [decide_eq_true_eq, decide_eq_false_iff_not, Bool.not_eq_true', Bool.not_eq_false', beq_iff_eq, Bool.and_eq_true, Bool.or_eq_true] at ht2
      refine oneOff hE7 rfl rfl hb2 rfl fun a8 hE8 => ?_
      clear hE7 a7
      refine oneOff hE8 rfl rfl hb2 rfl fun a9 hE9 => ?_
      clear hE8 a8
      refine oneOn hE9 rfl rfl hb1 fun C hC => val hE9 (R.pickF hE9 rfl hb2 rfl) rfl fun a10 hE10 => hC _ _ ?_
      clear hC C
      clear hE9 a9
      refine one fun C hC => val hE10 (R.pickF hE10 rfl hb1 rfl) rfl fun a11 hE11 => hC _ _ ?_
      clear hC C
      clear hE10 a10
      refine one fun C hC => val hE11 (R.assign hE11 rfl) rfl fun a12 hE12 => hC _ _ ?_
      clear hC C
      clear hE11 a11
      refine wpList_nil (hK1 _ _ ?_)
      clear hK1 K1
      replace hE12 := hE12.keep (E' := [(0, _), (2, _)]) ⟨rfl, rfl, trivial⟩
      refine wp_ret (hQ _ _ ?_)
      refine back1 hE12 rfl rfl (Mem.mkFact ?_ hM1)
      first | rfl | (simp [letterB, ht1, ht2]; done) | (simp [letterB, ht1, ht2]; omega)

set_option maxHeartbeats 400000 in
theorem digit_c (r : Int) : Fn Tryd.prog 50 [.int .i32 r] (.bool (digitB r)) := by
  intro β w0 F0 hM0
  replace hM0 := hM0.ofEmp
  refine enter Tryd.func50 (by rfl) 9 rfl rfl fun a0 Q hE0 hQ hN hP => ?_
  refine wp_seq_k fun K0 hK0 => ?_
  refine wp_region_lit ?_
  refine one fun C hC => val hE0 (R.assign hE0 rfl) rfl fun a1 hE1 => hC _ _ ?_
  clear hC C
  clear hE0 a0
  refine wpList_nil (hK0 _ _ ?_)
  clear hK0 K0
  replace hE1 := hE1.keep (E' := [(0, _), (2, _)]) ⟨rfl, rfl, trivial⟩
  refine wp_seq_k fun K1 hK1 => ?_
  refine wp_region_lit ?_
  refine one fun C hC => val hE1 (R.move hE1 rfl) rfl fun a2 hE2 => hC _ _ ?_
  clear hC C
  clear hE1 a1
  refine one fun C hC => val hE2 (R.geq hE2 rfl rfl) rfl fun a3 hE3 => hC _ _ ?_
  clear hC C
  clear hE2 a2
  refine one fun C hC => val hE3 (R.move hE3 rfl) rfl fun a4 hE4 => hC _ _ ?_
  clear hC C
  clear hE3 a3
  refine splitE hE4 (x := .tmp 5) rfl ?_ ?_
  · intro hb1
    have ht1 := hb1
    try simp only [decide_eq_true_eq, decide_eq_false_iff_not, Bool.not_eq_true', Bool.not_eq_false', beq_iff_eq, Bool.and_eq_true, Bool.or_eq_true] at ht1
    refine oneOn hE4 rfl rfl hb1 fun C hC => val hE4 (R.move hE4 rfl) rfl fun a5 hE5 => hC _ _ ?_
    clear hC C
    clear hE4 a4
    refine oneOn hE5 rfl rfl hb1 fun C hC => val hE5 (R.leq hE5 rfl rfl) rfl fun a6 hE6 => hC _ _ ?_
    clear hC C
    clear hE5 a5
    refine one fun C hC => val hE6 (R.pickT hE6 rfl hb1 rfl) rfl fun a7 hE7 => hC _ _ ?_
    clear hC C
    clear hE6 a6
    refine one fun C hC => val hE7 (R.assign hE7 rfl) rfl fun a8 hE8 => hC _ _ ?_
    clear hC C
    clear hE7 a7
    refine wpList_nil (hK1 _ _ ?_)
    clear hK1 K1
    replace hE8 := hE8.keep (E' := [(0, _), (2, _)]) ⟨rfl, rfl, trivial⟩
    refine wp_ret (hQ _ _ ?_)
    refine back1 hE8 rfl rfl (Mem.mkFact ?_ hM0)
    first | rfl | (simp [digitB, ht1]; done) | (simp [digitB, ht1]; omega)
  · intro hb1
    have ht1 := hb1
    try simp only [decide_eq_true_eq, decide_eq_false_iff_not, Bool.not_eq_true', Bool.not_eq_false', beq_iff_eq, Bool.and_eq_true, Bool.or_eq_true] at ht1
    refine oneOff hE4 rfl rfl hb1 rfl fun a5 hE5 => ?_
    clear hE4 a4
    refine oneOff hE5 rfl rfl hb1 rfl fun a6 hE6 => ?_
    clear hE5 a5
    refine one fun C hC => val hE6 (R.pickF hE6 rfl hb1 rfl) rfl fun a7 hE7 => hC _ _ ?_
    clear hC C
    clear hE6 a6
    refine one fun C hC => val hE7 (R.assign hE7 rfl) rfl fun a8 hE8 => hC _ _ ?_
    clear hC C
    clear hE7 a7
    refine wpList_nil (hK1 _ _ ?_)
    clear hK1 K1
    replace hE8 := hE8.keep (E' := [(0, _), (2, _)]) ⟨rfl, rfl, trivial⟩
    refine wp_ret (hQ _ _ ?_)
    refine back1 hE8 rfl rfl (Mem.mkFact ?_ hM0)
    first | rfl | (simp [digitB, ht1]; done) | (simp [digitB, ht1]; omega)

set_option maxHeartbeats 400000 in
theorem word_c (r : Int) : Fn Tryd.prog 31 [.int .i32 r] (.bool (wordB r)) := by
  intro β w0 F0 hM0
  replace hM0 := hM0.ofEmp
  refine enter Tryd.func31 (by rfl) 9 rfl rfl fun a0 Q hE0 hQ hN hP => ?_
  refine wp_seq_k fun K0 hK0 => ?_
  refine wp_region_lit ?_
  refine one fun C hC => val hE0 (R.assign hE0 rfl) rfl fun a1 hE1 => hC _ _ ?_
  clear hC C
  clear hE0 a0
  refine wpList_nil (hK0 _ _ ?_)
  clear hK0 K0
  replace hE1 := hE1.keep (E' := [(0, _), (2, _)]) ⟨rfl, rfl, trivial⟩
  refine wp_seq_k fun K1 hK1 => ?_
  refine wp_region_lit ?_
  refine one fun C hC => val hE1 (R.move hE1 rfl) rfl fun a2 hE2 => hC _ _ ?_
  clear hC C
  clear hE1 a1
  refine one fun C hC => callF hE2 (letter_c _) cb_22 rfl hM0 rfl  fun  a3 w1 hE3 hM1 => hC _ _ ?_
  clear hC C hE2 hM0 a2
  refine one fun C hC => val hE3 (R.move hE3 rfl) rfl fun a4 hE4 => hC _ _ ?_
  clear hC C
  clear hE3 a3
  refine splitE hE4 (x := .tmp 5) rfl ?_ ?_
  · intro hb1
    have ht1 := hb1
    try simp only [decide_eq_true_eq, decide_eq_false_iff_not, Bool.not_eq_true', Bool.not_eq_false', beq_iff_eq, Bool.and_eq_true, Bool.or_eq_true] at ht1
    refine oneOff hE4 rfl rfl hb1 rfl fun a5 hE5 => ?_
    clear hE4 a4
    refine oneOff hE5 rfl rfl hb1 rfl fun a6 hE6 => ?_
    clear hE5 a5
    refine one fun C hC => val hE6 (R.pickT hE6 rfl hb1 rfl) rfl fun a7 hE7 => hC _ _ ?_
    clear hC C
    clear hE6 a6
    refine one fun C hC => val hE7 (R.assign hE7 rfl) rfl fun a8 hE8 => hC _ _ ?_
    clear hC C
    clear hE7 a7
    refine wpList_nil (hK1 _ _ ?_)
    clear hK1 K1
    replace hE8 := hE8.keep (E' := [(0, _), (2, _)]) ⟨rfl, rfl, trivial⟩
    refine wp_ret (hQ _ _ ?_)
    refine back1 hE8 rfl rfl (Mem.mkFact ?_ hM1)
    first | rfl | (simp [wordB, ht1]; done) | (simp [wordB, ht1]; omega)
  · intro hb1
    have ht1 := hb1
    try simp only [decide_eq_true_eq, decide_eq_false_iff_not, Bool.not_eq_true', Bool.not_eq_false', beq_iff_eq, Bool.and_eq_true, Bool.or_eq_true] at ht1
    refine oneOn hE4 rfl rfl hb1 fun C hC => val hE4 (R.move hE4 rfl) rfl fun a5 hE5 => hC _ _ ?_
    clear hC C
    clear hE4 a4
    refine oneOn hE5 rfl rfl hb1 fun C hC => callF hE5 (digit_c _) cb_50 rfl hM1 rfl  fun  a6 w2 hE6 hM2 => hC _ _ ?_
    clear hC C hE5 hM1 a5
    refine one fun C hC => val hE6 (R.pickF hE6 rfl hb1 rfl) rfl fun a7 hE7 => hC _ _ ?_
    clear hC C
    clear hE6 a6
    refine one fun C hC => val hE7 (R.assign hE7 rfl) rfl fun a8 hE8 => hC _ _ ?_
    clear hC C
    clear hE7 a7
    refine wpList_nil (hK1 _ _ ?_)
    clear hK1 K1
    replace hE8 := hE8.keep (E' := [(0, _), (2, _)]) ⟨rfl, rfl, trivial⟩
    refine wp_ret (hQ _ _ ?_)
    refine back1 hE8 rfl rfl (Mem.mkFact ?_ hM2)
    first | rfl | (simp [wordB, ht1]; done) | (simp [wordB, ht1]; omega)

set_option maxHeartbeats 400000 in
theorem blank_c (r : Int) : Fn Tryd.prog 36 [.int .i32 r] (.bool (blankB r)) := by
  intro β w0 F0 hM0
  replace hM0 := hM0.ofEmp
  refine enter Tryd.func36 (by rfl) 17 rfl rfl fun a0 Q hE0 hQ hN hP => ?_
  refine wp_seq_k fun K0 hK0 => ?_
  refine wp_region_lit ?_
  refine one fun C hC => val hE0 (R.assign hE0 rfl) rfl fun a1 hE1 => hC _ _ ?_
  clear hC C
  clear hE0 a0
  refine wpList_nil (hK0 _ _ ?_)
  clear hK0 K0
  replace hE1 := hE1.keep (E' := [(0, _), (2, _)]) ⟨rfl, rfl, trivial⟩
  refine wp_seq_k fun K1 hK1 => ?_
  refine wp_region_lit ?_
  refine one fun C hC => val hE1 (R.move hE1 rfl) rfl fun a2 hE2 => hC _ _ ?_
  clear hC C
  clear hE1 a1
  refine one fun C hC => val hE2 (R.eql hE2 rfl rfl) rfl fun a3 hE3 => hC _ _ ?_
  clear hC C
  clear hE2 a2
  refine one fun C hC => val hE3 (R.move hE3 rfl) rfl fun a4 hE4 => hC _ _ ?_
  clear hC C
  clear hE3 a3
  refine splitE hE4 (x := .tmp 5) rfl ?_ ?_
  · intro hb1
    have ht1 := hb1
    try simp only [decide_eq_true_eq, decide_eq_false_iff_not, Bool.not_eq_true', Bool.not_eq_false', beq_iff_eq, Bool.and_eq_true, Bool.or_eq_true] at ht1
    refine oneOff hE4 rfl rfl hb1 rfl fun a5 hE5 => ?_
    clear hE4 a4
    refine oneOff hE5 rfl rfl hb1 rfl fun a6 hE6 => ?_
    clear hE5 a5
    refine one fun C hC => val hE6 (R.pickT hE6 rfl hb1 rfl) rfl fun a7 hE7 => hC _ _ ?_
    clear hC C
    clear hE6 a6
    refine one fun C hC => val hE7 (R.move hE7 rfl) rfl fun a8 hE8 => hC _ _ ?_
    clear hC C
    clear hE7 a7
    refine oneOff hE8 rfl rfl rfl rfl fun a9 hE9 => ?_
    clear hE8 a8
    refine oneOff hE9 rfl rfl rfl rfl fun a10 hE10 => ?_
    clear hE9 a9
    refine one fun C hC => val hE10 (R.pickT hE10 rfl rfl rfl) rfl fun a11 hE11 => hC _ _ ?_
    clear hC C
    clear hE10 a10
    refine one fun C hC => val hE11 (R.move hE11 rfl) rfl fun a12 hE12 => hC _ _ ?_
    clear hC C
    clear hE11 a11
    refine oneOff hE12 rfl rfl rfl rfl fun a13 hE13 => ?_
    clear hE12 a12
    refine oneOff hE13 rfl rfl rfl rfl fun a14 hE14 => ?_
    clear hE13 a13
    refine one fun C hC => val hE14 (R.pickT hE14 rfl rfl rfl) rfl fun a15 hE15 => hC _ _ ?_
    clear hC C
    clear hE14 a14
    refine one fun C hC => val hE15 (R.assign hE15 rfl) rfl fun a16 hE16 => hC _ _ ?_
    clear hC C
    clear hE15 a15
    refine wpList_nil (hK1 _ _ ?_)
    clear hK1 K1
    replace hE16 := hE16.keep (E' := [(0, _), (2, _)]) ⟨rfl, rfl, trivial⟩
    refine wp_ret (hQ _ _ ?_)
    refine back1 hE16 rfl rfl (Mem.mkFact ?_ hM0)
    first | rfl | (simp [blankB, ht1]; done) | (simp [blankB, ht1]; omega)
  · intro hb1
    have ht1 := hb1
    try simp only [decide_eq_true_eq, decide_eq_false_iff_not, Bool.not_eq_true', Bool.not_eq_false', beq_iff_eq, Bool.and_eq_true, Bool.or_eq_true] at ht1
    refine oneOn hE4 rfl rfl hb1 fun C hC => val hE4 (R.move hE4 rfl) rfl fun a5 hE5 => hC _ _ ?_
    clear hC C
    clear hE4 a4
    refine oneOn hE5 rfl rfl hb1 fun C hC => val hE5 (R.eql hE5 rfl rfl) rfl fun a6 hE6 => hC _ _ ?_
    clear hC C
    clear hE5 a5
    refine one fun C hC => val hE6 (R.pickF hE6 rfl hb1 rfl) rfl fun a7 hE7 => hC _ _ ?_
    clear hC C
    clear hE6 a6
    refine one fun C hC => val hE7 (R.move hE7 rfl) rfl fun a8 hE8 => hC _ _ ?_
    clear hC C
    clear hE7 a7
    refine splitE hE8 (x := .tmp 9) rfl ?_ ?_
    · intro hb2
      have ht2 := hb2
      try simp only [decide_eq_true_eq, decide_eq_false_iff_not, Bool.not_eq_true', Bool.not_eq_false', beq_iff_eq, Bool.and_eq_true, Bool.or_eq_true] at ht2
      refine oneOff hE8 rfl rfl hb2 rfl fun a9 hE9 => ?_
      clear hE8 a8
      refine oneOff hE9 rfl rfl hb2 rfl fun a10 hE10 => ?_
      clear hE9 a9
      refine one fun C hC => val hE10 (R.pickT hE10 rfl hb2 rfl) rfl fun a11 hE11 => hC _ _ ?_
      clear hC C
      clear hE10 a10
      refine one fun C hC => val hE11 (R.move hE11 rfl) rfl fun a12 hE12 => hC _ _ ?_
      clear hC C
      clear hE11 a11
      refine oneOff hE12 rfl rfl rfl rfl fun a13 hE13 => ?_
      clear hE12 a12
      refine oneOff hE13 rfl rfl rfl rfl fun a14 hE14 => ?_
      clear hE13 a13
      refine one fun C hC => val hE14 (R.pickT hE14 rfl rfl rfl) rfl fun a15 hE15 => hC _ _ ?_
      clear hC C
      clear hE14 a14
      refine one fun C hC => val hE15 (R.assign hE15 rfl) rfl fun a16 hE16 => hC _ _ ?_
      clear hC C
      clear hE15 a15
      refine wpList_nil (hK1 _ _ ?_)
      clear hK1 K1
      replace hE16 := hE16.keep (E' := [(0, _), (2, _)]) ⟨rfl, rfl, trivial⟩
      refine wp_ret (hQ _ _ ?_)
      refine back1 hE16 rfl rfl (Mem.mkFact ?_ hM0)
      first | rfl | (simp [blankB, ht1, ht2]; done) | (simp [blankB, ht1, ht2]; omega)
    · intro hb2
      have ht2 := hb2
      try simp only [decide_eq_true_eq, decide_eq_false_iff_not, Bool.not_eq_true', Bool.not_eq_false', beq_iff_eq, Bool.and_eq_true, Bool.or_eq_true] at ht2
      refine oneOn hE8 rfl rfl hb2 fun C hC => val hE8 (R.move hE8 rfl) rfl fun a9 hE9 => hC _ _ ?_
      clear hC C
      clear hE8 a8
      refine oneOn hE9 rfl rfl hb2 fun C hC => val hE9 (R.eql hE9 rfl rfl) rfl fun a10 hE10 => hC _ _ ?_
      clear hC C
      clear hE9 a9
      refine one fun C hC => val hE10 (R.pickF hE10 rfl hb2 rfl) rfl fun a11 hE11 => hC _ _ ?_
      clear hC C
      clear hE10 a10
      refine one fun C hC => val hE11 (R.move hE11 rfl) rfl fun a12 hE12 => hC _ _ ?_
      clear hC C
      clear hE11 a11
      refine splitE hE12 (x := .tmp 13) rfl ?_ ?_
      · intro hb3
        have ht3 := hb3
        try simp only [decide_eq_true_eq, decide_eq_false_iff_not, Bool.not_eq_true', Bool.not_eq_false', beq_iff_eq, Bool.and_eq_true, Bool.or_eq_true] at ht3
        refine oneOff hE12 rfl rfl hb3 rfl fun a13 hE13 => ?_
        clear hE12 a12
        refine oneOff hE13 rfl rfl hb3 rfl fun a14 hE14 => ?_
        clear hE13 a13
        refine one fun C hC => val hE14 (R.pickT hE14 rfl hb3 rfl) rfl fun a15 hE15 => hC _ _ ?_
        clear hC C
        clear hE14 a14
        refine one fun C hC => val hE15 (R.assign hE15 rfl) rfl fun a16 hE16 => hC _ _ ?_
        clear hC C
        clear hE15 a15
        refine wpList_nil (hK1 _ _ ?_)
        clear hK1 K1
        replace hE16 := hE16.keep (E' := [(0, _), (2, _)]) ⟨rfl, rfl, trivial⟩
        refine wp_ret (hQ _ _ ?_)
        refine back1 hE16 rfl rfl (Mem.mkFact ?_ hM0)
        first | rfl | (simp [blankB, ht1, ht2, ht3]; done) | (simp [blankB, ht1, ht2, ht3]; omega)
      · intro hb3
        have ht3 := hb3
        try simp only [decide_eq_true_eq, decide_eq_false_iff_not, Bool.not_eq_true', Bool.not_eq_false', beq_iff_eq, Bool.and_eq_true, Bool.or_eq_true] at ht3
        refine oneOn hE12 rfl rfl hb3 fun C hC => val hE12 (R.move hE12 rfl) rfl fun a13 hE13 => hC _ _ ?_
        clear hC C
        clear hE12 a12
        refine oneOn hE13 rfl rfl hb3 fun C hC => val hE13 (R.eql hE13 rfl rfl) rfl fun a14 hE14 => hC _ _ ?_
        clear hC C
        clear hE13 a13
        refine one fun C hC => val hE14 (R.pickF hE14 rfl hb3 rfl) rfl fun a15 hE15 => hC _ _ ?_
        clear hC C
        clear hE14 a14
        refine one fun C hC => val hE15 (R.assign hE15 rfl) rfl fun a16 hE16 => hC _ _ ?_
        clear hC C
        clear hE15 a15
        refine wpList_nil (hK1 _ _ ?_)
        clear hK1 K1
        replace hE16 := hE16.keep (E' := [(0, _), (2, _)]) ⟨rfl, rfl, trivial⟩
        refine wp_ret (hQ _ _ ?_)
        refine back1 hE16 rfl rfl (Mem.mkFact ?_ hM0)
        first | rfl | (simp [blankB, ht1, ht2, ht3]; done) | (simp [blankB, ht1, ht2, ht3]; omega)

set_option maxHeartbeats 400000 in
theorem control_c (r : Int) : Fn Tryd.prog 28 [.int .i32 r] (.bool (controlB r)) := by
  intro β w0 F0 hM0
  replace hM0 := hM0.ofEmp
  refine enter Tryd.func28 (by rfl) 29 rfl rfl fun a0 Q hE0 hQ hN hP => ?_
  refine wp_seq_k fun K0 hK0 => ?_
  refine wp_region_lit ?_
  refine one fun C hC => val hE0 (R.assign hE0 rfl) rfl fun a1 hE1 => hC _ _ ?_
  clear hC C
  clear hE0 a0
  refine wpList_nil (hK0 _ _ ?_)
  clear hK0 K0
  replace hE1 := hE1.keep (E' := [(0, _), (2, _)]) ⟨rfl, rfl, trivial⟩
  refine wp_seq_k fun K1 hK1 => ?_
  refine wp_region_lit ?_
  refine one fun C hC => val hE1 (R.move hE1 rfl) rfl fun a2 hE2 => hC _ _ ?_
  clear hC C
  clear hE1 a1
  refine one fun C hC => val hE2 (R.geq hE2 rfl rfl) rfl fun a3 hE3 => hC _ _ ?_
  clear hC C
  clear hE2 a2
  refine one fun C hC => val hE3 (R.move hE3 rfl) rfl fun a4 hE4 => hC _ _ ?_
  clear hC C
  clear hE3 a3
  refine splitE hE4 (x := .tmp 5) rfl ?_ ?_
  · intro hb1
    have ht1 := hb1
    try simp only [decide_eq_true_eq, decide_eq_false_iff_not, Bool.not_eq_true', Bool.not_eq_false', beq_iff_eq, Bool.and_eq_true, Bool.or_eq_true] at ht1
    refine oneOn hE4 rfl rfl hb1 fun C hC => val hE4 (R.move hE4 rfl) rfl fun a5 hE5 => hC _ _ ?_
    clear hC C
    clear hE4 a4
    refine oneOn hE5 rfl rfl hb1 fun C hC => val hE5 (R.leq hE5 rfl rfl) rfl fun a6 hE6 => hC _ _ ?_
    clear hC C
    clear hE5 a5
    refine one fun C hC => val hE6 (R.pickT hE6 rfl hb1 rfl) rfl fun a7 hE7 => hC _ _ ?_
    clear hC C
    clear hE6 a6
    refine one fun C hC => val hE7 (R.move hE7 rfl) rfl fun a8 hE8 => hC _ _ ?_
    clear hC C
    clear hE7 a7
    refine splitE hE8 (x := .tmp 9) rfl ?_ ?_
    · intro hb2
      have ht2 := hb2
      try simp only [decide_eq_true_eq, decide_eq_false_iff_not, Bool.not_eq_true', Bool.not_eq_false', beq_iff_eq, Bool.and_eq_true, Bool.or_eq_true] at ht2
      refine oneOn hE8 rfl rfl hb2 fun C hC => val hE8 (R.move hE8 rfl) rfl fun a9 hE9 => hC _ _ ?_
      clear hC C
      clear hE8 a8
      refine oneOn hE9 rfl rfl hb2 fun C hC => val hE9 (R.neq hE9 rfl rfl) rfl fun a10 hE10 => hC _ _ ?_
      clear hC C
      clear hE9 a9
      refine one fun C hC => val hE10 (R.pickT hE10 rfl hb2 rfl) rfl fun a11 hE11 => hC _ _ ?_
      clear hC C
      clear hE10 a10
      refine one fun C hC => val hE11 (R.move hE11 rfl) rfl fun a12 hE12 => hC _ _ ?_
      clear hC C
      clear hE11 a11
      refine splitE hE12 (x := .tmp 13) rfl ?_ ?_
      · intro hb3
        have ht3 := hb3
        try simp only [decide_eq_true_eq, decide_eq_false_iff_not, Bool.not_eq_true', Bool.not_eq_false', beq_iff_eq, Bool.and_eq_true, Bool.or_eq_true] at ht3
        refine oneOn hE12 rfl rfl hb3 fun C hC => val hE12 (R.move hE12 rfl) rfl fun a13 hE13 => hC _ _ ?_
        clear hC C
        clear hE12 a12
        refine oneOn hE13 rfl rfl hb3 fun C hC => val hE13 (R.neq hE13 rfl rfl) rfl fun a14 hE14 => hC _ _ ?_
        clear hC C
        clear hE13 a13
        refine one fun C hC => val hE14 (R.pickT hE14 rfl hb3 rfl) rfl fun a15 hE15 => hC _ _ ?_
        clear hC C
        clear hE14 a14
        refine one fun C hC => val hE15 (R.move hE15 rfl) rfl fun a16 hE16 => hC _ _ ?_
        clear hC C
        clear hE15 a15
        refine splitE hE16 (x := .tmp 17) rfl ?_ ?_
        · intro hb4
          have ht4 := hb4
          try simp only [decide_eq_true_eq, decide_eq_false_iff_not, Bool.not_eq_true', Bool.not_eq_false', beq_iff_eq, Bool.and_eq_true, Bool.or_eq_true] at ht4
          refine oneOn hE16 rfl rfl hb4 fun C hC => val hE16 (R.move hE16 rfl) rfl fun a17 hE17 => hC _ _ ?_
          clear hC C
          clear hE16 a16
          refine oneOn hE17 rfl rfl hb4 fun C hC => val hE17 (R.neq hE17 rfl rfl) rfl fun a18 hE18 => hC _ _ ?_
          clear hC C
          clear hE17 a17
          refine one fun C hC => val hE18 (R.pickT hE18 rfl hb4 rfl) rfl fun a19 hE19 => hC _ _ ?_
          clear hC C
          clear hE18 a18
          refine one fun C hC => val hE19 (R.move hE19 rfl) rfl fun a20 hE20 => hC _ _ ?_
          clear hC C
          clear hE19 a19
          refine splitE hE20 (x := .tmp 21) rfl ?_ ?_
          · intro hb5
            have ht5 := hb5
            try simp only [decide_eq_true_eq, decide_eq_false_iff_not, Bool.not_eq_true', Bool.not_eq_false', beq_iff_eq, Bool.and_eq_true, Bool.or_eq_true] at ht5
            refine oneOff hE20 rfl rfl hb5 rfl fun a21 hE21 => ?_
            clear hE20 a20
            refine oneOff hE21 rfl rfl hb5 rfl fun a22 hE22 => ?_
            clear hE21 a21
            refine oneOff hE22 rfl rfl hb5 rfl fun a23 hE23 => ?_
            clear hE22 a22
            refine oneOffU hE23 rfl rfl rfl fun a24 hE24 => ?_
            clear hE23 a23
            refine oneOffU hE24 rfl rfl rfl fun a25 hE25 => ?_
            clear hE24 a24
            refine oneOff hE25 rfl rfl hb5 rfl fun a26 hE26 => ?_
            clear hE25 a25
            refine one fun C hC => val hE26 (R.pickT hE26 rfl hb5 rfl) rfl fun a27 hE27 => hC _ _ ?_
            clear hC C
            clear hE26 a26
            refine one fun C hC => val hE27 (R.assign hE27 rfl) rfl fun a28 hE28 => hC _ _ ?_
            clear hC C
            clear hE27 a27
            refine wpList_nil (hK1 _ _ ?_)
            clear hK1 K1
            replace hE28 := hE28.keep (E' := [(0, _), (2, _)]) ⟨rfl, rfl, trivial⟩
            refine wp_ret (hQ _ _ ?_)
            refine back1 hE28 rfl rfl (Mem.mkFact ?_ hM0)
            first | rfl | (simp [controlB, ht1, ht2, ht3, ht4, ht5]; done) | (simp [controlB, ht1, ht2, ht3, ht4, ht5]; omega)
          · intro hb5
            have ht5 := hb5
            try simp only [decide_eq_true_eq, decide_eq_false_iff_not, Bool.not_eq_true', Bool.not_eq_false', beq_iff_eq, Bool.and_eq_true, Bool.or_eq_true] at ht5
            refine oneOn hE20 rfl rfl hb5 fun C hC => val hE20 (R.move hE20 rfl) rfl fun a21 hE21 => hC _ _ ?_
            clear hC C
            clear hE20 a20
            refine oneOn hE21 rfl rfl hb5 fun C hC => val hE21 (R.geq hE21 rfl rfl) rfl fun a22 hE22 => hC _ _ ?_
            clear hC C
            clear hE21 a21
            refine oneOn hE22 rfl rfl hb5 fun C hC => val hE22 (R.move hE22 rfl) rfl fun a23 hE23 => hC _ _ ?_
            clear hC C
            clear hE22 a22
            refine splitE hE23 (x := .tmp 24) rfl ?_ ?_
            · intro hb6
              have ht6 := hb6
              try simp only [decide_eq_true_eq, decide_eq_false_iff_not, Bool.not_eq_true', Bool.not_eq_false', beq_iff_eq, Bool.and_eq_true, Bool.or_eq_true] at ht6
              refine oneOn hE23 rfl rfl hb6 fun C hC => val hE23 (R.move hE23 rfl) rfl fun a24 hE24 => hC _ _ ?_
              clear hC C
              clear hE23 a23
              refine oneOn hE24 rfl rfl hb6 fun C hC => val hE24 (R.leq hE24 rfl rfl) rfl fun a25 hE25 => hC _ _ ?_
              clear hC C
              clear hE24 a24
              refine oneOn hE25 rfl rfl hb5 fun C hC => val hE25 (R.pickT hE25 rfl hb6 rfl) rfl fun a26 hE26 => hC _ _ ?_
              clear hC C
              clear hE25 a25
              refine one fun C hC => val hE26 (R.pickF hE26 rfl hb5 rfl) rfl fun a27 hE27 => hC _ _ ?_
              clear hC C
              clear hE26 a26
              refine one fun C hC => val hE27 (R.assign hE27 rfl) rfl fun a28 hE28 => hC _ _ ?_
              clear hC C
              clear hE27 a27
              refine wpList_nil (hK1 _ _ ?_)
              clear hK1 K1
              replace hE28 := hE28.keep (E' := [(0, _), (2, _)]) ⟨rfl, rfl, trivial⟩
              refine wp_ret (hQ _ _ ?_)
              refine back1 hE28 rfl rfl (Mem.mkFact ?_ hM0)
              first | rfl | (simp [controlB, ht1, ht2, ht3, ht4, ht5, ht6]; done) | (simp [controlB, ht1, ht2, ht3, ht4, ht5, ht6]; omega)
            · intro hb6
              have ht6 := hb6
              try simp only [decide_eq_true_eq, decide_eq_false_iff_not, Bool.not_eq_true', Bool.not_eq_false', beq_iff_eq, Bool.and_eq_true, Bool.or_eq_true] at ht6
              refine oneOff hE23 rfl rfl hb6 rfl fun a24 hE24 => ?_
              clear hE23 a23
              refine oneOff hE24 rfl rfl hb6 rfl fun a25 hE25 => ?_
              clear hE24 a24
              refine oneOn hE25 rfl rfl hb5 fun C hC => val hE25 (R.pickF hE25 rfl hb6 rfl) rfl fun a26 hE26 => hC _ _ ?_
              clear hC C
              clear hE25 a25
              refine one fun C hC => val hE26 (R.pickF hE26 rfl hb5 rfl) rfl fun a27 hE27 => hC _ _ ?_
              clear hC C
              clear hE26 a26
              refine one fun C hC => val hE27 (R.assign hE27 rfl) rfl fun a28 hE28 => hC _ _ ?_
              clear hC C
              clear hE27 a27
              refine wpList_nil (hK1 _ _ ?_)
              clear hK1 K1
              replace hE28 := hE28.keep (E' := [(0, _), (2, _)]) ⟨rfl, rfl, trivial⟩
              refine wp_ret (hQ _ _ ?_)
              refine back1 hE28 rfl rfl (Mem.mkFact ?_ hM0)
              first | rfl | (simp [controlB, ht1, ht2, ht3, ht4, ht5, ht6]; done) | (simp [controlB, ht1, ht2, ht3, ht4, ht5, ht6]; omega)
        · intro hb4
          have ht4 := hb4
          try simp only [decide_eq_true_eq, decide_eq_false_iff_not, Bool.not_eq_true', Bool.not_eq_false', beq_iff_eq, Bool.and_eq_true, Bool.or_eq_true] at ht4
          refine oneOff hE16 rfl rfl hb4 rfl fun a17 hE17 => ?_
          clear hE16 a16
          refine oneOff hE17 rfl rfl hb4 rfl fun a18 hE18 => ?_
          clear hE17 a17
          refine one fun C hC => val hE18 (R.pickF hE18 rfl hb4 rfl) rfl fun a19 hE19 => hC _ _ ?_
          clear hC C
          clear hE18 a18
          refine one fun C hC => val hE19 (R.move hE19 rfl) rfl fun a20 hE20 => hC _ _ ?_
          clear hC C
          clear hE19 a19
          refine oneOn hE20 rfl rfl rfl fun C hC => val hE20 (R.move hE20 rfl) rfl fun a21 hE21 => hC _ _ ?_
          clear hC C
          clear hE20 a20
          refine oneOn hE21 rfl rfl rfl fun C hC => val hE21 (R.geq hE21 rfl rfl) rfl fun a22 hE22 => hC _ _ ?_
          clear hC C
          clear hE21 a21
          refine oneOn hE22 rfl rfl rfl fun C hC => val hE22 (R.move hE22 rfl) rfl fun a23 hE23 => hC _ _ ?_
          clear hC C
          clear hE22 a22
          refine splitE hE23 (x := .tmp 24) rfl ?_ ?_
          · intro hb5
            have ht5 := hb5
            try simp only [decide_eq_true_eq, decide_eq_false_iff_not, Bool.not_eq_true', Bool.not_eq_false', beq_iff_eq, Bool.and_eq_true, Bool.or_eq_true] at ht5
            refine oneOn hE23 rfl rfl hb5 fun C hC => val hE23 (R.move hE23 rfl) rfl fun a24 hE24 => hC _ _ ?_
            clear hC C
            clear hE23 a23
            refine oneOn hE24 rfl rfl hb5 fun C hC => val hE24 (R.leq hE24 rfl rfl) rfl fun a25 hE25 => hC _ _ ?_
            clear hC C
            clear hE24 a24
            refine oneOn hE25 rfl rfl rfl fun C hC => val hE25 (R.pickT hE25 rfl hb5 rfl) rfl fun a26 hE26 => hC _ _ ?_
            clear hC C
            clear hE25 a25
            refine one fun C hC => val hE26 (R.pickF hE26 rfl rfl rfl) rfl fun a27 hE27 => hC _ _ ?_
            clear hC C
            clear hE26 a26
            refine one fun C hC => val hE27 (R.assign hE27 rfl) rfl fun a28 hE28 => hC _ _ ?_
            clear hC C
            clear hE27 a27
            refine wpList_nil (hK1 _ _ ?_)
            clear hK1 K1
            replace hE28 := hE28.keep (E' := [(0, _), (2, _)]) ⟨rfl, rfl, trivial⟩
            refine wp_ret (hQ _ _ ?_)
            refine back1 hE28 rfl rfl (Mem.mkFact ?_ hM0)
            first | rfl | (simp [controlB, ht1, ht2, ht3, ht4, ht5]; done) | (simp [controlB, ht1, ht2, ht3, ht4, ht5]; omega)
          · intro hb5
            have ht5 := hb5
            try simp only [decide_eq_true_eq, decide_eq_false_iff_not, Bool.not_eq_true', Bool.not_eq_false', beq_iff_eq, Bool.and_eq_true, Bool.or_eq_true] at ht5
            refine oneOff hE23 rfl rfl hb5 rfl fun a24 hE24 => ?_
            clear hE23 a23
            refine oneOff hE24 rfl rfl hb5 rfl fun a25 hE25 => ?_
            clear hE24 a24
            refine oneOn hE25 rfl rfl rfl fun C hC => val hE25 (R.pickF hE25 rfl hb5 rfl) rfl fun a26 hE26 => hC _ _ ?_
            clear hC C
            clear hE25 a25
            refine one fun C hC => val hE26 (R.pickF hE26 rfl rfl rfl) rfl fun a27 hE27 => hC _ _ ?_
            clear hC C
            clear hE26 a26
            refine one fun C hC => val hE27 (R.assign hE27 rfl) rfl fun a28 hE28 => hC _ _ ?_
            clear hC C
            clear hE27 a27
            refine wpList_nil (hK1 _ _ ?_)
            clear hK1 K1
            replace hE28 := hE28.keep (E' := [(0, _), (2, _)]) ⟨rfl, rfl, trivial⟩
            refine wp_ret (hQ _ _ ?_)
            refine back1 hE28 rfl rfl (Mem.mkFact ?_ hM0)
            first | rfl | (simp [controlB, ht1, ht2, ht3, ht4, ht5]; done) | (simp [controlB, ht1, ht2, ht3, ht4, ht5]; omega)
      · intro hb3
        have ht3 := hb3
        try simp only [decide_eq_true_eq, decide_eq_false_iff_not, Bool.not_eq_true', Bool.not_eq_false', beq_iff_eq, Bool.and_eq_true, Bool.or_eq_true] at ht3
        refine oneOff hE12 rfl rfl hb3 rfl fun a13 hE13 => ?_
        clear hE12 a12
        refine oneOff hE13 rfl rfl hb3 rfl fun a14 hE14 => ?_
        clear hE13 a13
        refine one fun C hC => val hE14 (R.pickF hE14 rfl hb3 rfl) rfl fun a15 hE15 => hC _ _ ?_
        clear hC C
        clear hE14 a14
        refine one fun C hC => val hE15 (R.move hE15 rfl) rfl fun a16 hE16 => hC _ _ ?_
        clear hC C
        clear hE15 a15
        refine oneOff hE16 rfl rfl rfl rfl fun a17 hE17 => ?_
        clear hE16 a16
        refine oneOff hE17 rfl rfl rfl rfl fun a18 hE18 => ?_
        clear hE17 a17
        refine one fun C hC => val hE18 (R.pickF hE18 rfl rfl rfl) rfl fun a19 hE19 => hC _ _ ?_
        clear hC C
        clear hE18 a18
        refine one fun C hC => val hE19 (R.move hE19 rfl) rfl fun a20 hE20 => hC _ _ ?_
        clear hC C
        clear hE19 a19
        refine oneOn hE20 rfl rfl rfl fun C hC => val hE20 (R.move hE20 rfl) rfl fun a21 hE21 => hC _ _ ?_
        clear hC C
        clear hE20 a20
        refine oneOn hE21 rfl rfl rfl fun C hC => val hE21 (R.geq hE21 rfl rfl) rfl fun a22 hE22 => hC _ _ ?_
        clear hC C
        clear hE21 a21
        refine oneOn hE22 rfl rfl rfl fun C hC => val hE22 (R.move hE22 rfl) rfl fun a23 hE23 => hC _ _ ?_
        clear hC C
        clear hE22 a22
        refine splitE hE23 (x := .tmp 24) rfl ?_ ?_
        · intro hb4
          have ht4 := hb4
          try simp only [decide_eq_true_eq, decide_eq_false_iff_not, Bool.not_eq_true', Bool.not_eq_false', beq_iff_eq, Bool.and_eq_true, Bool.or_eq_true] at ht4
          refine oneOn hE23 rfl rfl hb4 fun C hC => val hE23 (R.move hE23 rfl) rfl fun a24 hE24 => hC _ _ ?_
          clear hC C
          clear hE23 a23
          refine oneOn hE24 rfl rfl hb4 fun C hC => val hE24 (R.leq hE24 rfl rfl) rfl fun a25 hE25 => hC _ _ ?_
          clear hC C
          clear hE24 a24
          refine oneOn hE25 rfl rfl rfl fun C hC => val hE25 (R.pickT hE25 rfl hb4 rfl) rfl fun a26 hE26 => hC _ _ ?_
          clear hC C
          clear hE25 a25
          refine one fun C hC => val hE26 (R.pickF hE26 rfl rfl rfl) rfl fun a27 hE27 => hC _ _ ?_
          clear hC C
          clear hE26 a26
          refine one fun C hC => val hE27 (R.assign hE27 rfl) rfl fun a28 hE28 => hC _ _ ?_
          clear hC C
          clear hE27 a27
          refine wpList_nil (hK1 _ _ ?_)
          clear hK1 K1
          replace hE28 := hE28.keep (E' := [(0, _), (2, _)]) ⟨rfl, rfl, trivial⟩
          refine wp_ret (hQ _ _ ?_)
          refine back1 hE28 rfl rfl (Mem.mkFact ?_ hM0)
          first | rfl | (simp [controlB, ht1, ht2, ht3, ht4]; done) | (simp [controlB, ht1, ht2, ht3, ht4]; omega)
        · intro hb4
          have ht4 := hb4
          try simp only [decide_eq_true_eq, decide_eq_false_iff_not, Bool.not_eq_true', Bool.not_eq_false', beq_iff_eq, Bool.and_eq_true, Bool.or_eq_true] at ht4
          refine oneOff hE23 rfl rfl hb4 rfl fun a24 hE24 => ?_
          clear hE23 a23
          refine oneOff hE24 rfl rfl hb4 rfl fun a25 hE25 => ?_
          clear hE24 a24
          refine oneOn hE25 rfl rfl rfl fun C hC => val hE25 (R.pickF hE25 rfl hb4 rfl) rfl fun a26 hE26 => hC _ _ ?_
          clear hC C
          clear hE25 a25
          refine one fun C hC => val hE26 (R.pickF hE26 rfl rfl rfl) rfl fun a27 hE27 => hC _ _ ?_
          clear hC C
          clear hE26 a26
          refine one fun C hC => val hE27 (R.assign hE27 rfl) rfl fun a28 hE28 => hC _ _ ?_
          clear hC C
          clear hE27 a27
          refine wpList_nil (hK1 _ _ ?_)
          clear hK1 K1
          replace hE28 := hE28.keep (E' := [(0, _), (2, _)]) ⟨rfl, rfl, trivial⟩
          refine wp_ret (hQ _ _ ?_)
          refine back1 hE28 rfl rfl (Mem.mkFact ?_ hM0)
          first | rfl | (simp [controlB, ht1, ht2, ht3, ht4]; done) | (simp [controlB, ht1, ht2, ht3, ht4]; omega)
    · intro hb2
      have ht2 := hb2
      try simp only [decide_eq_true_eq, decide_eq_false_iff_not, Bool.not_eq_true', Bool.not_eq_false', beq_iff_eq, Bool.and_eq_true, Bool.or_eq_true] at ht2
      refine oneOff hE8 rfl rfl hb2 rfl fun a9 hE9 => ?_
      clear hE8 a8
      refine oneOff hE9 rfl rfl hb2 rfl fun a10 hE10 => ?_
      clear hE9 a9
      refine one fun C hC => val hE10 (R.pickF hE10 rfl hb2 rfl) rfl fun a11 hE11 => hC _ _ ?_
      clear hC C
      clear hE10 a10
      refine one fun C hC => val hE11 (R.move hE11 rfl) rfl fun a12 hE12 => hC _ _ ?_
      clear hC C
      clear hE11 a11
      refine oneOff hE12 rfl rfl rfl rfl fun a13 hE13 => ?_
      clear hE12 a12
      refine oneOff hE13 rfl rfl rfl rfl fun a14 hE14 => ?_
      clear hE13 a13
      refine one fun C hC => val hE14 (R.pickF hE14 rfl rfl rfl) rfl fun a15 hE15 => hC _ _ ?_
      clear hC C
      clear hE14 a14
      refine one fun C hC => val hE15 (R.move hE15 rfl) rfl fun a16 hE16 => hC _ _ ?_
      clear hC C
      clear hE15 a15
      refine oneOff hE16 rfl rfl rfl rfl fun a17 hE17 => ?_
      clear hE16 a16
      refine oneOff hE17 rfl rfl rfl rfl fun a18 hE18 => ?_
      clear hE17 a17
      refine one fun C hC => val hE18 (R.pickF hE18 rfl rfl rfl) rfl fun a19 hE19 => hC _ _ ?_
      clear hC C
      clear hE18 a18
      refine one fun C hC => val hE19 (R.move hE19 rfl) rfl fun a20 hE20 => hC _ _ ?_
      clear hC C
      clear hE19 a19
      refine oneOn hE20 rfl rfl rfl fun C hC => val hE20 (R.move hE20 rfl) rfl fun a21 hE21 => hC _ _ ?_
      clear hC C
      clear hE20 a20
      refine oneOn hE21 rfl rfl rfl fun C hC => val hE21 (R.geq hE21 rfl rfl) rfl fun a22 hE22 => hC _ _ ?_
      clear hC C
      clear hE21 a21
      refine oneOn hE22 rfl rfl rfl fun C hC => val hE22 (R.move hE22 rfl) rfl fun a23 hE23 => hC _ _ ?_
      clear hC C
      clear hE22 a22
      refine splitE hE23 (x := .tmp 24) rfl ?_ ?_
      · intro hb3
        have ht3 := hb3
        try simp only [decide_eq_true_eq, decide_eq_false_iff_not, Bool.not_eq_true', Bool.not_eq_false', beq_iff_eq, Bool.and_eq_true, Bool.or_eq_true] at ht3
        refine oneOn hE23 rfl rfl hb3 fun C hC => val hE23 (R.move hE23 rfl) rfl fun a24 hE24 => hC _ _ ?_
        clear hC C
        clear hE23 a23
        refine oneOn hE24 rfl rfl hb3 fun C hC => val hE24 (R.leq hE24 rfl rfl) rfl fun a25 hE25 => hC _ _ ?_
        clear hC C
        clear hE24 a24
        refine oneOn hE25 rfl rfl rfl fun C hC => val hE25 (R.pickT hE25 rfl hb3 rfl) rfl fun a26 hE26 => hC _ _ ?_
        clear hC C
        clear hE25 a25
        refine one fun C hC => val hE26 (R.pickF hE26 rfl rfl rfl) rfl fun a27 hE27 => hC _ _ ?_
        clear hC C
        clear hE26 a26
        refine one fun C hC => val hE27 (R.assign hE27 rfl) rfl fun a28 hE28 => hC _ _ ?_
        clear hC C
        clear hE27 a27
        refine wpList_nil (hK1 _ _ ?_)
        clear hK1 K1
        replace hE28 := hE28.keep (E' := [(0, _), (2, _)]) ⟨rfl, rfl, trivial⟩
        refine wp_ret (hQ _ _ ?_)
        refine back1 hE28 rfl rfl (Mem.mkFact ?_ hM0)
        first | rfl | (simp [controlB, ht1, ht2, ht3]; done) | (simp [controlB, ht1, ht2, ht3]; omega)
      · intro hb3
        have ht3 := hb3
        try simp only [decide_eq_true_eq, decide_eq_false_iff_not, Bool.not_eq_true', Bool.not_eq_false', beq_iff_eq, Bool.and_eq_true, Bool.or_eq_true] at ht3
        refine oneOff hE23 rfl rfl hb3 rfl fun a24 hE24 => ?_
        clear hE23 a23
        refine oneOff hE24 rfl rfl hb3 rfl fun a25 hE25 => ?_
        clear hE24 a24
        refine oneOn hE25 rfl rfl rfl fun C hC => val hE25 (R.pickF hE25 rfl hb3 rfl) rfl fun a26 hE26 => hC _ _ ?_
        clear hC C
        clear hE25 a25
        refine one fun C hC => val hE26 (R.pickF hE26 rfl rfl rfl) rfl fun a27 hE27 => hC _ _ ?_
        clear hC C
        clear hE26 a26
        refine one fun C hC => val hE27 (R.assign hE27 rfl) rfl fun a28 hE28 => hC _ _ ?_
        clear hC C
        clear hE27 a27
        refine wpList_nil (hK1 _ _ ?_)
        clear hK1 K1
        replace hE28 := hE28.keep (E' := [(0, _), (2, _)]) ⟨rfl, rfl, trivial⟩
        refine wp_ret (hQ _ _ ?_)
        refine back1 hE28 rfl rfl (Mem.mkFact ?_ hM0)
        first | rfl | (simp [controlB, ht1, ht2, ht3]; done) | (simp [controlB, ht1, ht2, ht3]; omega)
  · intro hb1
    have ht1 := hb1
    try simp only [decide_eq_true_eq, decide_eq_false_iff_not, Bool.not_eq_true', Bool.not_eq_false', beq_iff_eq, Bool.and_eq_true, Bool.or_eq_true] at ht1
    refine oneOff hE4 rfl rfl hb1 rfl fun a5 hE5 => ?_
    clear hE4 a4
    refine oneOff hE5 rfl rfl hb1 rfl fun a6 hE6 => ?_
    clear hE5 a5
    refine one fun C hC => val hE6 (R.pickF hE6 rfl hb1 rfl) rfl fun a7 hE7 => hC _ _ ?_
    clear hC C
    clear hE6 a6
    refine one fun C hC => val hE7 (R.move hE7 rfl) rfl fun a8 hE8 => hC _ _ ?_
    clear hC C
    clear hE7 a7
    refine oneOff hE8 rfl rfl rfl rfl fun a9 hE9 => ?_
    clear hE8 a8
    refine oneOff hE9 rfl rfl rfl rfl fun a10 hE10 => ?_
    clear hE9 a9
    refine one fun C hC => val hE10 (R.pickF hE10 rfl rfl rfl) rfl fun a11 hE11 => hC _ _ ?_
    clear hC C
    clear hE10 a10
    refine one fun C hC => val hE11 (R.move hE11 rfl) rfl fun a12 hE12 => hC _ _ ?_
    clear hC C
    clear hE11 a11
    refine oneOff hE12 rfl rfl rfl rfl fun a13 hE13 => ?_
    clear hE12 a12
    refine oneOff hE13 rfl rfl rfl rfl fun a14 hE14 => ?_
    clear hE13 a13
    refine one fun C hC => val hE14 (R.pickF hE14 rfl rfl rfl) rfl fun a15 hE15 => hC _ _ ?_
    clear hC C
    clear hE14 a14
    refine one fun C hC => val hE15 (R.move hE15 rfl) rfl fun a16 hE16 => hC _ _ ?_
    clear hC C
    clear hE15 a15
    refine oneOff hE16 rfl rfl rfl rfl fun a17 hE17 => ?_
    clear hE16 a16
    refine oneOff hE17 rfl rfl rfl rfl fun a18 hE18 => ?_
    clear hE17 a17
    refine one fun C hC => val hE18 (R.pickF hE18 rfl rfl rfl) rfl fun a19 hE19 => hC _ _ ?_
    clear hC C
    clear hE18 a18
    refine one fun C hC => val hE19 (R.move hE19 rfl) rfl fun a20 hE20 => hC _ _ ?_
    clear hC C
    clear hE19 a19
    refine oneOn hE20 rfl rfl rfl fun C hC => val hE20 (R.move hE20 rfl) rfl fun a21 hE21 => hC _ _ ?_
    clear hC C
    clear hE20 a20
    refine oneOn hE21 rfl rfl rfl fun C hC => val hE21 (R.geq hE21 rfl rfl) rfl fun a22 hE22 => hC _ _ ?_
    clear hC C
    clear hE21 a21
    refine oneOn hE22 rfl rfl rfl fun C hC => val hE22 (R.move hE22 rfl) rfl fun a23 hE23 => hC _ _ ?_
    clear hC C
    clear hE22 a22
    refine splitE hE23 (x := .tmp 24) rfl ?_ ?_
    · intro hb2
      have ht2 := hb2
      try simp only [decide_eq_true_eq, decide_eq_false_iff_not, Bool.not_eq_true', Bool.not_eq_false', beq_iff_eq, Bool.and_eq_true, Bool.or_eq_true] at ht2
      refine oneOn hE23 rfl rfl hb2 fun C hC => val hE23 (R.move hE23 rfl) rfl fun a24 hE24 => hC _ _ ?_
      clear hC C
      clear hE23 a23
      refine oneOn hE24 rfl rfl hb2 fun C hC => val hE24 (R.leq hE24 rfl rfl) rfl fun a25 hE25 => hC _ _ ?_
      clear hC C
      clear hE24 a24
      refine oneOn hE25 rfl rfl rfl fun C hC => val hE25 (R.pickT hE25 rfl hb2 rfl) rfl fun a26 hE26 => hC _ _ ?_
      clear hC C
      clear hE25 a25
      refine one fun C hC => val hE26 (R.pickF hE26 rfl rfl rfl) rfl fun a27 hE27 => hC _ _ ?_
      clear hC C
      clear hE26 a26
      refine one fun C hC => val hE27 (R.assign hE27 rfl) rfl fun a28 hE28 => hC _ _ ?_
      clear hC C
      clear hE27 a27
      refine wpList_nil (hK1 _ _ ?_)
      clear hK1 K1
      replace hE28 := hE28.keep (E' := [(0, _), (2, _)]) ⟨rfl, rfl, trivial⟩
      refine wp_ret (hQ _ _ ?_)
      refine back1 hE28 rfl rfl (Mem.mkFact ?_ hM0)
      first | rfl | (simp [controlB, ht1, ht2]; done) | (simp [controlB, ht1, ht2]; omega)
    · intro hb2
      have ht2 := hb2
      try simp only [decide_eq_true_eq, decide_eq_false_iff_not, Bool.not_eq_true', Bool.not_eq_false', beq_iff_eq, Bool.and_eq_true, Bool.or_eq_true] at ht2
      refine oneOff hE23 rfl rfl hb2 rfl fun a24 hE24 => ?_
      clear hE23 a23
      refine oneOff hE24 rfl rfl hb2 rfl fun a25 hE25 => ?_
      clear hE24 a24
      refine oneOn hE25 rfl rfl rfl fun C hC => val hE25 (R.pickF hE25 rfl hb2 rfl) rfl fun a26 hE26 => hC _ _ ?_
      clear hC C
      clear hE25 a25
      refine one fun C hC => val hE26 (R.pickF hE26 rfl rfl rfl) rfl fun a27 hE27 => hC _ _ ?_
      clear hC C
      clear hE26 a26
      refine one fun C hC => val hE27 (R.assign hE27 rfl) rfl fun a28 hE28 => hC _ _ ?_
      clear hC C
      clear hE27 a27
      refine wpList_nil (hK1 _ _ ?_)
      clear hK1 K1
      replace hE28 := hE28.keep (E' := [(0, _), (2, _)]) ⟨rfl, rfl, trivial⟩
      refine wp_ret (hQ _ _ ?_)
      refine back1 hE28 rfl rfl (Mem.mkFact ?_ hM0)
      first | rfl | (simp [controlB, ht1, ht2]; done) | (simp [controlB, ht1, ht2]; omega)

set_option maxHeartbeats 400000 in
theorem nonchar_c (r : Int) : Fn Tryd.prog 29 [.int .i32 r] (.bool (noncharB r)) := by
  intro β w0 F0 hM0
  replace hM0 := hM0.ofEmp
  refine enter Tryd.func29 (by rfl) 18 rfl rfl fun a0 Q hE0 hQ hN hP => ?_
  refine wp_seq_k fun K0 hK0 => ?_
  refine wp_region_lit ?_
  refine one fun C hC => val hE0 (R.assign hE0 rfl) rfl fun a1 hE1 => hC _ _ ?_
  clear hC C
  clear hE0 a0
  refine wpList_nil (hK0 _ _ ?_)
  clear hK0 K0
  replace hE1 := hE1.keep (E' := [(0, _), (2, _)]) ⟨rfl, rfl, trivial⟩
  refine wp_seq_k fun K1 hK1 => ?_
  refine wp_region_lit ?_
  refine one fun C hC => val hE1 (R.move hE1 rfl) rfl fun a2 hE2 => hC _ _ ?_
  clear hC C
  clear hE1 a1
  refine one fun C hC => val hE2 (R.geq hE2 rfl rfl) rfl fun a3 hE3 => hC _ _ ?_
  clear hC C
  clear hE2 a2
  refine one fun C hC => val hE3 (R.move hE3 rfl) rfl fun a4 hE4 => hC _ _ ?_
  clear hC C
  clear hE3 a3
  refine splitE hE4 (x := .tmp 5) rfl ?_ ?_
  · intro hb1
    have ht1 := hb1
    try simp only [decide_eq_true_eq, decide_eq_false_iff_not, Bool.not_eq_true', Bool.not_eq_false', beq_iff_eq, Bool.and_eq_true, Bool.or_eq_true] at ht1
    refine oneOn hE4 rfl rfl hb1 fun C hC => val hE4 (R.move hE4 rfl) rfl fun a5 hE5 => hC _ _ ?_
    clear hC C
    clear hE4 a4
    refine oneOn hE5 rfl rfl hb1 fun C hC => val hE5 (R.leq hE5 rfl rfl) rfl fun a6 hE6 => hC _ _ ?_
    clear hC C
    clear hE5 a5
    refine one fun C hC => val hE6 (R.pickT hE6 rfl hb1 rfl) rfl fun a7 hE7 => hC _ _ ?_
    clear hC C
    clear hE6 a6
    refine one fun C hC => val hE7 (R.move hE7 rfl) rfl fun a8 hE8 => hC _ _ ?_
    clear hC C
    clear hE7 a7
    refine splitE hE8 (x := .tmp 9) rfl ?_ ?_
    · intro hb2
      have ht2 := hb2
      try simp only [decide_eq_true_eq, decide_eq_false_iff_not, Bool.not_eq_true', Bool.not_eq_false', beq_iff_eq, Bool.and_eq_true, Bool.or_eq_true] at ht2
      refine oneOff hE8 rfl rfl hb2 rfl fun a9 hE9 => ?_
      clear hE8 a8
      refine oneOff hE9 rfl rfl hb2 rfl fun a10 hE10 => ?_
      clear hE9 a9
      refine oneOff hE10 rfl rfl hb2 rfl fun a11 hE11 => ?_
      clear hE10 a10
      refine oneOffU hE11 rfl rfl rfl fun a12 hE12 => ?_
      clear hE11 a11
      refine oneOffU hE12 rfl rfl rfl fun a13 hE13 => ?_
      clear hE12 a12
      refine oneOffU hE13 rfl rfl rfl fun a14 hE14 => ?_
      clear hE13 a13
      refine oneOff hE14 rfl rfl hb2 rfl fun a15 hE15 => ?_
      clear hE14 a14
      refine one fun C hC => val hE15 (R.pickT hE15 rfl hb2 rfl) rfl fun a16 hE16 => hC _ _ ?_
      clear hC C
      clear hE15 a15
      refine one fun C hC => val hE16 (R.assign hE16 rfl) rfl fun a17 hE17 => hC _ _ ?_
      clear hC C
      clear hE16 a16
      refine wpList_nil (hK1 _ _ ?_)
      clear hK1 K1
      replace hE17 := hE17.keep (E' := [(0, _), (2, _)]) ⟨rfl, rfl, trivial⟩
      refine wp_ret (hQ _ _ ?_)
      refine back1 hE17 rfl rfl (Mem.mkFact ?_ hM0)
      first | rfl | (simp [noncharB, ht1, ht2]; done) | (simp [noncharB, ht1, ht2]; omega)
    · intro hb2
      have ht2 := hb2
      try simp only [decide_eq_true_eq, decide_eq_false_iff_not, Bool.not_eq_true', Bool.not_eq_false', beq_iff_eq, Bool.and_eq_true, Bool.or_eq_true] at ht2
      refine oneOn hE8 rfl rfl hb2 fun C hC => val hE8 (R.move hE8 rfl) rfl fun a9 hE9 => hC _ _ ?_
      clear hC C
      clear hE8 a8
      refine oneOn hE9 rfl rfl hb2 fun C hC => val hE9 (R.geq hE9 rfl rfl) rfl fun a10 hE10 => hC _ _ ?_
      clear hC C
      clear hE9 a9
      refine oneOn hE10 rfl rfl hb2 fun C hC => val hE10 (R.move hE10 rfl) rfl fun a11 hE11 => hC _ _ ?_
      clear hC C
      clear hE10 a10
      refine splitE hE11 (x := .tmp 12) rfl ?_ ?_
      · intro hb3
        have ht3 := hb3
        try simp only [decide_eq_true_eq, decide_eq_false_iff_not, Bool.not_eq_true', Bool.not_eq_false', beq_iff_eq, Bool.and_eq_true, Bool.or_eq_true] at ht3
        refine oneOn hE11 rfl rfl hb3 fun C hC => val hE11 (R.move hE11 rfl) rfl fun a12 hE12 => hC _ _ ?_
        clear hC C
        clear hE11 a11
        refine oneOn hE12 rfl rfl hb3 fun C hC => val hE12 (R.and hE12 rfl rfl) rfl fun a13 hE13 => hC _ _ ?_
        clear hC C
        clear hE12 a12
        refine oneOn hE13 rfl rfl hb3 fun C hC => val hE13 (R.eql hE13 rfl rfl) rfl fun a14 hE14 => hC _ _ ?_
        clear hC C
        clear hE13 a13
        refine oneOn hE14 rfl rfl hb2 fun C hC => val hE14 (R.pickT hE14 rfl hb3 rfl) rfl fun a15 hE15 => hC _ _ ?_
        clear hC C
        clear hE14 a14
        refine one fun C hC => val hE15 (R.pickF hE15 rfl hb2 rfl) rfl fun a16 hE16 => hC _ _ ?_
        clear hC C
        clear hE15 a15
        refine one fun C hC => val hE16 (R.assign hE16 rfl) rfl fun a17 hE17 => hC _ _ ?_
        clear hC C
        clear hE16 a16
        refine wpList_nil (hK1 _ _ ?_)
        clear hK1 K1
        replace hE17 := hE17.keep (E' := [(0, _), (2, _)]) ⟨rfl, rfl, trivial⟩
        refine wp_ret (hQ _ _ ?_)
        refine back1 hE17 rfl rfl (Mem.mkFact ?_ hM0)
        first | rfl | (simp [noncharB, ht1, ht2, ht3]; done) | (simp [noncharB, ht1, ht2, ht3]; omega)
      · intro hb3
        have ht3 := hb3
        try simp only [decide_eq_true_eq, decide_eq_false_iff_not, Bool.not_eq_true', Bool.not_eq_false', beq_iff_eq, Bool.and_eq_true, Bool.or_eq_true] at ht3
        refine oneOff hE11 rfl rfl hb3 rfl fun a12 hE12 => ?_
        clear hE11 a11
        refine oneOff hE12 rfl rfl hb3 rfl fun a13 hE13 => ?_
        clear hE12 a12
        refine oneOff hE13 rfl rfl hb3 rfl fun a14 hE14 => ?_
        clear hE13 a13
        refine oneOn hE14 rfl rfl hb2 fun C hC => val hE14 (R.pickF hE14 rfl hb3 rfl) rfl fun a15 hE15 => hC _ _ ?_
        clear hC C
        clear hE14 a14
        refine one fun C hC => val hE15 (R.pickF hE15 rfl hb2 rfl) rfl fun a16 hE16 => hC _ _ ?_
        clear hC C
        clear hE15 a15
        refine one fun C hC => val hE16 (R.assign hE16 rfl) rfl fun a17 hE17 => hC _ _ ?_
        clear hC C
        clear hE16 a16
        refine wpList_nil (hK1 _ _ ?_)
        clear hK1 K1
        replace hE17 := hE17.keep (E' := [(0, _), (2, _)]) ⟨rfl, rfl, trivial⟩
        refine wp_ret (hQ _ _ ?_)
        refine back1 hE17 rfl rfl (Mem.mkFact ?_ hM0)
        first | rfl | (simp [noncharB, ht1, ht2, ht3]; done) | (simp [noncharB, ht1, ht2, ht3]; omega)
  · intro hb1
    have ht1 := hb1
    try simp only [decide_eq_true_eq, decide_eq_false_iff_not, Bool.not_eq_true', Bool.not_eq_false', beq_iff_eq, Bool.and_eq_true, Bool.or_eq_true] at ht1
    refine oneOff hE4 rfl rfl hb1 rfl fun a5 hE5 => ?_
    clear hE4 a4
    refine oneOff hE5 rfl rfl hb1 rfl fun a6 hE6 => ?_
    clear hE5 a5
    refine one fun C hC => val hE6 (R.pickF hE6 rfl hb1 rfl) rfl fun a7 hE7 => hC _ _ ?_
    clear hC C
    clear hE6 a6
    refine one fun C hC => val hE7 (R.move hE7 rfl) rfl fun a8 hE8 => hC _ _ ?_
    clear hC C
    clear hE7 a7
    refine oneOn hE8 rfl rfl rfl fun C hC => val hE8 (R.move hE8 rfl) rfl fun a9 hE9 => hC _ _ ?_
    clear hC C
    clear hE8 a8
    refine oneOn hE9 rfl rfl rfl fun C hC => val hE9 (R.geq hE9 rfl rfl) rfl fun a10 hE10 => hC _ _ ?_
    clear hC C
    clear hE9 a9
    refine oneOn hE10 rfl rfl rfl fun C hC => val hE10 (R.move hE10 rfl) rfl fun a11 hE11 => hC _ _ ?_
    clear hC C
    clear hE10 a10
    refine splitE hE11 (x := .tmp 12) rfl ?_ ?_
    · intro hb2
      have ht2 := hb2
      try simp only [decide_eq_true_eq, decide_eq_false_iff_not, Bool.not_eq_true', Bool.not_eq_false', beq_iff_eq, Bool.and_eq_true, Bool.or_eq_true] at ht2
      refine oneOn hE11 rfl rfl hb2 fun C hC => val hE11 (R.move hE11 rfl) rfl fun a12 hE12 => hC _ _ ?_
      clear hC C
      clear hE11 a11
      refine oneOn hE12 rfl rfl hb2 fun C hC => val hE12 (R.and hE12 rfl rfl) rfl fun a13 hE13 => hC _ _ ?_
      clear hC C
      clear hE12 a12
      refine oneOn hE13 rfl rfl hb2 fun C hC => val hE13 (R.eql hE13 rfl rfl) rfl fun a14 hE14 => hC _ _ ?_
      clear hC C
      clear hE13 a13
      refine oneOn hE14 rfl rfl rfl fun C hC => val hE14 (R.pickT hE14 rfl hb2 rfl) rfl fun a15 hE15 => hC _ _ ?_
      clear hC C
      clear hE14 a14
      refine one fun C hC => val hE15 (R.pickF hE15 rfl rfl rfl) rfl fun a16 hE16 => hC _ _ ?_
      clear hC C
      clear hE15 a15
      refine one fun C hC => val hE16 (R.assign hE16 rfl) rfl fun a17 hE17 => hC _ _ ?_
      clear hC C
      clear hE16 a16
      refine wpList_nil (hK1 _ _ ?_)
      clear hK1 K1
      replace hE17 := hE17.keep (E' := [(0, _), (2, _)]) ⟨rfl, rfl, trivial⟩
      refine wp_ret (hQ _ _ ?_)
      refine back1 hE17 rfl rfl (Mem.mkFact ?_ hM0)
      first | rfl | (simp [noncharB, ht1, ht2]; done) | (simp [noncharB, ht1, ht2]; omega)
    · intro hb2
      have ht2 := hb2
      try simp only [decide_eq_true_eq, decide_eq_false_iff_not, Bool.not_eq_true', Bool.not_eq_false', beq_iff_eq, Bool.and_eq_true, Bool.or_eq_true] at ht2
      refine oneOff hE11 rfl rfl hb2 rfl fun a12 hE12 => ?_
      clear hE11 a11
      refine oneOff hE12 rfl rfl hb2 rfl fun a13 hE13 => ?_
      clear hE12 a12
      refine oneOff hE13 rfl rfl hb2 rfl fun a14 hE14 => ?_
      clear hE13 a13
      refine oneOn hE14 rfl rfl rfl fun C hC => val hE14 (R.pickF hE14 rfl hb2 rfl) rfl fun a15 hE15 => hC _ _ ?_
      clear hC C
      clear hE14 a14
      refine one fun C hC => val hE15 (R.pickF hE15 rfl rfl rfl) rfl fun a16 hE16 => hC _ _ ?_
      clear hC C
      clear hE15 a15
      refine one fun C hC => val hE16 (R.assign hE16 rfl) rfl fun a17 hE17 => hC _ _ ?_
      clear hC C
      clear hE16 a16
      refine wpList_nil (hK1 _ _ ?_)
      clear hK1 K1
      replace hE17 := hE17.keep (E' := [(0, _), (2, _)]) ⟨rfl, rfl, trivial⟩
      refine wp_ret (hQ _ _ ?_)
      refine back1 hE17 rfl rfl (Mem.mkFact ?_ hM0)
      first | rfl | (simp [noncharB, ht1, ht2]; done) | (simp [noncharB, ht1, ht2]; omega)

set_option maxHeartbeats 400000 in
theorem lowerRune_c (r : Int) (h0 : -1 ≤ r) (h1 : r ≤ 1114111) : Fn Tryd.prog 35 [.int .i32 r] (.int .i32 (lowerR r)) := by
  intro β w0 F0 hM0
  replace hM0 := hM0.ofEmp
  refine enter Tryd.func35 (by rfl) 9 rfl rfl fun a0 Q hE0 hQ hN hP => ?_
  refine wp_seq_k fun K0 hK0 => ?_
  refine wp_region_lit ?_
  refine one fun C hC => val hE0 (R.assign hE0 rfl) rfl fun a1 hE1 => hC _ _ ?_
  clear hC C
  clear hE0 a0
  refine wpList_nil (hK0 _ _ ?_)
  clear hK0 K0
  replace hE1 := hE1.keep (E' := [(0, _), (2, _)]) ⟨rfl, rfl, trivial⟩
  refine wp_seq_k fun K1 hK1 => ?_
  refine wp_seq_k fun K2 hK2 => ?_
  refine wp_region_lit ?_
  refine one fun C hC => val hE1 (R.move hE1 rfl) rfl fun a2 hE2 => hC _ _ ?_
  clear hC C
  clear hE1 a1
  refine one fun C hC => callF hE2 (upper_c _) cb_37 rfl hM0 rfl  fun  a3 w1 hE3 hM1 => hC _ _ ?_
  clear hC C hE2 hM0 a2
  refine wpList_nil (hK2 _ _ ?_)
  clear hK2 K2
  replace hE3 := hE3.keep (E' := [(0, _), (2, _), (4, _)]) ⟨rfl, rfl, rfl, trivial⟩
  refine condR hE3 rfl ?_ ?_
  · intro hb1
    have ht1 := hb1
    try simp only [decide_eq_true_eq, decide_eq_false_iff_not, Bool.not_eq_true', Bool.not_eq_false', beq_iff_eq, Bool.and_eq_true, Bool.or_eq_true] at ht1
    refine wp_seq_k fun K3 hK3 => ?_
    refine wp_region_lit ?_
    refine one fun C hC => val hE3 (R.move hE3 rfl) rfl fun a4 hE4 => hC _ _ ?_
    clear hC C
    clear hE3 a3
    refine one fun C hC => val hE4 (R.add32 hE4 rfl rfl (by omega) (by omega)) rfl fun a5 hE5 => hC _ _ ?_
    clear hC C
    clear hE4 a4
    refine one fun C hC => val hE5 (R.sub32 hE5 rfl rfl (by omega) (by omega)) rfl fun a6 hE6 => hC _ _ ?_
    clear hC C
    clear hE5 a5
    refine one fun C hC => val hE6 (R.assign hE6 rfl) rfl fun a7 hE7 => hC _ _ ?_
    clear hC C
    clear hE6 a6
    refine wpList_nil (hK3 _ _ ?_)
    clear hK3 K3
    replace hE7 := hE7.keep (E' := [(0, _), (2, _), (4, _)]) ⟨rfl, rfl, rfl, trivial⟩
    refine wp_ret (hQ _ _ ?_)
    refine back1 hE7 rfl rfl (Mem.mkFact ?_ hM1)
    first | rfl | (simp [lowerR, ht1]; done) | (simp [lowerR, ht1]; omega)
  · intro hb1
    have ht1 := hb1
    try simp only [decide_eq_true_eq, decide_eq_false_iff_not, Bool.not_eq_true', Bool.not_eq_false', beq_iff_eq, Bool.and_eq_true, Bool.or_eq_true] at ht1
    refine wp_skip (hK1 _ _ ?_)
    refine wp_seq_k fun K4 hK4 => ?_
    refine wp_region_lit ?_
    refine one fun C hC => val hE3 (R.move hE3 rfl) rfl fun a4 hE4 => hC _ _ ?_
    clear hC C
    clear hE3 a3
    refine one fun C hC => val hE4 (R.assign hE4 rfl) rfl fun a5 hE5 => hC _ _ ?_
    clear hC C
    clear hE4 a4
    refine wpList_nil (hK4 _ _ ?_)
    clear hK4 K4
    replace hE5 := hE5.keep (E' := [(0, _), (2, _), (4, _)]) ⟨rfl, rfl, rfl, trivial⟩
    refine wp_ret (hQ _ _ ?_)
    refine back1 hE5 rfl rfl (Mem.mkFact ?_ hM1)
    first | rfl | (simp [lowerR, ht1]; done) | (simp [lowerR, ht1]; omega)

end Go.Sv
