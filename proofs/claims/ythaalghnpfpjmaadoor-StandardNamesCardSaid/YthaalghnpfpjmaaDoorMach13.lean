import Derived.Test.YthaalghnpfpjmaaDoorProg
import Derived.Test.YthaalghnpfpjmaaDoorMach12
import Derived.Test.YthaalghnpfpjmaaDoorRules4
set_option linter.all false
set_option linter.unusedVariables false
set_option linter.unusedSimpArgs false
set_option maxRecDepth 100000
namespace Go.Sv
open Go.RowKit Go.Proofs
attribute [local irreducible] row pts star blk emp fact any attrsOf machAt tagAt

namespace FMach13
theorem cb_68 : callB Tryd.prog 68 = true := by kernel_rfl
theorem el_67 : elemB Tryd.prog 67 5 1 1 = true := by kernel_rfl
end FMach13
open FMach13
set_option maxHeartbeats 400000 in
theorem nonAscii_c (a : Option Addr) (c : Nat) (zs : List Int) (n : Nat) (h0 : 128 ≤ n) (h1 : n ≤ 1114111) (hz : zs.length ≤ 1000000) : Fx Tryd.prog 68 [.slice a zs.length c, .int .i32 n] (row 5 1 (encInt .u8) a c zs) (fun q : Option Addr × Nat => .slice q.1 (zs ++ encB n).length q.2) (fun q => row 5 1 (encInt .u8) q.1 q.2 (zs ++ encB n)) := by
  intro β w0 F0 hM0
  refine enter Tryd.func68 (by rfl) 78 rfl rfl fun a0 Q hE0 hQ hN hP => ?_
  refine wp_seq_k fun K0 hK0 => ?_
  refine wp_region_lit ?_
  refine one fun C hC => val hE0 (R.assign hE0 rfl) rfl fun a1 hE1 => hC _ _ ?_
  clear hC C
  clear hE0 a0
  refine wpList_nil (hK0 _ _ ?_)
  clear hK0 K0
  replace hE1 := hE1.keep (E' := [(0, _), (1, _), (4, _)]) ⟨rfl, rfl, rfl, trivial⟩
  refine wp_seq_k fun K1 hK1 => ?_
  refine wp_region_lit ?_
  refine one fun C hC => val hE1 (R.move hE1 rfl) rfl fun a2 hE2 => hC _ _ ?_
  clear hC C
  clear hE1 a1
  refine one fun C hC => val hE2 (R.convU32 hE2 (by rfl) (by rfl) rfl (by omega) (by omega)) rfl fun a3 hE3 => hC _ _ ?_
  clear hC C
  clear hE2 a2
  refine one fun C hC => val hE3 (R.assign hE3 rfl) rfl fun a4 hE4 => hC _ _ ?_
  clear hC C
  clear hE3 a3
  refine wpList_nil (hK1 _ _ ?_)
  clear hK1 K1
  replace hE4 := hE4.keep (E' := [(0, _), (1, _), (4, _), (5, _)]) ⟨rfl, rfl, rfl, rfl, trivial⟩
  refine wp_block ?_
  refine wp_seq_k fun K2 hK2 => ?_
  refine wp_region_lit ?_
  refine one fun C hC => val hE4 (R.move hE4 rfl) rfl fun a5 hE5 => hC _ _ ?_
  clear hC C
  clear hE4 a4
  refine one fun C hC => val hE5 (R.leq hE5 rfl rfl) rfl fun a6 hE6 => hC _ _ ?_
  clear hC C
  clear hE5 a5
  refine one fun C hC => val hE6 (R.assign hE6 rfl) rfl fun a7 hE7 => hC _ _ ?_
  clear hC C
  clear hE6 a6
  refine wpList_nil (hK2 _ _ ?_)
  clear hK2 K2
  replace hE7 := hE7.keep (E' := [(0, _), (1, _), (4, _), (5, _), (11, _)]) ⟨rfl, rfl, rfl, rfl, rfl, trivial⟩
  refine condR hE7 rfl ?_ ?_
  · intro hb1
    have ht1 := hb1
    try simp only [decide_eq_true_eq, decide_eq_false_iff_not, Bool.not_eq_true', Bool.not_eq_false', beq_iff_eq, Bool.and_eq_true, Bool.or_eq_true] at ht1
    refine wp_seq_k fun K3 hK3 => ?_
    refine wp_region_lit ?_
    refine one fun C hC => val hE7 (R.move hE7 rfl) rfl fun a8 hE8 => hC _ _ ?_
    clear hC C
    clear hE7 a7
    refine one fun C hC => val hE8 (R.move hE8 rfl) rfl fun a9 hE9 => hC _ _ ?_
    clear hC C
    clear hE8 a8
    refine one fun C hC => val hE9 (R.shr hE9 rfl rfl (by decide) (by decide)) rfl fun a10 hE10 => hC _ _ ?_
    clear hC C
    clear hE9 a9
    refine one fun C hC => val hE10 (R.convInt hE10 (by rfl) (by rfl) rfl) rfl fun a11 hE11 => hC _ _ ?_
    clear hC C
    clear hE10 a10
    refine one fun C hC => val hE11 (R.or hE11 rfl rfl) rfl fun a12 hE12 => hC _ _ ?_
    clear hC C
    clear hE11 a11
    refine one fun C hC => val hE12 (R.move hE12 rfl) rfl fun a13 hE13 => hC _ _ ?_
    clear hC C
    clear hE12 a12
    refine one fun C hC => val hE13 (R.convInt hE13 (by rfl) (by rfl) rfl) rfl fun a14 hE14 => hC _ _ ?_
    clear hC C
    clear hE13 a13
    refine one fun C hC => val hE14 (R.and hE14 rfl rfl) rfl fun a15 hE15 => hC _ _ ?_
    clear hC C
    clear hE14 a14
    refine one fun C hC => val hE15 (R.or hE15 rfl rfl) rfl fun a16 hE16 => hC _ _ ?_
    clear hC C
    clear hE15 a15
    have e0 : bits .or .u8 192 (IntKind.u8.wrap ((n : Int) / 2 ^ ((6 : Int)).toNat)) = ((192 + n / 64 : Nat) : Int) := by rw [show ((n : Int) / 2 ^ ((6 : Int)).toNat) = ((n / 2 ^ 6 : Nat) : Int) from shr_nat n 6]; exact or_head 192 32 (by decide) (q := n / 2 ^ 6) (by omega)
    have e1 : bits .or .u8 128 (bits .and .u8 (IntKind.u8.wrap (n : Int)) 63) = ((128 + n % 64 : Nat) : Int) := or_tail n
    refine one fun C hC => litN (vs := [.int .u8 ((192 + n / 64 : Nat) : Int), .int .u8 ((128 + n % 64 : Nat) : Int)]) hE16 hM0 el_67 (by rw [← e0, ← e1]; rfl) (by intro v hv; simp at hv; rcases hv with rfl | rfl <;> rfl) rfl (by decide) (by decide) rfl fun b23 a17 w1 hE17 hM1 => hC _ _ ?_
    clear hC C hE16 hM0 a16
    refine one fun C hC => appendL (xs := zs) hE17 [((192 + n / 64 : Nat) : Int), ((128 + n % 64 : Nat) : Int)] el_67 rfl rfl hM1 rfl rfl rfl (by unfold maxLen; simp; omega) (by simp; omega) rfl  fun A7 C7 a18 w2 hE18 hM2 => hC _ _ ?_
    clear hC C hE17 hM1 a17
    refine one fun C hC => val hE18 (R.assign hE18 rfl) rfl fun a19 hE19 => hC _ _ ?_
    clear hC C
    clear hE18 a18
    refine wpList_nil (hK3 _ _ ?_)
    clear hK3 K3
    replace hE19 := hE19.keep (E' := [(0, _), (1, _), (4, _), (5, _), (11, _)]) ⟨rfl, rfl, rfl, rfl, rfl, trivial⟩
    refine wp_ret (hQ _ _ ?_)
    have ee : encB n = [((192 + n / 64 : Nat) : Int), ((128 + n % 64 : Nat) : Int)] := by first | exact encB_one (by omega) | exact encB_two (by omega) (by omega) | exact encB_three (by omega) (by omega) (by omega) | exact encB_four (by omega) (by omega) | exact encB_bad (by omega) (by omega)
    refine back1 hE19 rfl rfl (Mem.doneX ((A7, C7) : Option Addr × Nat) ?_ ?_)
    · rw [ee]
    · rw [ee]; exact hM2
  · intro hb1
    have ht1 := hb1
    try simp only [decide_eq_true_eq, decide_eq_false_iff_not, Bool.not_eq_true', Bool.not_eq_false', beq_iff_eq, Bool.and_eq_true, Bool.or_eq_true] at ht1
    refine wp_seq_k fun K4 hK4 => ?_
    refine wp_seq_k fun K5 hK5 => ?_
    refine wp_region_lit ?_
    refine one fun C hC => val hE7 (R.move hE7 rfl) rfl fun a8 hE8 => hC _ _ ?_
    clear hC C
    clear hE7 a7
    refine one fun C hC => val hE8 (R.lss hE8 rfl rfl) rfl fun a9 hE9 => hC _ _ ?_
    clear hC C
    clear hE8 a8
    refine one fun C hC => val hE9 (R.assign hE9 rfl) rfl fun a10 hE10 => hC _ _ ?_
    clear hC C
    clear hE9 a9
    refine wpList_nil (hK5 _ _ ?_)
    clear hK5 K5
    replace hE10 := hE10.keep (E' := [(0, _), (1, _), (4, _), (5, _), (11, _), (25, _)]) ⟨rfl, rfl, rfl, rfl, rfl, rfl, trivial⟩
    refine condR hE10 rfl ?_ ?_
    · intro hb2
      have ht2 := hb2
      try simp only [decide_eq_true_eq, decide_eq_false_iff_not, Bool.not_eq_true', Bool.not_eq_false', beq_iff_eq, Bool.and_eq_true, Bool.or_eq_true] at ht2
      refine wp_skip (hK4 _ _ ?_)
      refine condT hE10 rfl hb2 ?_
      refine wp_seq_k fun K6 hK6 => ?_
      refine wp_region_lit ?_
      refine one fun C hC => val hE10 (R.move hE10 rfl) rfl fun a11 hE11 => hC _ _ ?_
      clear hC C
      clear hE10 a10
      refine one fun C hC => val hE11 (R.move hE11 rfl) rfl fun a12 hE12 => hC _ _ ?_
      clear hC C
      clear hE11 a11
      refine one fun C hC => val hE12 (R.shr hE12 rfl rfl (by decide) (by decide)) rfl fun a13 hE13 => hC _ _ ?_
      clear hC C
      clear hE12 a12
      refine one fun C hC => val hE13 (R.convInt hE13 (by rfl) (by rfl) rfl) rfl fun a14 hE14 => hC _ _ ?_
      clear hC C
      clear hE13 a13
      refine one fun C hC => val hE14 (R.or hE14 rfl rfl) rfl fun a15 hE15 => hC _ _ ?_
      clear hC C
      clear hE14 a14
      refine one fun C hC => val hE15 (R.move hE15 rfl) rfl fun a16 hE16 => hC _ _ ?_
      clear hC C
      clear hE15 a15
      refine one fun C hC => val hE16 (R.shr hE16 rfl rfl (by decide) (by decide)) rfl fun a17 hE17 => hC _ _ ?_
      clear hC C
      clear hE16 a16
      refine one fun C hC => val hE17 (R.convInt hE17 (by rfl) (by rfl) rfl) rfl fun a18 hE18 => hC _ _ ?_
      clear hC C
      clear hE17 a17
      refine one fun C hC => val hE18 (R.and hE18 rfl rfl) rfl fun a19 hE19 => hC _ _ ?_
      clear hC C
      clear hE18 a18
      refine one fun C hC => val hE19 (R.or hE19 rfl rfl) rfl fun a20 hE20 => hC _ _ ?_
      clear hC C
      clear hE19 a19
      refine one fun C hC => val hE20 (R.move hE20 rfl) rfl fun a21 hE21 => hC _ _ ?_
      clear hC C
      clear hE20 a20
      refine one fun C hC => val hE21 (R.convInt hE21 (by rfl) (by rfl) rfl) rfl fun a22 hE22 => hC _ _ ?_
      clear hC C
      clear hE21 a21
      refine one fun C hC => val hE22 (R.and hE22 rfl rfl) rfl fun a23 hE23 => hC _ _ ?_
      clear hC C
      clear hE22 a22
      refine one fun C hC => val hE23 (R.or hE23 rfl rfl) rfl fun a24 hE24 => hC _ _ ?_
      clear hC C
      clear hE23 a23
      have e0 : bits .or .u8 224 (IntKind.u8.wrap ((n : Int) / 2 ^ ((12 : Int)).toNat)) = ((224 + n / 4096 : Nat) : Int) := by rw [show ((n : Int) / 2 ^ ((12 : Int)).toNat) = ((n / 2 ^ 12 : Nat) : Int) from shr_nat n 12]; exact or_head 224 16 (by decide) (q := n / 2 ^ 12) (by omega)
      have e1 : bits .or .u8 128 (bits .and .u8 (IntKind.u8.wrap ((n : Int) / 2 ^ ((6 : Int)).toNat)) 63) = ((128 + n / 64 % 64 : Nat) : Int) := by rw [show ((n : Int) / 2 ^ ((6 : Int)).toNat) = ((n / 2 ^ 6 : Nat) : Int) from shr_nat n 6]; exact or_tail (n / 2 ^ 6)
      have e2 : bits .or .u8 128 (bits .and .u8 (IntKind.u8.wrap (n : Int)) 63) = ((128 + n % 64 : Nat) : Int) := or_tail n
      refine one fun C hC => litN (vs := [.int .u8 ((224 + n / 4096 : Nat) : Int), .int .u8 ((128 + n / 64 % 64 : Nat) : Int), .int .u8 ((128 + n % 64 : Nat) : Int)]) hE24 hM0 el_67 (by rw [← e0, ← e1, ← e2]; rfl) (by intro v hv; simp at hv; rcases hv with rfl | rfl | rfl <;> rfl) rfl (by decide) (by decide) rfl fun b48 a25 w1 hE25 hM1 => hC _ _ ?_
      clear hC C hE24 hM0 a24
      refine one fun C hC => appendL (xs := zs) hE25 [((224 + n / 4096 : Nat) : Int), ((128 + n / 64 % 64 : Nat) : Int), ((128 + n % 64 : Nat) : Int)] el_67 rfl rfl hM1 rfl rfl rfl (by unfold maxLen; simp; omega) (by simp; omega) rfl  fun A7 C7 a26 w2 hE26 hM2 => hC _ _ ?_
      clear hC C hE25 hM1 a25
      refine one fun C hC => val hE26 (R.assign hE26 rfl) rfl fun a27 hE27 => hC _ _ ?_
      clear hC C
      clear hE26 a26
      refine wpList_nil (hK6 _ _ ?_)
      clear hK6 K6
      replace hE27 := hE27.keep (E' := [(0, _), (1, _), (4, _), (5, _), (11, _), (25, _)]) ⟨rfl, rfl, rfl, rfl, rfl, rfl, trivial⟩
      refine wp_ret (hQ _ _ ?_)
      have ee : encB n = [((224 + n / 4096 : Nat) : Int), ((128 + n / 64 % 64 : Nat) : Int), ((128 + n % 64 : Nat) : Int)] := by first | exact encB_one (by omega) | exact encB_two (by omega) (by omega) | exact encB_three (by omega) (by omega) (by omega) | exact encB_four (by omega) (by omega) | exact encB_bad (by omega) (by omega)
      refine back1 hE27 rfl rfl (Mem.doneX ((A7, C7) : Option Addr × Nat) ?_ ?_)
      · rw [ee]
      · rw [ee]; exact hM2
    · intro hb2
      have ht2 := hb2
      try simp only [decide_eq_true_eq, decide_eq_false_iff_not, Bool.not_eq_true', Bool.not_eq_false', beq_iff_eq, Bool.and_eq_true, Bool.or_eq_true] at ht2
      refine wp_region_lit ?_
      refine one fun C hC => val hE10 (R.move hE10 rfl) rfl fun a11 hE11 => hC _ _ ?_
      clear hC C
      clear hE10 a10
      refine one fun C hC => val hE11 (R.lss hE11 rfl rfl) rfl fun a12 hE12 => hC _ _ ?_
      clear hC C
      clear hE11 a11
      refine one fun C hC => val hE12 (R.move hE12 rfl) rfl fun a13 hE13 => hC _ _ ?_
      clear hC C
      clear hE12 a12
      refine splitE hE13 (x := .tmp 30) rfl ?_ ?_
      · intro hb3
        have ht3 := hb3
        try simp only [decide_eq_true_eq, decide_eq_false_iff_not, Bool.not_eq_true', Bool.not_eq_false', beq_iff_eq, Bool.and_eq_true, Bool.or_eq_true] at ht3
        refine oneOn hE13 rfl rfl hb3 fun C hC => val hE13 (R.move hE13 rfl) rfl fun a14 hE14 => hC _ _ ?_
        clear hC C
        clear hE13 a13
        refine oneOn hE14 rfl rfl hb3 fun C hC => val hE14 (R.leq hE14 rfl rfl) rfl fun a15 hE15 => hC _ _ ?_
        clear hC C
        clear hE14 a14
        refine one fun C hC => val hE15 (R.pickT hE15 rfl hb3 rfl) rfl fun a16 hE16 => hC _ _ ?_
        clear hC C
        clear hE15 a15
        refine one fun C hC => val hE16 (R.assign hE16 rfl) rfl fun a17 hE17 => hC _ _ ?_
        clear hC C
        clear hE16 a16
        replace hE17 := hE17.keep (E' := [(0, _), (1, _), (4, _), (5, _), (11, _), (25, _)]) ⟨rfl, rfl, rfl, rfl, rfl, rfl, trivial⟩
        refine wpList_nil (hK4 _ _ ?_)
        refine condR hE17 rfl ?_ ?_
        · intro hb4
          have ht4 := hb4
          try simp only [decide_eq_true_eq, decide_eq_false_iff_not, Bool.not_eq_true', Bool.not_eq_false', beq_iff_eq, Bool.and_eq_true, Bool.or_eq_true] at ht4
          refine wp_seq_k fun K7 hK7 => ?_
          refine wp_region_lit ?_
          refine one fun C hC => val hE17 (R.move hE17 rfl) rfl fun a18 hE18 => hC _ _ ?_
          clear hC C
          clear hE17 a17
          refine one fun C hC => val hE18 (R.move hE18 rfl) rfl fun a19 hE19 => hC _ _ ?_
          clear hC C
          clear hE18 a18
          refine one fun C hC => val hE19 (R.shr hE19 rfl rfl (by decide) (by decide)) rfl fun a20 hE20 => hC _ _ ?_
          clear hC C
          clear hE19 a19
          refine one fun C hC => val hE20 (R.convInt hE20 (by rfl) (by rfl) rfl) rfl fun a21 hE21 => hC _ _ ?_
          clear hC C
          clear hE20 a20
          refine one fun C hC => val hE21 (R.or hE21 rfl rfl) rfl fun a22 hE22 => hC _ _ ?_
          clear hC C
          clear hE21 a21
          refine one fun C hC => val hE22 (R.move hE22 rfl) rfl fun a23 hE23 => hC _ _ ?_
          clear hC C
          clear hE22 a22
          refine one fun C hC => val hE23 (R.shr hE23 rfl rfl (by decide) (by decide)) rfl fun a24 hE24 => hC _ _ ?_
          clear hC C
          clear hE23 a23
          refine one fun C hC => val hE24 (R.convInt hE24 (by rfl) (by rfl) rfl) rfl fun a25 hE25 => hC _ _ ?_
          clear hC C
          clear hE24 a24
          refine one fun C hC => val hE25 (R.and hE25 rfl rfl) rfl fun a26 hE26 => hC _ _ ?_
          clear hC C
          clear hE25 a25
          refine one fun C hC => val hE26 (R.or hE26 rfl rfl) rfl fun a27 hE27 => hC _ _ ?_
          clear hC C
          clear hE26 a26
          refine one fun C hC => val hE27 (R.move hE27 rfl) rfl fun a28 hE28 => hC _ _ ?_
          clear hC C
          clear hE27 a27
          refine one fun C hC => val hE28 (R.convInt hE28 (by rfl) (by rfl) rfl) rfl fun a29 hE29 => hC _ _ ?_
          clear hC C
          clear hE28 a28
          refine one fun C hC => val hE29 (R.and hE29 rfl rfl) rfl fun a30 hE30 => hC _ _ ?_
          clear hC C
          clear hE29 a29
          refine one fun C hC => val hE30 (R.or hE30 rfl rfl) rfl fun a31 hE31 => hC _ _ ?_
          clear hC C
          clear hE30 a30
          have e0 : bits .or .u8 224 (IntKind.u8.wrap ((n : Int) / 2 ^ ((12 : Int)).toNat)) = ((224 + n / 4096 : Nat) : Int) := by rw [show ((n : Int) / 2 ^ ((12 : Int)).toNat) = ((n / 2 ^ 12 : Nat) : Int) from shr_nat n 12]; exact or_head 224 16 (by decide) (q := n / 2 ^ 12) (by omega)
          have e1 : bits .or .u8 128 (bits .and .u8 (IntKind.u8.wrap ((n : Int) / 2 ^ ((6 : Int)).toNat)) 63) = ((128 + n / 64 % 64 : Nat) : Int) := by rw [show ((n : Int) / 2 ^ ((6 : Int)).toNat) = ((n / 2 ^ 6 : Nat) : Int) from shr_nat n 6]; exact or_tail (n / 2 ^ 6)
          have e2 : bits .or .u8 128 (bits .and .u8 (IntKind.u8.wrap (n : Int)) 63) = ((128 + n % 64 : Nat) : Int) := or_tail n
          refine one fun C hC => litN (vs := [.int .u8 ((224 + n / 4096 : Nat) : Int), .int .u8 ((128 + n / 64 % 64 : Nat) : Int), .int .u8 ((128 + n % 64 : Nat) : Int)]) hE31 hM0 el_67 (by rw [← e0, ← e1, ← e2]; rfl) (by intro v hv; simp at hv; rcases hv with rfl | rfl | rfl <;> rfl) rfl (by decide) (by decide) rfl fun b48 a32 w1 hE32 hM1 => hC _ _ ?_
          clear hC C hE31 hM0 a31
          refine one fun C hC => appendL (xs := zs) hE32 [((224 + n / 4096 : Nat) : Int), ((128 + n / 64 % 64 : Nat) : Int), ((128 + n % 64 : Nat) : Int)] el_67 rfl rfl hM1 rfl rfl rfl (by unfold maxLen; simp; omega) (by simp; omega) rfl  fun A7 C7 a33 w2 hE33 hM2 => hC _ _ ?_
          clear hC C hE32 hM1 a32
          refine one fun C hC => val hE33 (R.assign hE33 rfl) rfl fun a34 hE34 => hC _ _ ?_
          clear hC C
          clear hE33 a33
          refine wpList_nil (hK7 _ _ ?_)
          clear hK7 K7
          replace hE34 := hE34.keep (E' := [(0, _), (1, _), (4, _), (5, _), (11, _), (25, _)]) ⟨rfl, rfl, rfl, rfl, rfl, rfl, trivial⟩
          refine wp_ret (hQ _ _ ?_)
          have ee : encB n = [((224 + n / 4096 : Nat) : Int), ((128 + n / 64 % 64 : Nat) : Int), ((128 + n % 64 : Nat) : Int)] := by first | exact encB_one (by omega) | exact encB_two (by omega) (by omega) | exact encB_three (by omega) (by omega) (by omega) | exact encB_four (by omega) (by omega) | exact encB_bad (by omega) (by omega)
          refine back1 hE34 rfl rfl (Mem.doneX ((A7, C7) : Option Addr × Nat) ?_ ?_)
          · rw [ee]
          · rw [ee]; exact hM2
        · intro hb4
          have ht4 := hb4
          try simp only [decide_eq_true_eq, decide_eq_false_iff_not, Bool.not_eq_true', Bool.not_eq_false', beq_iff_eq, Bool.and_eq_true, Bool.or_eq_true] at ht4
          refine wp_seq_k fun K8 hK8 => ?_
          refine wp_region_lit ?_
          refine one fun C hC => val hE17 (R.move hE17 rfl) rfl fun a18 hE18 => hC _ _ ?_
          clear hC C
          clear hE17 a17
          refine one fun C hC => val hE18 (R.gtr hE18 rfl rfl) rfl fun a19 hE19 => hC _ _ ?_
          clear hC C
          clear hE18 a18
          refine one fun C hC => val hE19 (R.move hE19 rfl) rfl fun a20 hE20 => hC _ _ ?_
          clear hC C
          clear hE19 a19
          refine splitE hE20 (x := .tmp 53) rfl ?_ ?_
          · intro hb5
            have ht5 := hb5
            try simp only [decide_eq_true_eq, decide_eq_false_iff_not, Bool.not_eq_true', Bool.not_eq_false', beq_iff_eq, Bool.and_eq_true, Bool.or_eq_true] at ht5
            refine oneOn hE20 rfl rfl hb5 fun C hC => val hE20 (R.move hE20 rfl) rfl fun a21 hE21 => hC _ _ ?_
            clear hC C
            clear hE20 a20
            refine oneOn hE21 rfl rfl hb5 fun C hC => val hE21 (R.leq hE21 rfl rfl) rfl fun a22 hE22 => hC _ _ ?_
            clear hC C
            clear hE21 a21
            refine one fun C hC => val hE22 (R.pickT hE22 rfl hb5 rfl) rfl fun a23 hE23 => hC _ _ ?_
            clear hC C
            clear hE22 a22
            refine one fun C hC => val hE23 (R.assign hE23 rfl) rfl fun a24 hE24 => hC _ _ ?_
            clear hC C
            clear hE23 a23
            refine wpList_nil (hK8 _ _ ?_)
            clear hK8 K8
            replace hE24 := hE24.keep (E' := [(0, _), (1, _), (4, _), (5, _), (11, _), (25, _), (50, _)]) ⟨rfl, rfl, rfl, rfl, rfl, rfl, rfl, trivial⟩
            refine condR hE24 rfl ?_ ?_
            · intro hb6
              have ht6 := hb6
              try simp only [decide_eq_true_eq, decide_eq_false_iff_not, Bool.not_eq_true', Bool.not_eq_false', beq_iff_eq, Bool.and_eq_true, Bool.or_eq_true] at ht6
              refine wp_seq_k fun K9 hK9 => ?_
              refine wp_region_lit ?_
              refine one fun C hC => val hE24 (R.move hE24 rfl) rfl fun a25 hE25 => hC _ _ ?_
              clear hC C
              clear hE24 a24
              refine one fun C hC => val hE25 (R.move hE25 rfl) rfl fun a26 hE26 => hC _ _ ?_
              clear hC C
              clear hE25 a25
              refine one fun C hC => val hE26 (R.shr hE26 rfl rfl (by decide) (by decide)) rfl fun a27 hE27 => hC _ _ ?_
              clear hC C
              clear hE26 a26
              refine one fun C hC => val hE27 (R.convInt hE27 (by rfl) (by rfl) rfl) rfl fun a28 hE28 => hC _ _ ?_
              clear hC C
              clear hE27 a27
              refine one fun C hC => val hE28 (R.or hE28 rfl rfl) rfl fun a29 hE29 => hC _ _ ?_
              clear hC C
              clear hE28 a28
              refine one fun C hC => val hE29 (R.move hE29 rfl) rfl fun a30 hE30 => hC _ _ ?_
              clear hC C
              clear hE29 a29
              refine one fun C hC => val hE30 (R.shr hE30 rfl rfl (by decide) (by decide)) rfl fun a31 hE31 => hC _ _ ?_
              clear hC C
              clear hE30 a30
              refine one fun C hC => val hE31 (R.convInt hE31 (by rfl) (by rfl) rfl) rfl fun a32 hE32 => hC _ _ ?_
              clear hC C
              clear hE31 a31
              refine one fun C hC => val hE32 (R.and hE32 rfl rfl) rfl fun a33 hE33 => hC _ _ ?_
              clear hC C
              clear hE32 a32
              refine one fun C hC => val hE33 (R.or hE33 rfl rfl) rfl fun a34 hE34 => hC _ _ ?_
              clear hC C
              clear hE33 a33
              refine one fun C hC => val hE34 (R.move hE34 rfl) rfl fun a35 hE35 => hC _ _ ?_
              clear hC C
              clear hE34 a34
              refine one fun C hC => val hE35 (R.shr hE35 rfl rfl (by decide) (by decide)) rfl fun a36 hE36 => hC _ _ ?_
              clear hC C
              clear hE35 a35
              refine one fun C hC => val hE36 (R.convInt hE36 (by rfl) (by rfl) rfl) rfl fun a37 hE37 => hC _ _ ?_
              clear hC C
              clear hE36 a36
              refine one fun C hC => val hE37 (R.and hE37 rfl rfl) rfl fun a38 hE38 => hC _ _ ?_
              clear hC C
              clear hE37 a37
              refine one fun C hC => val hE38 (R.or hE38 rfl rfl) rfl fun a39 hE39 => hC _ _ ?_
              clear hC C
              clear hE38 a38
              refine one fun C hC => val hE39 (R.move hE39 rfl) rfl fun a40 hE40 => hC _ _ ?_
              clear hC C
              clear hE39 a39
              refine one fun C hC => val hE40 (R.convInt hE40 (by rfl) (by rfl) rfl) rfl fun a41 hE41 => hC _ _ ?_
              clear hC C
              clear hE40 a40
              refine one fun C hC => val hE41 (R.and hE41 rfl rfl) rfl fun a42 hE42 => hC _ _ ?_
              clear hC C
              clear hE41 a41
              refine one fun C hC => val hE42 (R.or hE42 rfl rfl) rfl fun a43 hE43 => hC _ _ ?_
              clear hC C
              clear hE42 a42
              have e0 : bits .or .u8 240 (IntKind.u8.wrap ((n : Int) / 2 ^ ((18 : Int)).toNat)) = ((240 + n / 262144 : Nat) : Int) := by rw [show ((n : Int) / 2 ^ ((18 : Int)).toNat) = ((n / 2 ^ 18 : Nat) : Int) from shr_nat n 18]; exact or_head 240 8 (by decide) (q := n / 2 ^ 18) (by omega)
              have e1 : bits .or .u8 128 (bits .and .u8 (IntKind.u8.wrap ((n : Int) / 2 ^ ((12 : Int)).toNat)) 63) = ((128 + n / 4096 % 64 : Nat) : Int) := by rw [show ((n : Int) / 2 ^ ((12 : Int)).toNat) = ((n / 2 ^ 12 : Nat) : Int) from shr_nat n 12]; exact or_tail (n / 2 ^ 12)
              have e2 : bits .or .u8 128 (bits .and .u8 (IntKind.u8.wrap ((n : Int) / 2 ^ ((6 : Int)).toNat)) 63) = ((128 + n / 64 % 64 : Nat) : Int) := by rw [show ((n : Int) / 2 ^ ((6 : Int)).toNat) = ((n / 2 ^ 6 : Nat) : Int) from shr_nat n 6]; exact or_tail (n / 2 ^ 6)
              have e3 : bits .or .u8 128 (bits .and .u8 (IntKind.u8.wrap (n : Int)) 63) = ((128 + n % 64 : Nat) : Int) := or_tail n
              refine one fun C hC => litN (vs := [.int .u8 ((240 + n / 262144 : Nat) : Int), .int .u8 ((128 + n / 4096 % 64 : Nat) : Int), .int .u8 ((128 + n / 64 % 64 : Nat) : Int), .int .u8 ((128 + n % 64 : Nat) : Int)]) hE43 hM0 el_67 (by rw [← e0, ← e1, ← e2, ← e3]; rfl) (by intro v hv; simp at hv; rcases hv with rfl | rfl | rfl | rfl <;> rfl) rfl (by decide) (by decide) rfl fun b76 a44 w1 hE44 hM1 => hC _ _ ?_
              clear hC C hE43 hM0 a43
              refine one fun C hC => appendL (xs := zs) hE44 [((240 + n / 262144 : Nat) : Int), ((128 + n / 4096 % 64 : Nat) : Int), ((128 + n / 64 % 64 : Nat) : Int), ((128 + n % 64 : Nat) : Int)] el_67 rfl rfl hM1 rfl rfl rfl (by unfold maxLen; simp; omega) (by simp; omega) rfl  fun A7 C7 a45 w2 hE45 hM2 => hC _ _ ?_
              clear hC C hE44 hM1 a44
              refine one fun C hC => val hE45 (R.assign hE45 rfl) rfl fun a46 hE46 => hC _ _ ?_
              clear hC C
              clear hE45 a45
              refine wpList_nil (hK9 _ _ ?_)
              clear hK9 K9
              replace hE46 := hE46.keep (E' := [(0, _), (1, _), (4, _), (5, _), (11, _), (25, _), (50, _)]) ⟨rfl, rfl, rfl, rfl, rfl, rfl, rfl, trivial⟩
              refine wp_ret (hQ _ _ ?_)
              have ee : encB n = [((240 + n / 262144 : Nat) : Int), ((128 + n / 4096 % 64 : Nat) : Int), ((128 + n / 64 % 64 : Nat) : Int), ((128 + n % 64 : Nat) : Int)] := by first | exact encB_one (by omega) | exact encB_two (by omega) (by omega) | exact encB_three (by omega) (by omega) (by omega) | exact encB_four (by omega) (by omega) | exact encB_bad (by omega) (by omega)
              refine back1 hE46 rfl rfl (Mem.doneX ((A7, C7) : Option Addr × Nat) ?_ ?_)
              · rw [ee]
              · rw [ee]; exact hM2
            · intro hb6
              have ht6 := hb6
              try simp only [decide_eq_true_eq, decide_eq_false_iff_not, Bool.not_eq_true', Bool.not_eq_false', beq_iff_eq, Bool.and_eq_true, Bool.or_eq_true] at ht6
              refine wp_seq_k fun K10 hK10 => ?_
              refine wp_region_lit ?_
              refine one fun C hC => val hE24 (R.move hE24 rfl) rfl fun a25 hE25 => hC _ _ ?_
              clear hC C
              clear hE24 a24
              refine one fun C hC => litN (vs := [.int .u8 239, .int .u8 191, .int .u8 189]) hE25 hM0 el_67 (rfl) (by intro v hv; simp at hv; rcases hv with rfl | rfl | rfl <;> rfl) rfl (by decide) (by decide) rfl fun b9 a26 w1 hE26 hM1 => hC _ _ ?_
              clear hC C hE25 hM0 a25
              refine one fun C hC => appendL (xs := zs) hE26 [239, 191, 189] el_67 rfl rfl hM1 rfl rfl rfl (by unfold maxLen; simp; omega) (by simp; omega) rfl  fun A7 C7 a27 w2 hE27 hM2 => hC _ _ ?_
              clear hC C hE26 hM1 a26
              refine one fun C hC => val hE27 (R.assign hE27 rfl) rfl fun a28 hE28 => hC _ _ ?_
              clear hC C
              clear hE27 a27
              refine wpList_nil (hK10 _ _ ?_)
              clear hK10 K10
              replace hE28 := hE28.keep (E' := [(0, _), (1, _), (4, _), (5, _), (11, _), (25, _), (50, _)]) ⟨rfl, rfl, rfl, rfl, rfl, rfl, rfl, trivial⟩
              refine wp_ret (hQ _ _ ?_)
              have ee : encB n = [239, 191, 189] := by first | exact encB_one (by omega) | exact encB_two (by omega) (by omega) | exact encB_three (by omega) (by omega) (by omega) | exact encB_four (by omega) (by omega) | exact encB_bad (by omega) (by omega)
              refine back1 hE28 rfl rfl (Mem.doneX ((A7, C7) : Option Addr × Nat) ?_ ?_)
              · rw [ee]
              · rw [ee]; exact hM2
          · intro hb5
            have ht5 := hb5
            try simp only [decide_eq_true_eq, decide_eq_false_iff_not, Bool.not_eq_true', Bool.not_eq_false', beq_iff_eq, Bool.and_eq_true, Bool.or_eq_true] at ht5
            refine oneOff hE20 rfl rfl hb5 rfl fun a21 hE21 => ?_
            clear hE20 a20
            refine oneOff hE21 rfl rfl hb5 rfl fun a22 hE22 => ?_
            clear hE21 a21
            refine one fun C hC => val hE22 (R.pickF hE22 rfl hb5 rfl) rfl fun a23 hE23 => hC _ _ ?_
            clear hC C
            clear hE22 a22
            refine one fun C hC => val hE23 (R.assign hE23 rfl) rfl fun a24 hE24 => hC _ _ ?_
            clear hC C
            clear hE23 a23
            refine wpList_nil (hK8 _ _ ?_)
            clear hK8 K8
            replace hE24 := hE24.keep (E' := [(0, _), (1, _), (4, _), (5, _), (11, _), (25, _), (50, _)]) ⟨rfl, rfl, rfl, rfl, rfl, rfl, rfl, trivial⟩
            refine condF hE24 rfl rfl ?_
            refine wp_seq_k fun K11 hK11 => ?_
            refine wp_region_lit ?_
            refine one fun C hC => val hE24 (R.move hE24 rfl) rfl fun a25 hE25 => hC _ _ ?_
            clear hC C
            clear hE24 a24
            refine one fun C hC => litN (vs := [.int .u8 239, .int .u8 191, .int .u8 189]) hE25 hM0 el_67 (rfl) (by intro v hv; simp at hv; rcases hv with rfl | rfl | rfl <;> rfl) rfl (by decide) (by decide) rfl fun b9 a26 w1 hE26 hM1 => hC _ _ ?_
            clear hC C hE25 hM0 a25
            refine one fun C hC => appendL (xs := zs) hE26 [239, 191, 189] el_67 rfl rfl hM1 rfl rfl rfl (by unfold maxLen; simp; omega) (by simp; omega) rfl  fun A7 C7 a27 w2 hE27 hM2 => hC _ _ ?_
            clear hC C hE26 hM1 a26
            refine one fun C hC => val hE27 (R.assign hE27 rfl) rfl fun a28 hE28 => hC _ _ ?_
            clear hC C
            clear hE27 a27
            refine wpList_nil (hK11 _ _ ?_)
            clear hK11 K11
            replace hE28 := hE28.keep (E' := [(0, _), (1, _), (4, _), (5, _), (11, _), (25, _), (50, _)]) ⟨rfl, rfl, rfl, rfl, rfl, rfl, rfl, trivial⟩
            refine wp_ret (hQ _ _ ?_)
            have ee : encB n = [239, 191, 189] := by first | exact encB_one (by omega) | exact encB_two (by omega) (by omega) | exact encB_three (by omega) (by omega) (by omega) | exact encB_four (by omega) (by omega) | exact encB_bad (by omega) (by omega)
            refine back1 hE28 rfl rfl (Mem.doneX ((A7, C7) : Option Addr × Nat) ?_ ?_)
            · rw [ee]
            · rw [ee]; exact hM2
      · intro hb3
        have ht3 := hb3
        try simp only [decide_eq_true_eq, decide_eq_false_iff_not, Bool.not_eq_true', Bool.not_eq_false', beq_iff_eq, Bool.and_eq_true, Bool.or_eq_true] at ht3
        refine oneOff hE13 rfl rfl hb3 rfl fun a14 hE14 => ?_
        clear hE13 a13
        refine oneOff hE14 rfl rfl hb3 rfl fun a15 hE15 => ?_
        clear hE14 a14
        refine one fun C hC => val hE15 (R.pickF hE15 rfl hb3 rfl) rfl fun a16 hE16 => hC _ _ ?_
        clear hC C
        clear hE15 a15
        refine one fun C hC => val hE16 (R.assign hE16 rfl) rfl fun a17 hE17 => hC _ _ ?_
        clear hC C
        clear hE16 a16
        replace hE17 := hE17.keep (E' := [(0, _), (1, _), (4, _), (5, _), (11, _), (25, _)]) ⟨rfl, rfl, rfl, rfl, rfl, rfl, trivial⟩
        refine wpList_nil (hK4 _ _ ?_)
        refine condF hE17 rfl rfl ?_
        refine wp_seq_k fun K12 hK12 => ?_
        refine wp_region_lit ?_
        refine one fun C hC => val hE17 (R.move hE17 rfl) rfl fun a18 hE18 => hC _ _ ?_
        clear hC C
        clear hE17 a17
        refine one fun C hC => val hE18 (R.gtr hE18 rfl rfl) rfl fun a19 hE19 => hC _ _ ?_
        clear hC C
        clear hE18 a18
        refine one fun C hC => val hE19 (R.move hE19 rfl) rfl fun a20 hE20 => hC _ _ ?_
        clear hC C
        clear hE19 a19
        refine splitE hE20 (x := .tmp 53) rfl ?_ ?_
        · intro hb4
          have ht4 := hb4
          try simp only [decide_eq_true_eq, decide_eq_false_iff_not, Bool.not_eq_true', Bool.not_eq_false', beq_iff_eq, Bool.and_eq_true, Bool.or_eq_true] at ht4
          refine oneOn hE20 rfl rfl hb4 fun C hC => val hE20 (R.move hE20 rfl) rfl fun a21 hE21 => hC _ _ ?_
          clear hC C
          clear hE20 a20
          refine oneOn hE21 rfl rfl hb4 fun C hC => val hE21 (R.leq hE21 rfl rfl) rfl fun a22 hE22 => hC _ _ ?_
          clear hC C
          clear hE21 a21
          refine one fun C hC => val hE22 (R.pickT hE22 rfl hb4 rfl) rfl fun a23 hE23 => hC _ _ ?_
          clear hC C
          clear hE22 a22
          refine one fun C hC => val hE23 (R.assign hE23 rfl) rfl fun a24 hE24 => hC _ _ ?_
          clear hC C
          clear hE23 a23
          refine wpList_nil (hK12 _ _ ?_)
          clear hK12 K12
          replace hE24 := hE24.keep (E' := [(0, _), (1, _), (4, _), (5, _), (11, _), (25, _), (50, _)]) ⟨rfl, rfl, rfl, rfl, rfl, rfl, rfl, trivial⟩
          refine condR hE24 rfl ?_ ?_
          · intro hb5
            have ht5 := hb5
            try simp only [decide_eq_true_eq, decide_eq_false_iff_not, Bool.not_eq_true', Bool.not_eq_false', beq_iff_eq, Bool.and_eq_true, Bool.or_eq_true] at ht5
            refine wp_seq_k fun K13 hK13 => ?_
            refine wp_region_lit ?_
            refine one fun C hC => val hE24 (R.move hE24 rfl) rfl fun a25 hE25 => hC _ _ ?_
            clear hC C
            clear hE24 a24
            refine one fun C hC => val hE25 (R.move hE25 rfl) rfl fun a26 hE26 => hC _ _ ?_
            clear hC C
            clear hE25 a25
            refine one fun C hC => val hE26 (R.shr hE26 rfl rfl (by decide) (by decide)) rfl fun a27 hE27 => hC _ _ ?_
            clear hC C
            clear hE26 a26
            refine one fun C hC => val hE27 (R.convInt hE27 (by rfl) (by rfl) rfl) rfl fun a28 hE28 => hC _ _ ?_
            clear hC C
            clear hE27 a27
            refine one fun C hC => val hE28 (R.or hE28 rfl rfl) rfl fun a29 hE29 => hC _ _ ?_
            clear hC C
            clear hE28 a28
            refine one fun C hC => val hE29 (R.move hE29 rfl) rfl fun a30 hE30 => hC _ _ ?_
            clear hC C
            clear hE29 a29
            refine one fun C hC => val hE30 (R.shr hE30 rfl rfl (by decide) (by decide)) rfl fun a31 hE31 => hC _ _ ?_
            clear hC C
            clear hE30 a30
            refine one fun C hC => val hE31 (R.convInt hE31 (by rfl) (by rfl) rfl) rfl fun a32 hE32 => hC _ _ ?_
            clear hC C
            clear hE31 a31
            refine one fun C hC => val hE32 (R.and hE32 rfl rfl) rfl fun a33 hE33 => hC _ _ ?_
            clear hC C
            clear hE32 a32
            refine one fun C hC => val hE33 (R.or hE33 rfl rfl) rfl fun a34 hE34 => hC _ _ ?_
            clear hC C
            clear hE33 a33
            refine one fun C hC => val hE34 (R.move hE34 rfl) rfl fun a35 hE35 => hC _ _ ?_
            clear hC C
            clear hE34 a34
            refine one fun C hC => val hE35 (R.shr hE35 rfl rfl (by decide) (by decide)) rfl fun a36 hE36 => hC _ _ ?_
            clear hC C
            clear hE35 a35
            refine one fun C hC => val hE36 (R.convInt hE36 (by rfl) (by rfl) rfl) rfl fun a37 hE37 => hC _ _ ?_
            clear hC C
            clear hE36 a36
            refine one fun C hC => val hE37 (R.and hE37 rfl rfl) rfl fun a38 hE38 => hC _ _ ?_
            clear hC C
            clear hE37 a37
            refine one fun C hC => val hE38 (R.or hE38 rfl rfl) rfl fun a39 hE39 => hC _ _ ?_
            clear hC C
            clear hE38 a38
            refine one fun C hC => val hE39 (R.move hE39 rfl) rfl fun a40 hE40 => hC _ _ ?_
            clear hC C
            clear hE39 a39
            refine one fun C hC => val hE40 (R.convInt hE40 (by rfl) (by rfl) rfl) rfl fun a41 hE41 => hC _ _ ?_
            clear hC C
            clear hE40 a40
            refine one fun C hC => val hE41 (R.and hE41 rfl rfl) rfl fun a42 hE42 => hC _ _ ?_
            clear hC C
            clear hE41 a41
            refine one fun C hC => val hE42 (R.or hE42 rfl rfl) rfl fun a43 hE43 => hC _ _ ?_
            clear hC C
            clear hE42 a42
            have e0 : bits .or .u8 240 (IntKind.u8.wrap ((n : Int) / 2 ^ ((18 : Int)).toNat)) = ((240 + n / 262144 : Nat) : Int) := by rw [show ((n : Int) / 2 ^ ((18 : Int)).toNat) = ((n / 2 ^ 18 : Nat) : Int) from shr_nat n 18]; exact or_head 240 8 (by decide) (q := n / 2 ^ 18) (by omega)
            have e1 : bits .or .u8 128 (bits .and .u8 (IntKind.u8.wrap ((n : Int) / 2 ^ ((12 : Int)).toNat)) 63) = ((128 + n / 4096 % 64 : Nat) : Int) := by rw [show ((n : Int) / 2 ^ ((12 : Int)).toNat) = ((n / 2 ^ 12 : Nat) : Int) from shr_nat n 12]; exact or_tail (n / 2 ^ 12)
            have e2 : bits .or .u8 128 (bits .and .u8 (IntKind.u8.wrap ((n : Int) / 2 ^ ((6 : Int)).toNat)) 63) = ((128 + n / 64 % 64 : Nat) : Int) := by rw [show ((n : Int) / 2 ^ ((6 : Int)).toNat) = ((n / 2 ^ 6 : Nat) : Int) from shr_nat n 6]; exact or_tail (n / 2 ^ 6)
            have e3 : bits .or .u8 128 (bits .and .u8 (IntKind.u8.wrap (n : Int)) 63) = ((128 + n % 64 : Nat) : Int) := or_tail n
            refine one fun C hC => litN (vs := [.int .u8 ((240 + n / 262144 : Nat) : Int), .int .u8 ((128 + n / 4096 % 64 : Nat) : Int), .int .u8 ((128 + n / 64 % 64 : Nat) : Int), .int .u8 ((128 + n % 64 : Nat) : Int)]) hE43 hM0 el_67 (by rw [← e0, ← e1, ← e2, ← e3]; rfl) (by intro v hv; simp at hv; rcases hv with rfl | rfl | rfl | rfl <;> rfl) rfl (by decide) (by decide) rfl fun b76 a44 w1 hE44 hM1 => hC _ _ ?_
            clear hC C hE43 hM0 a43
            refine one fun C hC => appendL (xs := zs) hE44 [((240 + n / 262144 : Nat) : Int), ((128 + n / 4096 % 64 : Nat) : Int), ((128 + n / 64 % 64 : Nat) : Int), ((128 + n % 64 : Nat) : Int)] el_67 rfl rfl hM1 rfl rfl rfl (by unfold maxLen; simp; omega) (by simp; omega) rfl  fun A7 C7 a45 w2 hE45 hM2 => hC _ _ ?_
            clear hC C hE44 hM1 a44
            refine one fun C hC => val hE45 (R.assign hE45 rfl) rfl fun a46 hE46 => hC _ _ ?_
            clear hC C
            clear hE45 a45
            refine wpList_nil (hK13 _ _ ?_)
            clear hK13 K13
            replace hE46 := hE46.keep (E' := [(0, _), (1, _), (4, _), (5, _), (11, _), (25, _), (50, _)]) ⟨rfl, rfl, rfl, rfl, rfl, rfl, rfl, trivial⟩
            refine wp_ret (hQ _ _ ?_)
            have ee : encB n = [((240 + n / 262144 : Nat) : Int), ((128 + n / 4096 % 64 : Nat) : Int), ((128 + n / 64 % 64 : Nat) : Int), ((128 + n % 64 : Nat) : Int)] := by first | exact encB_one (by omega) | exact encB_two (by omega) (by omega) | exact encB_three (by omega) (by omega) (by omega) | exact encB_four (by omega) (by omega) | exact encB_bad (by omega) (by omega)
            refine back1 hE46 rfl rfl (Mem.doneX ((A7, C7) : Option Addr × Nat) ?_ ?_)
            · rw [ee]
            · rw [ee]; exact hM2
          · intro hb5
            have ht5 := hb5
            try simp only [decide_eq_true_eq, decide_eq_false_iff_not, Bool.not_eq_true', Bool.not_eq_false', beq_iff_eq, Bool.and_eq_true, Bool.or_eq_true] at ht5
            refine wp_seq_k fun K14 hK14 => ?_
            refine wp_region_lit ?_
            refine one fun C hC => val hE24 (R.move hE24 rfl) rfl fun a25 hE25 => hC _ _ ?_
            clear hC C
            clear hE24 a24
            refine one fun C hC => litN (vs := [.int .u8 239, .int .u8 191, .int .u8 189]) hE25 hM0 el_67 (rfl) (by intro v hv; simp at hv; rcases hv with rfl | rfl | rfl <;> rfl) rfl (by decide) (by decide) rfl fun b9 a26 w1 hE26 hM1 => hC _ _ ?_
            clear hC C hE25 hM0 a25
            refine one fun C hC => appendL (xs := zs) hE26 [239, 191, 189] el_67 rfl rfl hM1 rfl rfl rfl (by unfold maxLen; simp; omega) (by simp; omega) rfl  fun A7 C7 a27 w2 hE27 hM2 => hC _ _ ?_
            clear hC C hE26 hM1 a26
            refine one fun C hC => val hE27 (R.assign hE27 rfl) rfl fun a28 hE28 => hC _ _ ?_
            clear hC C
            clear hE27 a27
            refine wpList_nil (hK14 _ _ ?_)
            clear hK14 K14
            replace hE28 := hE28.keep (E' := [(0, _), (1, _), (4, _), (5, _), (11, _), (25, _), (50, _)]) ⟨rfl, rfl, rfl, rfl, rfl, rfl, rfl, trivial⟩
            refine wp_ret (hQ _ _ ?_)
            have ee : encB n = [239, 191, 189] := by first | exact encB_one (by omega) | exact encB_two (by omega) (by omega) | exact encB_three (by omega) (by omega) (by omega) | exact encB_four (by omega) (by omega) | exact encB_bad (by omega) (by omega)
            refine back1 hE28 rfl rfl (Mem.doneX ((A7, C7) : Option Addr × Nat) ?_ ?_)
            · rw [ee]
            · rw [ee]; exact hM2
        · intro hb4
          have ht4 := hb4
          try simp only [decide_eq_true_eq, decide_eq_false_iff_not, Bool.not_eq_true', Bool.not_eq_false', beq_iff_eq, Bool.and_eq_true, Bool.or_eq_true] at ht4
          refine oneOff hE20 rfl rfl hb4 rfl fun a21 hE21 => ?_
          clear hE20 a20
          refine oneOff hE21 rfl rfl hb4 rfl fun a22 hE22 => ?_
          clear hE21 a21
          refine one fun C hC => val hE22 (R.pickF hE22 rfl hb4 rfl) rfl fun a23 hE23 => hC _ _ ?_
          clear hC C
          clear hE22 a22
          refine one fun C hC => val hE23 (R.assign hE23 rfl) rfl fun a24 hE24 => hC _ _ ?_
          clear hC C
          clear hE23 a23
          refine wpList_nil (hK12 _ _ ?_)
          clear hK12 K12
          replace hE24 := hE24.keep (E' := [(0, _), (1, _), (4, _), (5, _), (11, _), (25, _), (50, _)]) ⟨rfl, rfl, rfl, rfl, rfl, rfl, rfl, trivial⟩
          refine condF hE24 rfl rfl ?_
          refine wp_seq_k fun K15 hK15 => ?_
          refine wp_region_lit ?_
          refine one fun C hC => val hE24 (R.move hE24 rfl) rfl fun a25 hE25 => hC _ _ ?_
          clear hC C
          clear hE24 a24
          refine one fun C hC => litN (vs := [.int .u8 239, .int .u8 191, .int .u8 189]) hE25 hM0 el_67 (rfl) (by intro v hv; simp at hv; rcases hv with rfl | rfl | rfl <;> rfl) rfl (by decide) (by decide) rfl fun b9 a26 w1 hE26 hM1 => hC _ _ ?_
          clear hC C hE25 hM0 a25
          refine one fun C hC => appendL (xs := zs) hE26 [239, 191, 189] el_67 rfl rfl hM1 rfl rfl rfl (by unfold maxLen; simp; omega) (by simp; omega) rfl  fun A7 C7 a27 w2 hE27 hM2 => hC _ _ ?_
          clear hC C hE26 hM1 a26
          refine one fun C hC => val hE27 (R.assign hE27 rfl) rfl fun a28 hE28 => hC _ _ ?_
          clear hC C
          clear hE27 a27
          refine wpList_nil (hK15 _ _ ?_)
          clear hK15 K15
          replace hE28 := hE28.keep (E' := [(0, _), (1, _), (4, _), (5, _), (11, _), (25, _), (50, _)]) ⟨rfl, rfl, rfl, rfl, rfl, rfl, rfl, trivial⟩
          refine wp_ret (hQ _ _ ?_)
          have ee : encB n = [239, 191, 189] := by first | exact encB_one (by omega) | exact encB_two (by omega) (by omega) | exact encB_three (by omega) (by omega) (by omega) | exact encB_four (by omega) (by omega) | exact encB_bad (by omega) (by omega)
          refine back1 hE28 rfl rfl (Mem.doneX ((A7, C7) : Option Addr × Nat) ?_ ?_)
          · rw [ee]
          · rw [ee]; exact hM2

set_option maxHeartbeats 400000 in
theorem appendRune_c (a : Option Addr) (c : Nat) (zs : List Int) (n : Nat) (h1 : n ≤ 1114111) (hz : zs.length ≤ 1000000) : Fx Tryd.prog 52 [.slice a zs.length c, .int .i32 n] (row 5 1 (encInt .u8) a c zs) (fun q : Option Addr × Nat => .slice q.1 (zs ++ encB n).length q.2) (fun q => row 5 1 (encInt .u8) q.1 q.2 (zs ++ encB n)) := by
  intro β w0 F0 hM0
  refine enter Tryd.func52 (by rfl) 16 rfl rfl fun a0 Q hE0 hQ hN hP => ?_
  refine wp_seq_k fun K0 hK0 => ?_
  refine wp_region_lit ?_
  refine one fun C hC => val hE0 (R.assign hE0 rfl) rfl fun a1 hE1 => hC _ _ ?_
  clear hC C
  clear hE0 a0
  refine wpList_nil (hK0 _ _ ?_)
  clear hK0 K0
  replace hE1 := hE1.keep (E' := [(0, _), (1, _), (4, _)]) ⟨rfl, rfl, rfl, trivial⟩
  refine wp_seq_k fun K1 hK1 => ?_
  refine wp_seq_k fun K2 hK2 => ?_
  refine wp_region_lit ?_
  refine one fun C hC => val hE1 (R.move hE1 rfl) rfl fun a2 hE2 => hC _ _ ?_
  clear hC C
  clear hE1 a1
  refine one fun C hC => val hE2 (R.convU32 hE2 (by rfl) (by rfl) rfl (by omega) (by omega)) rfl fun a3 hE3 => hC _ _ ?_
  clear hC C
  clear hE2 a2
  refine one fun C hC => val hE3 (R.leq hE3 rfl rfl) rfl fun a4 hE4 => hC _ _ ?_
  clear hC C
  clear hE3 a3
  refine wpList_nil (hK2 _ _ ?_)
  clear hK2 K2
  replace hE4 := hE4.keep (E' := [(0, _), (1, _), (4, _), (7, _)]) ⟨rfl, rfl, rfl, rfl, trivial⟩
  refine condR hE4 rfl ?_ ?_
  · intro hb1
    have ht1 := hb1
    try simp only [decide_eq_true_eq, decide_eq_false_iff_not, Bool.not_eq_true', Bool.not_eq_false', beq_iff_eq, Bool.and_eq_true, Bool.or_eq_true] at ht1
    refine wp_seq_k fun K3 hK3 => ?_
    refine wp_region_lit ?_
    refine one fun C hC => val hE4 (R.move hE4 rfl) rfl fun a5 hE5 => hC _ _ ?_
    clear hC C
    clear hE4 a4
    refine one fun C hC => val hE5 (R.move hE5 rfl) rfl fun a6 hE6 => hC _ _ ?_
    clear hC C
    clear hE5 a5
    refine one fun C hC => val hE6 (R.convInt hE6 (by rfl) (by rfl) rfl) rfl fun a7 hE7 => hC _ _ ?_
    clear hC C
    clear hE6 a6
    have e0 : IntKind.u8.wrap (n : Int) = (n : Int) := by rw [IntKind.wrap_u8]; omega
    refine one fun C hC => litN (vs := [.int .u8 (n : Int)]) hE7 hM0 el_67 (by rw [show (Value.int .u8 (n : Int)) = Value.int .u8 (IntKind.u8.wrap (n : Int)) by rw [e0]]; rfl) (by intro v hv; simp at hv; rcases hv with rfl <;> rfl) rfl (by decide) (by decide) rfl fun b11 a8 w1 hE8 hM1 => hC _ _ ?_
    clear hC C hE7 hM0 a7
    refine one fun C hC => appendL (xs := zs) hE8 [(n : Int)] el_67 rfl rfl hM1 rfl rfl rfl (by unfold maxLen; simp; omega) (by simp; omega) rfl  fun A7 C7 a9 w2 hE9 hM2 => hC _ _ ?_
    clear hC C hE8 hM1 a8
    refine one fun C hC => val hE9 (R.assign hE9 rfl) rfl fun a10 hE10 => hC _ _ ?_
    clear hC C
    clear hE9 a9
    refine wpList_nil (hK3 _ _ ?_)
    clear hK3 K3
    replace hE10 := hE10.keep (E' := [(0, _), (1, _), (4, _), (7, _)]) ⟨rfl, rfl, rfl, rfl, trivial⟩
    refine wp_ret (hQ _ _ ?_)
    have ee : encB n = [(n : Int)] := by first | exact encB_one (by omega) | exact encB_two (by omega) (by omega) | exact encB_three (by omega) (by omega) (by omega) | exact encB_four (by omega) (by omega) | exact encB_bad (by omega) (by omega)
    refine back1 hE10 rfl rfl (Mem.doneX ((A7, C7) : Option Addr × Nat) ?_ ?_)
    · rw [ee]
    · rw [ee]; exact hM2
  · intro hb1
    have ht1 := hb1
    try simp only [decide_eq_true_eq, decide_eq_false_iff_not, Bool.not_eq_true', Bool.not_eq_false', beq_iff_eq, Bool.and_eq_true, Bool.or_eq_true] at ht1
    refine wp_skip (hK1 _ _ ?_)
    refine wp_seq_k fun K4 hK4 => ?_
    refine wp_region_lit ?_
    refine one fun C hC => val hE4 (R.move hE4 rfl) rfl fun a5 hE5 => hC _ _ ?_
    clear hC C
    clear hE4 a4
    refine one fun C hC => val hE5 (R.move hE5 rfl) rfl fun a6 hE6 => hC _ _ ?_
    clear hC C
    clear hE5 a5
    refine one fun C hC => callX hE6 (nonAscii_c a c zs n (by omega) h1 hz) cb_68 rfl hM0 rfl  fun q a7 w1 hE7 hM1 => hC _ _ ?_
    clear hC C hE6 hM0 a6
    refine one fun C hC => val hE7 (R.assign hE7 rfl) rfl fun a8 hE8 => hC _ _ ?_
    clear hC C
    clear hE7 a7
    refine wpList_nil (hK4 _ _ ?_)
    clear hK4 K4
    replace hE8 := hE8.keep (E' := [(0, _), (1, _), (4, _), (7, _)]) ⟨rfl, rfl, rfl, rfl, trivial⟩
    refine wp_ret (hQ _ _ ?_)
    refine back1 hE8 rfl rfl (Mem.doneX ((q.1, q.2) : Option Addr × Nat) rfl ?_)
    exact hM1

end Go.Sv
