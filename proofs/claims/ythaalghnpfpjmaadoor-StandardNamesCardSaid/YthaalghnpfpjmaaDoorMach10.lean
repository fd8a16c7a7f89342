import Derived.Test.YthaalghnpfpjmaaDoorProg
import Derived.Test.YthaalghnpfpjmaaDoorMach9
import Derived.Test.YthaalghnpfpjmaaDoorRules4
set_option linter.all false
set_option linter.unusedVariables false
set_option linter.unusedSimpArgs false
set_option maxRecDepth 100000
namespace Go.Sv
open Go.RowKit Go.Proofs
attribute [local irreducible] row pts star blk emp fact any attrsOf machAt tagAt

namespace FMach10
theorem cb_49 : callB Tryd.prog 49 = true := by kernel_rfl
theorem cb_50 : callB Tryd.prog 50 = true := by kernel_rfl
theorem el_50 : elemB Tryd.prog 50 21 1 4 = true := by kernel_rfl
theorem fb_93_1 : fieldB Tryd.prog 93 1 1 = true := by kernel_rfl
theorem fb_93_2 : fieldB Tryd.prog 93 2 2 = true := by kernel_rfl
theorem sc_21 : scalarB Tryd.prog 21 = true := by kernel_rfl
theorem sc_3 : scalarB Tryd.prog 3 = true := by kernel_rfl
end FMach10
open FMach10
theorem digitB_rng {r : Int} (h : digitB r = true) : 48 ≤ r ∧ r ≤ 57 := by simpa [digitB] using h
theorem valueR_rng (r : Int) : -1 ≤ valueR r ∧ valueR r ≤ 15 := by
  unfold valueR
  (repeat' split) <;> (try simp only [Bool.and_eq_true, decide_eq_true_eq] at *) <;> first | omega | (rename_i h; have := digitB_rng h; omega)

set_option maxHeartbeats 400000 in
theorem value_c (r : Int) (h0 : -1 ≤ r) (h1 : r ≤ 1114111) : Fn Tryd.prog 49 [.int .i32 r] (.int .i64 (valueR r)) := by
  intro β w0 F0 hM0
  replace hM0 := hM0.ofEmp
  refine enter Tryd.func49 (by rfl) 31 rfl rfl fun a0 Q hE0 hQ hN hP => ?_
  refine wp_seq_k fun K0 hK0 => ?_
  refine wp_region_lit ?_
  refine one fun C hC => val hE0 (R.assign hE0 rfl) rfl fun a1 hE1 => hC _ _ ?_
  clear hC C
  clear hE0 a0
  refine wpList_nil (hK0 _ _ ?_)
  clear hK0 K0
  replace hE1 := hE1.keep (E' := [(0, _), (2, _)]) ⟨rfl, rfl, trivial⟩
  refine wp_seq_k fun K1 hK1 => ?_
  refine wp_block ?_
  refine wp_seq_k fun K2 hK2 => ?_
  refine wp_region_lit ?_
  refine one fun C hC => val hE1 (R.move hE1 rfl) rfl fun a2 hE2 => hC _ _ ?_
  clear hC C
  clear hE1 a1
  refine one fun C hC => callF hE2 (digit_c _) cb_50 rfl hM0 rfl  fun  a3 w1 hE3 hM1 => hC _ _ ?_
  clear hC C hE2 hM0 a2
  refine one fun C hC => val hE3 (R.assign hE3 rfl) rfl fun a4 hE4 => hC _ _ ?_
  clear hC C
  clear hE3 a3
  refine wpList_nil (hK2 _ _ ?_)
  clear hK2 K2
  replace hE4 := hE4.keep (E' := [(0, _), (2, _), (3, _)]) ⟨rfl, rfl, rfl, trivial⟩
  refine condR hE4 rfl ?_ ?_
  · intro hb1
    have ht1 := hb1
    try simp only [decide_eq_true_eq, decide_eq_false_iff_not, Bool.not_eq_true', Bool.not_eq_false', beq_iff_eq, Bool.and_eq_true, Bool.or_eq_true] at ht1
    refine wp_seq_k fun K3 hK3 => ?_
    refine wp_region_lit ?_
    refine one fun C hC => val hE4 (R.move hE4 rfl) rfl fun a5 hE5 => hC _ _ ?_
    clear hC C
    clear hE4 a4
    refine one fun C hC => val hE5 (R.sub32 hE5 rfl rfl (by have := digitB_rng ht1; omega) (by have := digitB_rng ht1; omega)) rfl fun a6 hE6 => hC _ _ ?_
    clear hC C
    clear hE5 a5
    refine one fun C hC => val hE6 (R.conv64 hE6 (by rfl) (by rfl) rfl (by have := digitB_rng ht1; omega) (by have := digitB_rng ht1; omega)) rfl fun a7 hE7 => hC _ _ ?_
    clear hC C
    clear hE6 a6
    refine one fun C hC => val hE7 (R.assign hE7 rfl) rfl fun a8 hE8 => hC _ _ ?_
    clear hC C
    clear hE7 a7
    refine wpList_nil (hK3 _ _ ?_)
    clear hK3 K3
    replace hE8 := hE8.keep (E' := [(0, _), (2, _), (3, _)]) ⟨rfl, rfl, rfl, trivial⟩
    refine wp_ret (hQ _ _ ?_)
    refine back1 hE8 rfl rfl (Mem.mkFact ?_ hM1)
    first | rfl | (simp [valueR, ht1]; done) | (simp [valueR, ht1]; omega)
  · intro hb1
    have ht1 := hb1
    try simp only [decide_eq_true_eq, decide_eq_false_iff_not, Bool.not_eq_true', Bool.not_eq_false', beq_iff_eq, Bool.and_eq_true, Bool.or_eq_true] at ht1
    refine wp_seq_k fun K4 hK4 => ?_
    refine wp_region_lit ?_
    refine one fun C hC => val hE4 (R.move hE4 rfl) rfl fun a5 hE5 => hC _ _ ?_
    clear hC C
    clear hE4 a4
    refine one fun C hC => val hE5 (R.geq hE5 rfl rfl) rfl fun a6 hE6 => hC _ _ ?_
    clear hC C
    clear hE5 a5
    refine one fun C hC => val hE6 (R.move hE6 rfl) rfl fun a7 hE7 => hC _ _ ?_
    clear hC C
    clear hE6 a6
    refine splitE hE7 (x := .tmp 12) rfl ?_ ?_
    · intro hb2
      have ht2 := hb2
      try simp only [decide_eq_true_eq, decide_eq_false_iff_not, Bool.not_eq_true', Bool.not_eq_false', beq_iff_eq, Bool.and_eq_true, Bool.or_eq_true] at ht2
      refine oneOn hE7 rfl rfl hb2 fun C hC => val hE7 (R.move hE7 rfl) rfl fun a8 hE8 => hC _ _ ?_
      clear hC C
      clear hE7 a7
      refine oneOn hE8 rfl rfl hb2 fun C hC => val hE8 (R.leq hE8 rfl rfl) rfl fun a9 hE9 => hC _ _ ?_
      clear hC C
      clear hE8 a8
      refine one fun C hC => val hE9 (R.pickT hE9 rfl hb2 rfl) rfl fun a10 hE10 => hC _ _ ?_
      clear hC C
      clear hE9 a9
      refine one fun C hC => val hE10 (R.assign hE10 rfl) rfl fun a11 hE11 => hC _ _ ?_
      clear hC C
      clear hE10 a10
      refine wpList_nil (hK4 _ _ ?_)
      clear hK4 K4
      replace hE11 := hE11.keep (E' := [(0, _), (2, _), (3, _), (9, _)]) ⟨rfl, rfl, rfl, rfl, trivial⟩
      refine condR hE11 rfl ?_ ?_
      · intro hb3
        have ht3 := hb3
        try simp only [decide_eq_true_eq, decide_eq_false_iff_not, Bool.not_eq_true', Bool.not_eq_false', beq_iff_eq, Bool.and_eq_true, Bool.or_eq_true] at ht3
        refine wp_seq_k fun K5 hK5 => ?_
        refine wp_region_lit ?_
        refine one fun C hC => val hE11 (R.move hE11 rfl) rfl fun a12 hE12 => hC _ _ ?_
        clear hC C
        clear hE11 a11
        refine one fun C hC => val hE12 (R.sub32 hE12 rfl rfl (by omega) (by omega)) rfl fun a13 hE13 => hC _ _ ?_
        clear hC C
        clear hE12 a12
        refine one fun C hC => val hE13 (R.conv64 hE13 (by rfl) (by rfl) rfl (by omega) (by omega)) rfl fun a14 hE14 => hC _ _ ?_
        clear hC C
        clear hE13 a13
        refine one fun C hC => val hE14 (R.add64 hE14 rfl rfl (by omega) (by omega)) rfl fun a15 hE15 => hC _ _ ?_
        clear hC C
        clear hE14 a14
        refine one fun C hC => val hE15 (R.assign hE15 rfl) rfl fun a16 hE16 => hC _ _ ?_
        clear hC C
        clear hE15 a15
        refine wpList_nil (hK5 _ _ ?_)
        clear hK5 K5
        replace hE16 := hE16.keep (E' := [(0, _), (2, _), (3, _), (9, _)]) ⟨rfl, rfl, rfl, rfl, trivial⟩
        refine wp_ret (hQ _ _ ?_)
        refine back1 hE16 rfl rfl (Mem.mkFact ?_ hM1)
        first | rfl | (simp [valueR, ht1, ht2, ht3]; done) | (simp [valueR, ht1, ht2, ht3]; omega)
      · intro hb3
        have ht3 := hb3
        try simp only [decide_eq_true_eq, decide_eq_false_iff_not, Bool.not_eq_true', Bool.not_eq_false', beq_iff_eq, Bool.and_eq_true, Bool.or_eq_true] at ht3
        refine wp_seq_k fun K6 hK6 => ?_
        refine wp_region_lit ?_
        refine one fun C hC => val hE11 (R.move hE11 rfl) rfl fun a12 hE12 => hC _ _ ?_
        clear hC C
        clear hE11 a11
        refine one fun C hC => val hE12 (R.geq hE12 rfl rfl) rfl fun a13 hE13 => hC _ _ ?_
        clear hC C
        clear hE12 a12
        refine one fun C hC => val hE13 (R.move hE13 rfl) rfl fun a14 hE14 => hC _ _ ?_
        clear hC C
        clear hE13 a13
        refine splitE hE14 (x := .tmp 23) rfl ?_ ?_
        · intro hb4
          have ht4 := hb4
          try simp only [decide_eq_true_eq, decide_eq_false_iff_not, Bool.not_eq_true', Bool.not_eq_false', beq_iff_eq, Bool.and_eq_true, Bool.or_eq_true] at ht4
          refine oneOn hE14 rfl rfl hb4 fun C hC => val hE14 (R.move hE14 rfl) rfl fun a15 hE15 => hC _ _ ?_
          clear hC C
          clear hE14 a14
          refine oneOn hE15 rfl rfl hb4 fun C hC => val hE15 (R.leq hE15 rfl rfl) rfl fun a16 hE16 => hC _ _ ?_
          clear hC C
          clear hE15 a15
          refine one fun C hC => val hE16 (R.pickT hE16 rfl hb4 rfl) rfl fun a17 hE17 => hC _ _ ?_
          clear hC C
          clear hE16 a16
          refine one fun C hC => val hE17 (R.assign hE17 rfl) rfl fun a18 hE18 => hC _ _ ?_
          clear hC C
          clear hE17 a17
          refine wpList_nil (hK6 _ _ ?_)
          clear hK6 K6
          replace hE18 := hE18.keep (E' := [(0, _), (2, _), (3, _), (9, _), (20, _)]) ⟨rfl, rfl, rfl, rfl, rfl, trivial⟩
          refine condR hE18 rfl ?_ ?_
          · intro hb5
            have ht5 := hb5
            try simp only [decide_eq_true_eq, decide_eq_false_iff_not, Bool.not_eq_true', Bool.not_eq_false', beq_iff_eq, Bool.and_eq_true, Bool.or_eq_true] at ht5
            refine wp_seq_k fun K7 hK7 => ?_
            refine wp_region_lit ?_
            refine one fun C hC => val hE18 (R.move hE18 rfl) rfl fun a19 hE19 => hC _ _ ?_
            clear hC C
            clear hE18 a18
            refine one fun C hC => val hE19 (R.sub32 hE19 rfl rfl (by omega) (by omega)) rfl fun a20 hE20 => hC _ _ ?_
            clear hC C
            clear hE19 a19
            refine one fun C hC => val hE20 (R.conv64 hE20 (by rfl) (by rfl) rfl (by omega) (by omega)) rfl fun a21 hE21 => hC _ _ ?_
            clear hC C
            clear hE20 a20
            refine one fun C hC => val hE21 (R.add64 hE21 rfl rfl (by omega) (by omega)) rfl fun a22 hE22 => hC _ _ ?_
            clear hC C
            clear hE21 a21
            refine one fun C hC => val hE22 (R.assign hE22 rfl) rfl fun a23 hE23 => hC _ _ ?_
            clear hC C
            clear hE22 a22
            refine wpList_nil (hK7 _ _ ?_)
            clear hK7 K7
            replace hE23 := hE23.keep (E' := [(0, _), (2, _), (3, _), (9, _), (20, _)]) ⟨rfl, rfl, rfl, rfl, rfl, trivial⟩
            refine wp_ret (hQ _ _ ?_)
            refine back1 hE23 rfl rfl (Mem.mkFact ?_ hM1)
            first | rfl | (simp [valueR, ht1, ht2, ht3, ht4, ht5]; done) | (simp [valueR, ht1, ht2, ht3, ht4, ht5]; omega)
          · intro hb5
            have ht5 := hb5
            try simp only [decide_eq_true_eq, decide_eq_false_iff_not, Bool.not_eq_true', Bool.not_eq_false', beq_iff_eq, Bool.and_eq_true, Bool.or_eq_true] at ht5
            refine wp_skip (hK1 _ _ ?_)
            refine wp_seq_k fun K8 hK8 => ?_
            refine wp_region_lit ?_
            refine one fun C hC => val hE18 (R.assign hE18 rfl) rfl fun a19 hE19 => hC _ _ ?_
            clear hC C
            clear hE18 a18
            refine wpList_nil (hK8 _ _ ?_)
            clear hK8 K8
            replace hE19 := hE19.keep (E' := [(0, _), (2, _), (3, _), (9, _), (20, _)]) ⟨rfl, rfl, rfl, rfl, rfl, trivial⟩
            refine wp_ret (hQ _ _ ?_)
            refine back1 hE19 rfl rfl (Mem.mkFact ?_ hM1)
            first | rfl | (simp [valueR, ht1, ht2, ht3, ht4, ht5]; done) | (simp [valueR, ht1, ht2, ht3, ht4, ht5]; omega)
        · intro hb4
          have ht4 := hb4
          try simp only [decide_eq_true_eq, decide_eq_false_iff_not, Bool.not_eq_true', Bool.not_eq_false', beq_iff_eq, Bool.and_eq_true, Bool.or_eq_true] at ht4
          refine oneOff hE14 rfl rfl hb4 rfl fun a15 hE15 => ?_
          clear hE14 a14
          refine oneOff hE15 rfl rfl hb4 rfl fun a16 hE16 => ?_
          clear hE15 a15
          refine one fun C hC => val hE16 (R.pickF hE16 rfl hb4 rfl) rfl fun a17 hE17 => hC _ _ ?_
          clear hC C
          clear hE16 a16
          refine one fun C hC => val hE17 (R.assign hE17 rfl) rfl fun a18 hE18 => hC _ _ ?_
          clear hC C
          clear hE17 a17
          refine wpList_nil (hK6 _ _ ?_)
          clear hK6 K6
          replace hE18 := hE18.keep (E' := [(0, _), (2, _), (3, _), (9, _), (20, _)]) ⟨rfl, rfl, rfl, rfl, rfl, trivial⟩
          refine condF hE18 rfl rfl ?_
          refine wp_skip (hK1 _ _ ?_)
          refine wp_seq_k fun K9 hK9 => ?_
          refine wp_region_lit ?_
          refine one fun C hC => val hE18 (R.assign hE18 rfl) rfl fun a19 hE19 => hC _ _ ?_
          clear hC C
          clear hE18 a18
          refine wpList_nil (hK9 _ _ ?_)
          clear hK9 K9
          replace hE19 := hE19.keep (E' := [(0, _), (2, _), (3, _), (9, _), (20, _)]) ⟨rfl, rfl, rfl, rfl, rfl, trivial⟩
          refine wp_ret (hQ _ _ ?_)
          refine back1 hE19 rfl rfl (Mem.mkFact ?_ hM1)
          first | rfl | (simp [valueR, ht1, ht2, ht3, ht4]; done) | (simp [valueR, ht1, ht2, ht3, ht4]; omega)
    · intro hb2
      have ht2 := hb2
      try simp only [decide_eq_true_eq, decide_eq_false_iff_not, Bool.not_eq_true', Bool.not_eq_false', beq_iff_eq, Bool.and_eq_true, Bool.or_eq_true] at ht2
      refine oneOff hE7 rfl rfl hb2 rfl fun a8 hE8 => ?_
      clear hE7 a7
      refine oneOff hE8 rfl rfl hb2 rfl fun a9 hE9 => ?_
      clear hE8 a8
      refine one fun C hC => val hE9 (R.pickF hE9 rfl hb2 rfl) rfl fun a10 hE10 => hC _ _ ?_
      clear hC C
      clear hE9 a9
      refine one fun C hC => val hE10 (R.assign hE10 rfl) rfl fun a11 hE11 => hC _ _ ?_
      clear hC C
      clear hE10 a10
      refine wpList_nil (hK4 _ _ ?_)
      clear hK4 K4
      replace hE11 := hE11.keep (E' := [(0, _), (2, _), (3, _), (9, _)]) ⟨rfl, rfl, rfl, rfl, trivial⟩
      refine condF hE11 rfl rfl ?_
      refine wp_seq_k fun K10 hK10 => ?_
      refine wp_region_lit ?_
      refine one fun C hC => val hE11 (R.move hE11 rfl) rfl fun a12 hE12 => hC _ _ ?_
      clear hC C
      clear hE11 a11
      refine one fun C hC => val hE12 (R.geq hE12 rfl rfl) rfl fun a13 hE13 => hC _ _ ?_
      clear hC C
      clear hE12 a12
      refine one fun C hC => val hE13 (R.move hE13 rfl) rfl fun a14 hE14 => hC _ _ ?_
      clear hC C
      clear hE13 a13
      refine splitE hE14 (x := .tmp 23) rfl ?_ ?_
      · intro hb3
        have ht3 := hb3
        try simp only [decide_eq_true_eq, decide_eq_false_iff_not, Bool.not_eq_true', Bool.not_eq_false', beq_iff_eq, Bool.and_eq_true, Bool.or_eq_true] at ht3
        refine oneOn hE14 rfl rfl hb3 fun C hC => val hE14 (R.move hE14 rfl) rfl fun a15 hE15 => hC _ _ ?_
        clear hC C
        clear hE14 a14
        refine oneOn hE15 rfl rfl hb3 fun C hC => val hE15 (R.leq hE15 rfl rfl) rfl fun a16 hE16 => hC _ _ ?_
        clear hC C
        clear hE15 a15
        refine one fun C hC => val hE16 (R.pickT hE16 rfl hb3 rfl) rfl fun a17 hE17 => hC _ _ ?_
        clear hC C
        clear hE16 a16
        refine one fun C hC => val hE17 (R.assign hE17 rfl) rfl fun a18 hE18 => hC _ _ ?_
        clear hC C
        clear hE17 a17
        refine wpList_nil (hK10 _ _ ?_)
        clear hK10 K10
        replace hE18 := hE18.keep (E' := [(0, _), (2, _), (3, _), (9, _), (20, _)]) ⟨rfl, rfl, rfl, rfl, rfl, trivial⟩
        refine condR hE18 rfl ?_ ?_
        · intro hb4
          have ht4 := hb4
          try simp only [decide_eq_true_eq, decide_eq_false_iff_not, Bool.not_eq_true', Bool.not_eq_false', beq_iff_eq, Bool.and_eq_true, Bool.or_eq_true] at ht4
          refine wp_seq_k fun K11 hK11 => ?_
          refine wp_region_lit ?_
          refine one fun C hC => val hE18 (R.move hE18 rfl) rfl fun a19 hE19 => hC _ _ ?_
          clear hC C
          clear hE18 a18
          refine one fun C hC => val hE19 (R.sub32 hE19 rfl rfl (by omega) (by omega)) rfl fun a20 hE20 => hC _ _ ?_
          clear hC C
          clear hE19 a19
          refine one fun C hC => val hE20 (R.conv64 hE20 (by rfl) (by rfl) rfl (by omega) (by omega)) rfl fun a21 hE21 => hC _ _ ?_
          clear hC C
          clear hE20 a20
          refine one fun C hC => val hE21 (R.add64 hE21 rfl rfl (by omega) (by omega)) rfl fun a22 hE22 => hC _ _ ?_
          clear hC C
          clear hE21 a21
          refine one fun C hC => val hE22 (R.assign hE22 rfl) rfl fun a23 hE23 => hC _ _ ?_
          clear hC C
          clear hE22 a22
          refine wpList_nil (hK11 _ _ ?_)
          clear hK11 K11
          replace hE23 := hE23.keep (E' := [(0, _), (2, _), (3, _), (9, _), (20, _)]) ⟨rfl, rfl, rfl, rfl, rfl, trivial⟩
          refine wp_ret (hQ _ _ ?_)
          refine back1 hE23 rfl rfl (Mem.mkFact ?_ hM1)
          first | rfl | (simp [valueR, ht1, ht2, ht3, ht4]; done) | (simp [valueR, ht1, ht2, ht3, ht4]; omega)
        · intro hb4
          have ht4 := hb4
          try simp only [decide_eq_true_eq, decide_eq_false_iff_not, Bool.not_eq_true', Bool.not_eq_false', beq_iff_eq, Bool.and_eq_true, Bool.or_eq_true] at ht4
          refine wp_skip (hK1 _ _ ?_)
          refine wp_seq_k fun K12 hK12 => ?_
          refine wp_region_lit ?_
          refine one fun C hC => val hE18 (R.assign hE18 rfl) rfl fun a19 hE19 => hC _ _ ?_
          clear hC C
          clear hE18 a18
          refine wpList_nil (hK12 _ _ ?_)
          clear hK12 K12
          replace hE19 := hE19.keep (E' := [(0, _), (2, _), (3, _), (9, _), (20, _)]) ⟨rfl, rfl, rfl, rfl, rfl, trivial⟩
          refine wp_ret (hQ _ _ ?_)
          refine back1 hE19 rfl rfl (Mem.mkFact ?_ hM1)
          first | rfl | (simp [valueR, ht1, ht2, ht3, ht4]; done) | (simp [valueR, ht1, ht2, ht3, ht4]; omega)
      · intro hb3
        have ht3 := hb3
        try simp only [decide_eq_true_eq, decide_eq_false_iff_not, Bool.not_eq_true', Bool.not_eq_false', beq_iff_eq, Bool.and_eq_true, Bool.or_eq_true] at ht3
        refine oneOff hE14 rfl rfl hb3 rfl fun a15 hE15 => ?_
        clear hE14 a14
        refine oneOff hE15 rfl rfl hb3 rfl fun a16 hE16 => ?_
        clear hE15 a15
        refine one fun C hC => val hE16 (R.pickF hE16 rfl hb3 rfl) rfl fun a17 hE17 => hC _ _ ?_
        clear hC C
        clear hE16 a16
        refine one fun C hC => val hE17 (R.assign hE17 rfl) rfl fun a18 hE18 => hC _ _ ?_
        clear hC C
        clear hE17 a17
        refine wpList_nil (hK10 _ _ ?_)
        clear hK10 K10
        replace hE18 := hE18.keep (E' := [(0, _), (2, _), (3, _), (9, _), (20, _)]) ⟨rfl, rfl, rfl, rfl, rfl, trivial⟩
        refine condF hE18 rfl rfl ?_
        refine wp_skip (hK1 _ _ ?_)
        refine wp_seq_k fun K13 hK13 => ?_
        refine wp_region_lit ?_
        refine one fun C hC => val hE18 (R.assign hE18 rfl) rfl fun a19 hE19 => hC _ _ ?_
        clear hC C
        clear hE18 a18
        refine wpList_nil (hK13 _ _ ?_)
        clear hK13 K13
        replace hE19 := hE19.keep (E' := [(0, _), (2, _), (3, _), (9, _), (20, _)]) ⟨rfl, rfl, rfl, rfl, rfl, trivial⟩
        refine wp_ret (hQ _ _ ?_)
        refine back1 hE19 rfl rfl (Mem.mkFact ?_ hM1)
        first | rfl | (simp [valueR, ht1, ht2, ht3]; done) | (simp [valueR, ht1, ht2, ht3]; omega)

set_option maxHeartbeats 400000 in
theorem digitOf_c (c : Nat) (base r : Int) (h0 : -1 ≤ r) (h1 : r ≤ 1114111) : Fm Tryd.prog 48 [.int .i32 r, .pointer (some ⟨c, 0, none⟩)] (pts c 3 [.int .i64 base]) (.int .i64 (digitOf base r)) (pts c 3 [.int .i64 base]) := by
  intro β w0 F0 hM0
  refine enter Tryd.func48 (by rfl) 15 rfl rfl fun a0 Q hE0 hQ hN hP => ?_
  refine wp_seq_k fun K0 hK0 => ?_
  refine wp_region_lit ?_
  refine one fun C hC => val hE0 (R.assign hE0 rfl) rfl fun a1 hE1 => hC _ _ ?_
  clear hC C
  clear hE0 a0
  refine wpList_nil (hK0 _ _ ?_)
  clear hK0 K0
  replace hE1 := hE1.keep (E' := [(0, _), (1, _), (3, _)]) ⟨rfl, rfl, rfl, trivial⟩
  refine wp_seq_k fun K1 hK1 => ?_
  refine wp_seq_k fun K2 hK2 => ?_
  refine wp_region_lit ?_
  refine one fun C hC => val hE1 (R.move hE1 rfl) rfl fun a2 hE2 => hC _ _ ?_
  clear hC C
  clear hE1 a1
  refine one fun C hC => callF hE2 (value_c _ (by omega) (by omega)) cb_49 rfl hM0 rfl  fun  a3 w1 hE3 hM1 => hC _ _ ?_
  clear hC C hE2 hM0 a2
  refine one fun C hC => val hE3 (R.assign hE3 rfl) rfl fun a4 hE4 => hC _ _ ?_
  clear hC C
  clear hE3 a3
  refine wpList_nil (hK2 _ _ ?_)
  clear hK2 K2
  replace hE4 := hE4.keep (E' := [(0, _), (1, _), (3, _), (4, _)]) ⟨rfl, rfl, rfl, rfl, trivial⟩
  refine wp_seq_k fun K3 hK3 => ?_
  refine wp_region_lit ?_
  refine one fun C hC => val hE4 (R.move hE4 rfl) rfl fun a5 hE5 => hC _ _ ?_
  clear hC C
  clear hE4 a4
  refine one fun C hC => val hE5 (R.geq hE5 rfl rfl) rfl fun a6 hE6 => hC _ _ ?_
  clear hC C
  clear hE5 a5
  refine one fun C hC => val hE6 (R.move hE6 rfl) rfl fun a7 hE7 => hC _ _ ?_
  clear hC C
  clear hE6 a6
  refine splitE hE7 (x := .tmp 9) rfl ?_ ?_
  · intro hb1
    have ht1 := hb1
    try simp only [decide_eq_true_eq, decide_eq_false_iff_not, Bool.not_eq_true', Bool.not_eq_false', beq_iff_eq, Bool.and_eq_true, Bool.or_eq_true] at ht1
    refine oneOn hE7 rfl rfl hb1 fun C hC => val hE7 (R.move hE7 rfl) rfl fun a8 hE8 => hC _ _ ?_
    clear hC C
    clear hE7 a7
    refine oneOn hE8 rfl rfl hb1 fun C hC => val hE8 (R.load hE8 sc_3 rfl hM1 (by rfl)) rfl fun a9 hE9 => hC _ _ ?_
    clear hC C
    clear hE8 a8
    refine oneOn hE9 rfl rfl hb1 fun C hC => val hE9 (R.lss hE9 rfl rfl) rfl fun a10 hE10 => hC _ _ ?_
    clear hC C
    clear hE9 a9
    refine one fun C hC => val hE10 (R.pickT hE10 rfl hb1 rfl) rfl fun a11 hE11 => hC _ _ ?_
    clear hC C
    clear hE10 a10
    refine wpList_nil (hK3 _ _ ?_)
    clear hK3 K3
    replace hE11 := hE11.keep (E' := [(0, _), (1, _), (3, _), (4, _), (13, _)]) ⟨rfl, rfl, rfl, rfl, rfl, trivial⟩
    refine condR hE11 rfl ?_ ?_
    · intro hb2
      have ht2 := hb2
      try simp only [decide_eq_true_eq, decide_eq_false_iff_not, Bool.not_eq_true', Bool.not_eq_false', beq_iff_eq, Bool.and_eq_true, Bool.or_eq_true] at ht2
      refine wp_seq_k fun K4 hK4 => ?_
      refine wp_region_lit ?_
      refine one fun C hC => val hE11 (R.move hE11 rfl) rfl fun a12 hE12 => hC _ _ ?_
      clear hC C
      clear hE11 a11
      refine one fun C hC => val hE12 (R.assign hE12 rfl) rfl fun a13 hE13 => hC _ _ ?_
      clear hC C
      clear hE12 a12
      refine wpList_nil (hK4 _ _ ?_)
      clear hK4 K4
      replace hE13 := hE13.keep (E' := [(0, _), (1, _), (3, _), (4, _), (13, _)]) ⟨rfl, rfl, rfl, rfl, rfl, trivial⟩
      refine wp_ret (hQ _ _ ?_)
      refine back1 hE13 rfl rfl (Mem.done ?_ hM1)
      first | (simp [digitOf, *]; done) | (simp [digitOf]; omega) | (simp [digitOf, *]; omega)
    · intro hb2
      have ht2 := hb2
      try simp only [decide_eq_true_eq, decide_eq_false_iff_not, Bool.not_eq_true', Bool.not_eq_false', beq_iff_eq, Bool.and_eq_true, Bool.or_eq_true] at ht2
      refine wp_skip (hK1 _ _ ?_)
      refine wp_seq_k fun K5 hK5 => ?_
      refine wp_region_lit ?_
      refine one fun C hC => val hE11 (R.assign hE11 rfl) rfl fun a12 hE12 => hC _ _ ?_
      clear hC C
      clear hE11 a11
      refine wpList_nil (hK5 _ _ ?_)
      clear hK5 K5
      replace hE12 := hE12.keep (E' := [(0, _), (1, _), (3, _), (4, _), (13, _)]) ⟨rfl, rfl, rfl, rfl, rfl, trivial⟩
      refine wp_ret (hQ _ _ ?_)
      refine back1 hE12 rfl rfl (Mem.done ?_ hM1)
      first | (simp [digitOf, *]; done) | (simp [digitOf]; omega) | (simp [digitOf, *]; omega)
  · intro hb1
    have ht1 := hb1
    try simp only [decide_eq_true_eq, decide_eq_false_iff_not, Bool.not_eq_true', Bool.not_eq_false', beq_iff_eq, Bool.and_eq_true, Bool.or_eq_true] at ht1
    refine oneOff hE7 rfl rfl hb1 rfl fun a8 hE8 => ?_
    clear hE7 a7
    refine oneOff hE8 rfl rfl hb1 rfl fun a9 hE9 => ?_
    clear hE8 a8
    refine oneOff hE9 rfl rfl hb1 rfl fun a10 hE10 => ?_
    clear hE9 a9
    refine one fun C hC => val hE10 (R.pickF hE10 rfl hb1 rfl) rfl fun a11 hE11 => hC _ _ ?_
    clear hC C
    clear hE10 a10
    refine wpList_nil (hK3 _ _ ?_)
    clear hK3 K3
    replace hE11 := hE11.keep (E' := [(0, _), (1, _), (3, _), (4, _), (13, _)]) ⟨rfl, rfl, rfl, rfl, rfl, trivial⟩
    refine condF hE11 rfl rfl ?_
    refine wp_skip (hK1 _ _ ?_)
    refine wp_seq_k fun K6 hK6 => ?_
    refine wp_region_lit ?_
    refine one fun C hC => val hE11 (R.assign hE11 rfl) rfl fun a12 hE12 => hC _ _ ?_
    clear hC C
    clear hE11 a11
    refine wpList_nil (hK6 _ _ ?_)
    clear hK6 K6
    replace hE12 := hE12.keep (E' := [(0, _), (1, _), (3, _), (4, _), (13, _)]) ⟨rfl, rfl, rfl, rfl, rfl, trivial⟩
    refine wp_ret (hQ _ _ ?_)
    refine back1 hE12 rfl rfl (Mem.done ?_ hM1)
    first | (simp [digitOf, *]; done) | (simp [digitOf]; omega) | (simp [digitOf, *]; omega)

set_option maxHeartbeats 400000 in
theorem says_c (x : Ent) (nm : ByteArray) : Fx Tryd.prog 55 [.agg #[.string nm, .int .i32 x.first, .int .i32 x.second, .bool x.bare]] emp (fun q : Option Addr × Nat => .slice q.1 x.says.length q.2) (fun q => row 21 1 rune q.1 q.2 x.says) := by
  intro β w0 F0 hM0
  replace hM0 := hM0.ofEmp
  refine enter Tryd.func55 (by rfl) 14 rfl rfl fun a0 Q hE0 hQ hN hP => ?_
  refine wp_seq_k fun K0 hK0 => ?_
  refine wp_region_lit ?_
  refine one fun C hC => box hE0 hM0 rfl [.string nm, .int .i32 x.first, .int .i32 x.second, .bool x.bare] rfl rfl  fun b1 a1 w1 hE1 hM1 => hC _ _ ?_
  clear hC C hE0 hM0 a0
  refine one fun C hC => val hE1 (R.assign hE1 rfl) rfl fun a2 hE2 => hC _ _ ?_
  clear hC C
  clear hE1 a1
  refine wpList_nil (hK0 _ _ ?_)
  clear hK0 K0
  replace hE2 := hE2.keep (E' := [(0, _), (1, _), (2, _)]) ⟨rfl, rfl, rfl, trivial⟩
  refine wp_seq_k fun K1 hK1 => ?_
  refine wp_seq_k fun K2 hK2 => ?_
  refine wp_region_lit ?_
  refine one fun C hC => val hE2 (R.fieldAddr hE2 93 2 2 fb_93_2 rfl) rfl fun a3 hE3 => hC _ _ ?_
  clear hC C
  clear hE2 a2
  refine one fun C hC => val hE3 (R.load hE3 sc_21 rfl hM1 (by rfl)) rfl fun a4 hE4 => hC _ _ ?_
  clear hC C
  clear hE3 a3
  refine one fun C hC => val hE4 (R.neq hE4 rfl rfl) rfl fun a5 hE5 => hC _ _ ?_
  clear hC C
  clear hE4 a4
  refine wpList_nil (hK2 _ _ ?_)
  clear hK2 K2
  replace hE5 := hE5.keep (E' := [(0, _), (1, _), (2, _), (5, _)]) ⟨rfl, rfl, rfl, rfl, trivial⟩
  refine condR hE5 rfl ?_ ?_
  · intro hb1
    have ht1 := hb1
    try simp only [decide_eq_true_eq, decide_eq_false_iff_not, Bool.not_eq_true', Bool.not_eq_false', beq_iff_eq, Bool.and_eq_true, Bool.or_eq_true] at ht1
    refine wp_seq_k fun K3 hK3 => ?_
    refine wp_region_lit ?_
    refine one fun C hC => val hE5 (R.fieldAddr hE5 93 1 1 fb_93_1 rfl) rfl fun a6 hE6 => hC _ _ ?_
    clear hC C
    clear hE5 a5
    refine one fun C hC => val hE6 (R.load hE6 sc_21 rfl hM1 (by rfl)) rfl fun a7 hE7 => hC _ _ ?_
    clear hC C
    clear hE6 a6
    refine one fun C hC => val hE7 (R.fieldAddr hE7 93 2 2 fb_93_2 rfl) rfl fun a8 hE8 => hC _ _ ?_
    clear hC C
    clear hE7 a7
    refine one fun C hC => val hE8 (R.load hE8 sc_21 rfl hM1 (by rfl)) rfl fun a9 hE9 => hC _ _ ?_
    clear hC C
    clear hE8 a8
    refine one fun C hC => lit2 hE9 hM1 4 el_50 rfl rfl rfl rfl rfl  fun b10 a10 w2 hE10 hM2 => hC _ _ ?_
    clear hC C hE9 hM1 a9
    refine one fun C hC => val hE10 (R.assign hE10 rfl) rfl fun a11 hE11 => hC _ _ ?_
    clear hC C
    clear hE10 a10
    refine wpList_nil (hK3 _ _ ?_)
    clear hK3 K3
    replace hE11 := hE11.keep (E' := [(0, _), (1, _), (2, _), (5, _)]) ⟨rfl, rfl, rfl, rfl, trivial⟩
    refine wp_ret (hQ _ _ ?_)
    have es : x.says = [x.first, x.second] := by simp [Ent.says, ht1]
    have hr := ((hM2.cut (pts b1 93 [.string nm, .int .i32 x.first, .int .i32 x.second, .bool x.bare])).split (FindP.out (b := b10))).row_of_pts (xs := [x.first, x.second]) (enc := rune) (sz := 1) (by intro x _; rfl) rfl (by simp [maxLen])
    refine back1 hE11 rfl rfl (Mem.doneX ((some ⟨b10, 0, none⟩, 2) : Option Addr × Nat) ?_ ?_)
    · rw [es]; rfl
    · rw [es]; exact hr
  · intro hb1
    have ht1 := hb1
    try simp only [decide_eq_true_eq, decide_eq_false_iff_not, Bool.not_eq_true', Bool.not_eq_false', beq_iff_eq, Bool.and_eq_true, Bool.or_eq_true] at ht1
    refine wp_skip (hK1 _ _ ?_)
    refine wp_seq_k fun K4 hK4 => ?_
    refine wp_region_lit ?_
    refine one fun C hC => val hE5 (R.fieldAddr hE5 93 1 1 fb_93_1 rfl) rfl fun a6 hE6 => hC _ _ ?_
    clear hC C
    clear hE5 a5
    refine one fun C hC => val hE6 (R.load hE6 sc_21 rfl hM1 (by rfl)) rfl fun a7 hE7 => hC _ _ ?_
    clear hC C
    clear hE6 a6
    refine one fun C hC => lit1 hE7 hM1 4 el_50 rfl rfl rfl  fun b13 a8 w2 hE8 hM2 => hC _ _ ?_
    clear hC C hE7 hM1 a7
    refine one fun C hC => val hE8 (R.assign hE8 rfl) rfl fun a9 hE9 => hC _ _ ?_
    clear hC C
    clear hE8 a8
    refine wpList_nil (hK4 _ _ ?_)
    clear hK4 K4
    replace hE9 := hE9.keep (E' := [(0, _), (1, _), (2, _), (5, _)]) ⟨rfl, rfl, rfl, rfl, trivial⟩
    refine wp_ret (hQ _ _ ?_)
    have es : x.says = [x.first] := by simp [Ent.says, ht1]
    have hr := ((hM2.cut (pts b1 93 [.string nm, .int .i32 x.first, .int .i32 x.second, .bool x.bare])).split (FindP.out (b := b13))).row_of_pts (xs := [x.first]) (enc := rune) (sz := 1) (by intro x _; rfl) rfl (by simp [maxLen])
    refine back1 hE9 rfl rfl (Mem.doneX ((some ⟨b13, 0, none⟩, 1) : Option Addr × Nat) ?_ ?_)
    · rw [es]; rfl
    · rw [es]; exact hr

end Go.Sv
