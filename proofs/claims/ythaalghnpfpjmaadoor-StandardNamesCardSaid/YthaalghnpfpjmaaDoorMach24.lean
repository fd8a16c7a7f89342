import Derived.Test.YthaalghnpfpjmaaDoorProg
import Derived.Test.YthaalghnpfpjmaaDoorMach23
set_option linter.all false
set_option linter.unusedVariables false
set_option linter.unusedSimpArgs false
set_option maxRecDepth 100000
namespace Go.Sv
open Go.RowKit Go.Proofs
attribute [local irreducible] row pts star blk emp fact any attrsOf machAt tagAt

namespace FMach24
theorem cb_6 : callB Tryd.prog 6 = true := by kernel_rfl
theorem cb_8 : callB Tryd.prog 8 = true := by kernel_rfl
theorem fb_43_1 : fieldB Tryd.prog 43 1 1 = true := by kernel_rfl
theorem fb_43_3 : fieldB Tryd.prog 43 3 3 = true := by kernel_rfl
theorem fb_45_1 : fieldB Tryd.prog 45 1 1 = true := by kernel_rfl
theorem sc_24 : scalarB Tryd.prog 24 = true := by kernel_rfl
theorem sc_39 : scalarB Tryd.prog 39 = true := by kernel_rfl
theorem sc_9 : scalarB Tryd.prog 9 = true := by kernel_rfl
theorem sl_26 : sliceB Tryd.prog 26 24 1 = true := by kernel_rfl
theorem sl_35 : sliceB Tryd.prog 35 43 8 = true := by kernel_rfl
theorem sl_39 : sliceB Tryd.prog 39 45 2 = true := by kernel_rfl
end FMach24
open FMach24
def s1 : ByteArray := ⟨#[97, 60, 98, 32, 99, 61, 100, 62, 101, 60, 47, 98, 32, 120, 62]⟩
def s2 : ByteArray := ⟨#[60, 33, 45, 45, 120, 45, 45, 62]⟩
def okB (y : M) : Bool := (y.faults == [5]) && (match y.toks with | [_, b, _, _] => (b.name.data.toList == [98]) && (match b.attrs with | [x] => x.2.data.toList == [100] | _ => false) | _ => false)
theorem run1_ok : (match (M.init (streamOf s1)).run with | some y => okB y | none => false) = true := by kernel_rfl
theorem run2_none : (M.init (streamOf s2)).run.isNone = true := by kernel_rfl
theorem run1 : ∃ y a b c d xa, (M.init (streamOf s1)).run = some y ∧ y.toks = [a, b, c, d] ∧ y.faults = [5] ∧ b.name.data.toList = [98] ∧ b.attrs = [xa] ∧ xa.2.data.toList = [100] := by
  have h := run1_ok
  cases hr : (M.init (streamOf s1)).run with
  | none => rw [hr] at h; cases h
  | some y =>
    rw [hr] at h
    simp only [okB, Bool.and_eq_true, beq_iff_eq] at h
    obtain ⟨h1, h2⟩ := h
    split at h2
    · rename_i a b c d ht
      simp only [Bool.and_eq_true, beq_iff_eq] at h2
      obtain ⟨h3, h4⟩ := h2
      split at h4
      · rename_i xa hx
        exact ⟨y, a, b, c, d, xa, rfl, ht, h1, h3, hx, by simpa using h4⟩
      · cases h4
    · cases h2
theorem map_four {l : List TokV} {a b c d : Tok} (h : l.map (·.t) = [a, b, c, d]) : ∃ ta tb tc td, l = [ta, tb, tc, td] ∧ tb.t = b := by
  match l, h with
  | [ta, tb, tc, td], h => simp at h; exact ⟨ta, tb, tc, td, rfl, h.2.1⟩

set_option maxHeartbeats 4000000 in
theorem awake_c (G : HProp) (hX : MaxG G) (hAG : AscG G) (hW : WinG G) : Fm Tryd.prog 7 [] G (.bool true) G := by
  intro β w0 F0 hM0
  refine enter Tryd.func7 (by rfl) 66 rfl rfl fun a0 Q hE0 hQ hN hP => ?_
  refine wp_seq_k fun K0 hK0 => ?_
  refine wp_region_lit ?_
  refine one fun C hC => val hE0 (R.assign hE0 rfl) rfl fun a1 hE1 => hC _ _ ?_
  clear hC C
  clear hE0 a0
  refine wpList_nil (hK0 _ _ ?_)
  clear hK0 K0
  replace hE1 := hE1.keep (E' := [(0, _)]) ⟨rfl, trivial⟩
  refine wp_seq_k fun K1 hK1 => ?_
  refine wp_region_lit ?_
  refine one fun C hC => call hE1 cb_8 (tokens_ascii G hX hAG hW s1 s1 (by unfold ascii; decide) (by decide) (by decide +kernel) (by kernel_rfl) (by unfold ascii; decide) (by decide)) rfl hM0 rfl fun a2 w1 v hE2 hM1 => hC _ _ ?_
  clear hC C hE1 hM0 a1
  obtain ⟨y, ta0, tb0, tc0, td0, xa, hy, htk, hfl, hbn, hba, hxa⟩ := run1
  unfold TokR at hM1
  rw [hy] at hM1
  obtain ⟨x, hM2⟩ := hM1.any
  obtain ⟨⟨hk, hv⟩, hM3⟩ := (hM2.cast (star_assoc _ _ _)).fact
  clear hM1 hM2
  rw [htk] at hk
  obtain ⟨ta, tb, tc, td, hx, hb⟩ := map_four hk
  subst hb
  rw [hfl] at hv hM3
  rw [hx] at hv
  subst hv
  generalize x.tkA = kA at *
  generalize x.tkC = kC at *
  generalize x.fA = fA at *
  generalize x.fC = fC at *
  rw [hx, attrs_four, hba] at hM3
  simp only [star_assoc, emp_star] at hM3
  refine one fun C hC => val hE2 (R.move hE2 rfl) rfl fun a3 hE3 => hC _ _ ?_
  clear hC C
  clear hE2 a2
  refine one fun C hC => val hE3 (R.ext hE3 rfl rfl) rfl fun a4 hE4 => hC _ _ ?_
  clear hC C
  clear hE3 a3
  refine one fun C hC => val hE4 (R.ext hE4 rfl rfl) rfl fun a5 hE5 => hC _ _ ?_
  clear hC C
  clear hE4 a4
  refine one fun C hC => val hE5 (R.ext hE5 rfl rfl) rfl fun a6 hE6 => hC _ _ ?_
  clear hC C
  clear hE5 a5
  refine one fun C hC => val hE6 (R.assign hE6 rfl) rfl fun a7 hE7 => hC _ _ ?_
  clear hC C
  clear hE6 a6
  refine one fun C hC => val hE7 (R.assign hE7 rfl) rfl fun a8 hE8 => hC _ _ ?_
  clear hC C
  clear hE7 a7
  refine one fun C hC => val hE8 (R.assign hE8 rfl) rfl fun a9 hE9 => hC _ _ ?_
  clear hC C
  clear hE8 a8
  refine wpList_nil (hK1 _ _ ?_)
  clear hK1 K1
  replace hE9 := hE9.keep (E' := [(0, _), (1, _), (2, _), (3, _)]) ⟨rfl, rfl, rfl, rfl, trivial⟩
  refine wp_seq_k fun K2 hK2 => ?_
  refine wp_region_lit ?_
  refine one fun C hC => call hE9 cb_8 (tokens_ascii G hX hAG hW s2 s2 (by unfold ascii; decide) (by decide) (by decide +kernel) (by kernel_rfl) (by unfold ascii; decide) (by decide)) rfl (hM3.split (FindA.out (A := G))) rfl fun a10 w4 v hE10 hM4 => hC _ _ ?_
  clear hC C hE9 hM3 a9
  have hy2 := Option.isNone_iff_eq_none.1 run2_none
  unfold TokR at hM4
  rw [hy2] at hM4
  obtain ⟨hv, hM5⟩ := (hM4.cast (star_assoc _ _ _)).fact
  clear hM4
  subst hv
  refine one fun C hC => val hE10 (R.move hE10 rfl) rfl fun a11 hE11 => hC _ _ ?_
  clear hC C
  clear hE10 a10
  refine one fun C hC => val hE11 (R.ext hE11 rfl rfl) rfl fun a12 hE12 => hC _ _ ?_
  clear hC C
  clear hE11 a11
  refine one fun C hC => val hE12 (R.ext hE12 rfl rfl) rfl fun a13 hE13 => hC _ _ ?_
  clear hC C
  clear hE12 a12
  refine one fun C hC => val hE13 (R.ext hE13 rfl rfl) rfl fun a14 hE14 => hC _ _ ?_
  clear hC C
  clear hE13 a13
  refine one fun C hC => val hE14 (R.assign hE14 rfl) rfl fun a15 hE15 => hC _ _ ?_
  clear hC C
  clear hE14 a14
  refine one fun C hC => val hE15 (R.assign hE15 rfl) rfl fun a16 hE16 => hC _ _ ?_
  clear hC C
  clear hE15 a15
  refine one fun C hC => val hE16 (R.assign hE16 rfl) rfl fun a17 hE17 => hC _ _ ?_
  clear hC C
  clear hE16 a16
  refine wpList_nil (hK2 _ _ ?_)
  clear hK2 K2
  replace hE17 := hE17.keep (E' := [(0, _), (1, _), (2, _), (3, _), (6, _)]) ⟨rfl, rfl, rfl, rfl, rfl, trivial⟩
  refine wp_seq_k fun K3 hK3 => ?_
  refine wp_region_lit ?_
  refine one fun C hC => val hE17 (R.move hE17 rfl) rfl fun a18 hE18 => hC _ _ ?_
  clear hC C
  clear hE17 a17
  refine one fun C hC => callF hE18 (num_c _) cb_6 rfl hM5 rfl  fun  a19 w6 hE19 hM6 => hC _ _ ?_
  clear hC C hE18 hM5 a18
  refine one fun C hC => val hE19 (R.eql hE19 rfl rfl) rfl fun a20 hE20 => hC _ _ ?_
  clear hC C
  clear hE19 a19
  refine one fun C hC => val hE20 (R.move hE20 rfl) rfl fun a21 hE21 => hC _ _ ?_
  clear hC C
  clear hE20 a20
  refine splitE hE21 (x := .tmp 20) rfl ?_ ?_
  · intro hb1
    have ht1 := hb1
    try simp only [decide_eq_true_eq, decide_eq_false_iff_not, Bool.not_eq_true', Bool.not_eq_false', beq_iff_eq, Bool.and_eq_true, Bool.or_eq_true] at ht1
    refine oneOn hE21 rfl rfl hb1 fun C hC => val hE21 (R.move hE21 rfl) rfl fun a22 hE22 => hC _ _ ?_
    clear hC C
    clear hE21 a21
    refine oneOn hE22 rfl rfl hb1 fun C hC => val hE22 (R.lenSlice hE22 43 8 sl_35 rfl) rfl fun a23 hE23 => hC _ _ ?_
    clear hC C
    clear hE22 a22
    refine oneOn hE23 rfl rfl hb1 fun C hC => val hE23 (R.eql hE23 rfl rfl) rfl fun a24 hE24 => hC _ _ ?_
    clear hC C
    clear hE23 a23
    refine one fun C hC => val hE24 (R.pickT hE24 rfl hb1 rfl) rfl fun a25 hE25 => hC _ _ ?_
    clear hC C
    clear hE24 a24
    refine one fun C hC => val hE25 (R.move hE25 rfl) rfl fun a26 hE26 => hC _ _ ?_
    clear hC C
    clear hE25 a25
    refine splitE hE26 (x := .tmp 25) rfl ?_ ?_
    · intro hb2
      have ht2 := hb2
      try simp only [decide_eq_true_eq, decide_eq_false_iff_not, Bool.not_eq_true', Bool.not_eq_false', beq_iff_eq, Bool.and_eq_true, Bool.or_eq_true] at ht2
      refine oneOn hE26 rfl rfl hb2 fun C hC => val hE26 (R.move hE26 rfl) rfl fun a27 hE27 => hC _ _ ?_
      clear hC C
      clear hE26 a26
      refine oneOn hE27 rfl rfl hb2 fun C hC => val hE27 (R.indexRow hE27 43 8 sl_35 rfl rfl hM6 1 rfl (by simp) rfl) rfl fun a28 hE28 => hC _ _ ?_
      clear hC C
      clear hE27 a27
      refine oneOn hE28 rfl rfl hb2 fun C hC => val hE28 (R.fieldElem hE28 43 1 1 fb_43_1 rfl hM6 (by simp)) rfl fun a29 hE29 => hC _ _ ?_
      clear hC C
      clear hE28 a28
      refine oneOn hE29 rfl rfl hb2 fun C hC => val hE29 (R.loadElem hE29 sc_9 rfl hM6 1 1 rfl rfl rfl) rfl fun a30 hE30 => hC _ _ ?_
      clear hC C
      clear hE29 a29
      refine oneOn hE30 rfl rfl hb2 fun C hC => val hE30 (R.seql hE30 rfl rfl) rfl fun a31 hE31 => hC _ _ ?_
      clear hC C
      clear hE30 a30
      refine one fun C hC => val hE31 (R.pickT hE31 rfl hb2 rfl) rfl fun a32 hE32 => hC _ _ ?_
      clear hC C
      clear hE31 a31
      refine one fun C hC => val hE32 (R.move hE32 rfl) rfl fun a33 hE33 => hC _ _ ?_
      clear hC C
      clear hE32 a32
      refine splitE hE33 (x := .tmp 32) rfl ?_ ?_
      · intro hb3
        have ht3 := hb3
        try simp only [decide_eq_true_eq, decide_eq_false_iff_not, Bool.not_eq_true', Bool.not_eq_false', beq_iff_eq, Bool.and_eq_true, Bool.or_eq_true] at ht3
        refine oneOn hE33 rfl rfl hb3 fun C hC => val hE33 (R.move hE33 rfl) rfl fun a34 hE34 => hC _ _ ?_
        clear hC C
        clear hE33 a33
        refine oneOn hE34 rfl rfl hb3 fun C hC => val hE34 (R.indexRow hE34 43 8 sl_35 rfl rfl hM6 1 rfl (by simp) rfl) rfl fun a35 hE35 => hC _ _ ?_
        clear hC C
        clear hE34 a34
        refine oneOn hE35 rfl rfl hb3 fun C hC => val hE35 (R.fieldElem hE35 43 3 3 fb_43_3 rfl hM6 (by simp)) rfl fun a36 hE36 => hC _ _ ?_
        clear hC C
        clear hE35 a35
        refine oneOn hE36 rfl rfl hb3 fun C hC => val hE36 (R.loadElem hE36 sc_39 rfl hM6 1 3 rfl rfl rfl) rfl fun a37 hE37 => hC _ _ ?_
        clear hC C
        clear hE36 a36
        refine oneOn hE37 rfl rfl hb3 fun C hC => val hE37 (R.lenSlice hE37 45 2 sl_39 rfl) rfl fun a38 hE38 => hC _ _ ?_
        clear hC C
        clear hE37 a37
        refine oneOn hE38 rfl rfl hb3 fun C hC => val hE38 (R.eql hE38 rfl rfl) rfl fun a39 hE39 => hC _ _ ?_
        clear hC C
        clear hE38 a38
        refine one fun C hC => val hE39 (R.pickT hE39 rfl hb3 rfl) rfl fun a40 hE40 => hC _ _ ?_
        clear hC C
        clear hE39 a39
        refine one fun C hC => val hE40 (R.move hE40 rfl) rfl fun a41 hE41 => hC _ _ ?_
        clear hC C
        clear hE40 a40
        refine splitE hE41 (x := .tmp 40) rfl ?_ ?_
        · intro hb4
          have ht4 := hb4
          try simp only [decide_eq_true_eq, decide_eq_false_iff_not, Bool.not_eq_true', Bool.not_eq_false', beq_iff_eq, Bool.and_eq_true, Bool.or_eq_true] at ht4
          refine oneOn hE41 rfl rfl hb4 fun C hC => val hE41 (R.move hE41 rfl) rfl fun a42 hE42 => hC _ _ ?_
          clear hC C
          clear hE41 a41
          refine oneOn hE42 rfl rfl hb4 fun C hC => val hE42 (R.indexRow hE42 43 8 sl_35 rfl rfl hM6 1 rfl (by simp) rfl) rfl fun a43 hE43 => hC _ _ ?_
          clear hC C
          clear hE42 a42
          refine oneOn hE43 rfl rfl hb4 fun C hC => val hE43 (R.fieldElem hE43 43 3 3 fb_43_3 rfl hM6 (by simp)) rfl fun a44 hE44 => hC _ _ ?_
          clear hC C
          clear hE43 a43
          refine oneOn hE44 rfl rfl hb4 fun C hC => val hE44 (R.loadElem hE44 sc_39 rfl hM6 1 3 rfl rfl rfl) rfl fun a45 hE45 => hC _ _ ?_
          clear hC C
          clear hE44 a44
          refine oneOn hE45 rfl rfl hb4 fun C hC => val hE45 (R.indexRow hE45 45 2 sl_39 (x := .tmp 44) (ad := tb.ad) rfl rfl hM6 0 rfl (by rw [hba]; simp) (by rw [hba])) rfl fun a46 hE46 => hC _ _ ?_
          clear hC C
          clear hE45 a45
          refine oneOn hE46 rfl rfl hb4 fun C hC => val hE46 (R.fieldElem hE46 45 1 1 fb_45_1 rfl hM6 (by simp)) rfl fun a47 hE47 => hC _ _ ?_
          clear hC C
          clear hE46 a46
          refine oneOn hE47 rfl rfl hb4 fun C hC => val hE47 (R.loadElem hE47 sc_9 rfl hM6 0 1 rfl rfl rfl) rfl fun a48 hE48 => hC _ _ ?_
          clear hC C
          clear hE47 a47
          refine oneOn hE48 rfl rfl hb4 fun C hC => val hE48 (R.seql hE48 rfl rfl) rfl fun a49 hE49 => hC _ _ ?_
          clear hC C
          clear hE48 a48
          refine one fun C hC => val hE49 (R.pickT hE49 rfl hb4 rfl) rfl fun a50 hE50 => hC _ _ ?_
          clear hC C
          clear hE49 a49
          refine one fun C hC => val hE50 (R.move hE50 rfl) rfl fun a51 hE51 => hC _ _ ?_
          clear hC C
          clear hE50 a50
          refine splitE hE51 (x := .tmp 50) rfl ?_ ?_
          · intro hb5
            have ht5 := hb5
            try simp only [decide_eq_true_eq, decide_eq_false_iff_not, Bool.not_eq_true', Bool.not_eq_false', beq_iff_eq, Bool.and_eq_true, Bool.or_eq_true] at ht5
            refine oneOn hE51 rfl rfl hb5 fun C hC => val hE51 (R.move hE51 rfl) rfl fun a52 hE52 => hC _ _ ?_
            clear hC C
            clear hE51 a51
            refine oneOn hE52 rfl rfl hb5 fun C hC => val hE52 (R.lenSlice hE52 24 1 sl_26 rfl) rfl fun a53 hE53 => hC _ _ ?_
            clear hC C
            clear hE52 a52
            refine oneOn hE53 rfl rfl hb5 fun C hC => val hE53 (R.eql hE53 rfl rfl) rfl fun a54 hE54 => hC _ _ ?_
            clear hC C
            clear hE53 a53
            refine one fun C hC => val hE54 (R.pickT hE54 rfl hb5 rfl) rfl fun a55 hE55 => hC _ _ ?_
            clear hC C
            clear hE54 a54
            refine one fun C hC => val hE55 (R.move hE55 rfl) rfl fun a56 hE56 => hC _ _ ?_
            clear hC C
            clear hE55 a55
            refine splitE hE56 (x := .tmp 55) rfl ?_ ?_
            · intro hb6
              have ht6 := hb6
              try simp only [decide_eq_true_eq, decide_eq_false_iff_not, Bool.not_eq_true', Bool.not_eq_false', beq_iff_eq, Bool.and_eq_true, Bool.or_eq_true] at ht6
              refine oneOn hE56 rfl rfl hb6 fun C hC => val hE56 (R.move hE56 rfl) rfl fun a57 hE57 => hC _ _ ?_
              clear hC C
              clear hE56 a56
              refine oneOn hE57 rfl rfl hb6 fun C hC => val hE57 (R.indexRow hE57 24 1 sl_26 rfl rfl hM6 0 rfl (by simp) rfl) rfl fun a58 hE58 => hC _ _ ?_
              clear hC C
              clear hE57 a57
              refine oneOn hE58 rfl rfl hb6 fun C hC => val hE58 (R.loadInt hE58 sc_24 rfl hM6 0 rfl rfl) rfl fun a59 hE59 => hC _ _ ?_
              clear hC C
              clear hE58 a58
              refine oneOn hE59 rfl rfl hb6 fun C hC => val hE59 (R.eql hE59 rfl rfl) rfl fun a60 hE60 => hC _ _ ?_
              clear hC C
              clear hE59 a59
              refine one fun C hC => val hE60 (R.pickT hE60 rfl hb6 rfl) rfl fun a61 hE61 => hC _ _ ?_
              clear hC C
              clear hE60 a60
              refine one fun C hC => val hE61 (R.move hE61 rfl) rfl fun a62 hE62 => hC _ _ ?_
              clear hC C
              clear hE61 a61
              refine splitE hE62 (x := .tmp 61) rfl ?_ ?_
              · intro hb7
                have ht7 := hb7
                try simp only [decide_eq_true_eq, decide_eq_false_iff_not, Bool.not_eq_true', Bool.not_eq_false', beq_iff_eq, Bool.and_eq_true, Bool.or_eq_true] at ht7
                refine oneOn hE62 rfl rfl hb7 fun C hC => val hE62 (R.move hE62 rfl) rfl fun a63 hE63 => hC _ _ ?_
                clear hC C
                clear hE62 a62
                refine oneOn hE63 rfl rfl hb7 fun C hC => callF hE63 (num_c _) cb_6 rfl hM6 rfl  fun  a64 w7 hE64 hM7 => hC _ _ ?_
                clear hC C hE63 hM6 a63
                refine oneOn hE64 rfl rfl hb7 fun C hC => val hE64 (R.eql hE64 rfl rfl) rfl fun a65 hE65 => hC _ _ ?_
                clear hC C
                clear hE64 a64
                refine one fun C hC => val hE65 (R.pickT hE65 rfl hb7 rfl) rfl fun a66 hE66 => hC _ _ ?_
                clear hC C
                clear hE65 a65
                refine one fun C hC => val hE66 (R.assign hE66 rfl) rfl fun a67 hE67 => hC _ _ ?_
                clear hC C
                clear hE66 a66
                refine wpList_nil (hK3 _ _ ?_)
                clear hK3 K3
                replace hE67 := hE67.keep (E' := [(0, _), (1, _), (2, _), (3, _), (6, _)]) ⟨rfl, rfl, rfl, rfl, rfl, trivial⟩
                refine wp_ret (hQ _ _ ?_)
                replace hM7 := hM7.cut (row 43 8 encTok kA kC [ta, tb, tc, td])
                replace hM7 := hM7.cut (row 45 2 encAttr ta.ad ta.cap ta.t.attrs)
                replace hM7 := hM7.cut (row 45 2 encAttr tb.ad tb.cap [xa])
                replace hM7 := hM7.cut (row 45 2 encAttr tc.ad tc.cap tc.t.attrs)
                replace hM7 := hM7.cut (row 45 2 encAttr td.ad td.cap td.t.attrs)
                replace hM7 := hM7.cut (row 24 1 (encInt .i64) fA fC [5])
                refine back1 hE67 rfl rfl (Mem.done (by simp) hM7)
              · intro hb7
                have ht7 := hb7
                try simp only [decide_eq_true_eq, decide_eq_false_iff_not, Bool.not_eq_true', Bool.not_eq_false', beq_iff_eq, Bool.and_eq_true, Bool.or_eq_true] at ht7
                exact absurd hb7 (by simp)
            · intro hb6
              have ht6 := hb6
              try simp only [decide_eq_true_eq, decide_eq_false_iff_not, Bool.not_eq_true', Bool.not_eq_false', beq_iff_eq, Bool.and_eq_true, Bool.or_eq_true] at ht6
              exact absurd hb6 (by simp)
          · intro hb5
            have ht5 := hb5
            try simp only [decide_eq_true_eq, decide_eq_false_iff_not, Bool.not_eq_true', Bool.not_eq_false', beq_iff_eq, Bool.and_eq_true, Bool.or_eq_true] at ht5
            rw [hxa] at hb5
            exact absurd hb5 (by decide)
        · intro hb4
          have ht4 := hb4
          try simp only [decide_eq_true_eq, decide_eq_false_iff_not, Bool.not_eq_true', Bool.not_eq_false', beq_iff_eq, Bool.and_eq_true, Bool.or_eq_true] at ht4
          rw [hba] at hb4
          exact absurd hb4 (by simp)
      · intro hb3
        have ht3 := hb3
        try simp only [decide_eq_true_eq, decide_eq_false_iff_not, Bool.not_eq_true', Bool.not_eq_false', beq_iff_eq, Bool.and_eq_true, Bool.or_eq_true] at ht3
        rw [hbn] at hb3
        exact absurd hb3 (by decide)
    · intro hb2
      have ht2 := hb2
      try simp only [decide_eq_true_eq, decide_eq_false_iff_not, Bool.not_eq_true', Bool.not_eq_false', beq_iff_eq, Bool.and_eq_true, Bool.or_eq_true] at ht2
      exact absurd hb2 (by simp)
  · intro hb1
    have ht1 := hb1
    try simp only [decide_eq_true_eq, decide_eq_false_iff_not, Bool.not_eq_true', Bool.not_eq_false', beq_iff_eq, Bool.and_eq_true, Bool.or_eq_true] at ht1
    exact absurd hb1 (by simp)

end Go.Sv
