import Derived.Test.YthaalghnpfpjmaaDoorProg
import Derived.Test.YthaalghnpfpjmaaDoorMach6
import Derived.Test.YthaalghnpfpjmaaDoorRules4
set_option linter.all false
set_option linter.unusedVariables false
set_option linter.unusedSimpArgs false
set_option maxRecDepth 100000
namespace Go.Sv
open Go.RowKit Go.Proofs
attribute [local irreducible] row pts star blk emp fact any attrsOf machAt tagAt

namespace FMach7
theorem cb_21 : callB Tryd.prog 21 = true := by kernel_rfl
theorem cb_35 : callB Tryd.prog 35 = true := by kernel_rfl
theorem cb_36 : callB Tryd.prog 36 = true := by kernel_rfl
theorem fb_53_5 : fieldB Tryd.prog 53 5 5 = true := by kernel_rfl
theorem sc_9 : scalarB Tryd.prog 9 = true := by kernel_rfl
theorem st_9 : stringB Tryd.prog 9 = true := by kernel_rfl
end FMach7
open FMach7

def M.fitsAt (S : M) (j : Nat) : Bool := decide (lowerR (S.peek (1 + j)) = ((S.rcdata.get! j).toNat : Int))
def M.fitsEnd (S : M) : Bool := blankB (S.peek (1 + S.rcdata.size)) || decide (S.peek (1 + S.rcdata.size) = 47) || decide (S.peek (1 + S.rcdata.size) = 62)
def M.fits (S : M) : Bool := decide (S.peek 0 = 47) && (List.range S.rcdata.size).all S.fitsAt && S.fitsEnd
theorem all_range (p : Nat → Bool) (j : Nat) : (List.range (j + 1)).all p = ((List.range j).all p && p j) := by
  rw [List.range_succ, List.all_append]; simp only [List.all_cons, List.all_nil, Bool.and_true]
theorem all_range_false (p : Nat → Bool) (n j : Nat) (h : j < n) (hp : p j = false) : (List.range n).all p = false := by
  rw [List.all_eq_false]; exact ⟨j, List.mem_range.2 h, by simp [hp]⟩

set_option maxHeartbeats 1000000 in
theorem fits_c {V : Option (Option Addr × Nat)} (b : Nat) (S : M) (hA : ascii S.rcdata) (hsz : S.rcdata.size ≤ 1000) (hO : S.Ok 0) : Fm Tryd.prog 18 [.pointer (some ⟨b, 0, none⟩)] (mach V b S) (.bool S.fits) (mach V b S) := by
  intro β w0 F0 hM0
  obtain ⟨x, hk, hV, hM1⟩ := machAt.open_ hM0
  clear hM0
  rename Mem _ _ _ => hM0
  refine enter Tryd.func18 (by rfl) 43 rfl rfl fun a0 Q hE0 hQ hN hP => ?_
  have hp0 := hO.p
  have hn0 := hO.n
  have hs0 := hO.s
  simp only [M.sz] at hs0
  refine wp_seq_k fun K0 hK0 => ?_
  refine wp_region_lit ?_
  refine one fun C hC => val hE0 (R.assign hE0 rfl) rfl fun a1 hE1 => hC _ _ ?_
  clear hC C
  clear hE0 a0
  refine wpList_nil (hK0 _ _ ?_)
  clear hK0 K0
  replace hE1 := hE1.keep (E' := [(0, _), (2, _)]) ⟨rfl, rfl, trivial⟩
  refine wp_seq_k fun K1 hK1 => ?_
  refine wp_seq_k fun K2 hK2 => ?_
  refine wp_region_lit ?_
  refine one fun C hC => val hE1 (R.move hE1 rfl) rfl fun a2 hE2 => hC _ _ ?_
  clear hC C
  clear hE1 a1
  refine one fun C hC => callM hE2 (peek_k b S 0 0 (by omega) (by omega) hO.pos) cb_21 rfl (machAt.close (T := 53) (R := 21) (K := 43) (L := 24) (A := 45) (V := V) (b := b) (S := S) (F := F0) x hk hV (by (try dsimp only); (try simp only [List.length_nil, attrsOf_snoc, tagAt_true]); (try simp only [emp_star, star_emp]); exact hM0.cast (by ac_rfl))) rfl fun  a3 w1 hE3 hM1 => hC _ _ ?_
  clear hC C hE2 hM0 a2
  refine one fun C hC => val hE3 (R.neq hE3 rfl rfl) rfl fun a4 hE4 => hC _ _ ?_
  clear hC C
  clear hE3 a3
  refine wpList_nil (hK2 _ _ ?_)
  clear hK2 K2
  replace hE4 := hE4.keep (E' := [(0, _), (2, _), (8, _)]) ⟨rfl, rfl, rfl, trivial⟩
  refine condR hE4 rfl ?_ ?_
  · intro hb1
    have ht1 := hb1
    try simp only [decide_eq_true_eq, decide_eq_false_iff_not, Bool.not_eq_true', Bool.not_eq_false', beq_iff_eq, Bool.and_eq_true, Bool.or_eq_true] at ht1
    refine wp_seq_k fun K3 hK3 => ?_
    refine wp_region_lit ?_
    refine one fun C hC => val hE4 (R.assign hE4 rfl) rfl fun a5 hE5 => hC _ _ ?_
    clear hC C
    clear hE4 a4
    refine wpList_nil (hK3 _ _ ?_)
    clear hK3 K3
    replace hE5 := hE5.keep (E' := [(0, _), (2, _), (8, _)]) ⟨rfl, rfl, rfl, trivial⟩
    refine wp_ret (hQ _ _ ?_)
    refine back1 hE5 rfl rfl (Mem.done ?_ ?_)
    · simp [M.fits, ht1]
    have hm := hM1
    exact hm
  · intro hb1
    have ht1 := hb1
    try simp only [decide_eq_true_eq, decide_eq_false_iff_not, Bool.not_eq_true', Bool.not_eq_false', beq_iff_eq, Bool.and_eq_true, Bool.or_eq_true] at ht1
    refine wp_skip (hK1 _ _ ?_)
    refine wp_seq_k fun K4 hK4 => ?_
    refine wp_seq_k fun K5 hK5 => ?_
    refine wp_region_lit ?_
    refine one fun C hC => val hE4 (R.move hE4 rfl) rfl fun a5 hE5 => hC _ _ ?_
    clear hC C
    clear hE4 a4
    refine one fun C hC => val hE5 (R.nil hE5 rfl) rfl fun a6 hE6 => hC _ _ ?_
    clear hC C
    clear hE5 a5
    refine one fun C hC => val hE6 (R.fieldAddr hE6 53 5 5 fb_53_5 rfl) rfl fun a7 hE7 => hC _ _ ?_
    clear hC C
    clear hE6 a6
    obtain ⟨x1, hk1, hV1, hM2⟩ := machAt.open_ hM1
    try dsimp only at hM2 hk1
    clear hM1
    have hZ1 := hO.ls
    try dsimp only at hZ1
    refine one fun C hC => val hE7 (R.load hE7 sc_9 rfl hM2 (by rfl)) rfl fun a8 hE8 => hC _ _ ?_
    clear hC C
    clear hE7 a7
    refine one fun C hC => rangeStr hE8 hM2 st_9 rfl rfl  fun b13 a9 w3 hE9 hM3 => hC _ _ ?_
    clear hC C hE8 hM2 a8
    refine wpList_nil (hK5 _ _ ?_)
    clear hK5 K5
    replace hE9 := hE9.keep (E' := [(0, _), (2, _), (8, _), (13, _)]) ⟨rfl, rfl, rfl, rfl, trivial⟩
    refine wp_block ?_
    refine loopR (σ := Nat) (fun j a w => Env 43 [] a [(0, .pointer (some ⟨b, 0, none⟩)), (13, .pointer (some ⟨b13, 0, none⟩))] ∧ Mem β w (star (mach V b (S)) (star (blk b13 (.stringIter S.rcdata j)) F0)) ∧ (j ≤ S.rcdata.size ∧ (List.range j).all S.fitsAt = true)) (fun j => S.rcdata.size - j) 0 ?_ ?_
    · exact ⟨hE9.keep ⟨rfl, rfl, trivial⟩, ((machAt.close (T := 53) (R := 21) (K := 43) (L := 24) (A := 45) (V := V) (b := b) (S := S) (F := star (blk b13 (.stringIter S.rcdata 0)) F0) x1 hk1 hV1 (by (try dsimp only); (try simp only [List.length_nil, attrsOf_snoc, tagAt_true]); (try simp only [emp_star, star_emp]); exact hM3.cast (by ac_rfl))).cast (show _ = (star (mach V b (S)) (star (blk b13 (.stringIter S.rcdata 0)) F0)) from by ac_rfl)), ⟨Nat.zero_le _, rfl⟩⟩
    · clear hE9 hM3 a9
      rintro j a10 w4 ⟨hE10, hM4, hI⟩ K hK
      have hpk := hO.peek (1 + j)
      have hK6 : ∀ a w, K a w → K a w := fun _ _ h => h
      refine wp_seq_k fun K7 hK7 => ?_
      refine wp_region_lit ?_
      refine one fun C hC => nextStr hE10 rfl hM4 rfl ?_ ?_
      · intro hit a11 w5 hE11 hM5
        refine hC _ _ ?_
        have hdc := decode_ascii (hA j hit)
        rw [hdc] at hE11 hM5
        clear hC C hE10 hM4 a10
        refine one fun C hC => val hE11 (R.ext hE11 rfl rfl) rfl fun a12 hE12 => hC _ _ ?_
        clear hC C
        clear hE11 a11
        refine wpList_nil (hK7 _ _ ?_)
        clear hK7 K7
        replace hE12 := hE12.keep (E' := [(0, _), (13, _), (14, _), (15, _)]) ⟨rfl, rfl, rfl, rfl, trivial⟩
        refine wp_seq_k fun K8 hK8 => ?_
        refine condT hE12 rfl rfl ?_
        refine wp_skip (hK8 _ _ ?_)
        refine wp_block ?_
        refine wp_seq_k fun K9 hK9 => ?_
        refine wp_region_lit ?_
        refine one fun C hC => val hE12 (R.ext hE12 rfl rfl) rfl fun a13 hE13 => hC _ _ ?_
        clear hC C
        clear hE12 a12
        refine one fun C hC => val hE13 (R.ext hE13 rfl rfl) rfl fun a14 hE14 => hC _ _ ?_
        clear hC C
        clear hE13 a13
        refine one fun C hC => val hE14 (R.assign hE14 rfl) rfl fun a15 hE15 => hC _ _ ?_
        clear hC C
        clear hE14 a14
        refine one fun C hC => val hE15 (R.assign hE15 rfl) rfl fun a16 hE16 => hC _ _ ?_
        clear hC C
        clear hE15 a15
        refine wpList_nil (hK9 _ _ ?_)
        clear hK9 K9
        replace hE16 := hE16.keep (E' := [(0, _), (3, _), (4, _), (13, _), (14, _), (15, _)]) ⟨rfl, rfl, rfl, rfl, rfl, rfl, trivial⟩
        refine wp_seq_k fun K10 hK10 => ?_
        refine wp_region_lit ?_
        refine one fun C hC => val hE16 (R.move hE16 rfl) rfl fun a17 hE17 => hC _ _ ?_
        clear hC C
        clear hE16 a16
        refine one fun C hC => val hE17 (R.move hE17 rfl) rfl fun a18 hE18 => hC _ _ ?_
        clear hC C
        clear hE17 a17
        refine one fun C hC => val hE18 (R.add64 hE18 rfl rfl (by omega) (by omega)) rfl fun a19 hE19 => hC _ _ ?_
        clear hC C
        clear hE18 a18
        refine one fun C hC => callM hE19 (peek_k b S (1 + j) (1 + j) (by omega) (by omega) hO.pos) cb_21 rfl (hM5.cast (show _ = (star (mach V b S) (star (blk b13 (.stringIter S.rcdata (j + 1))) F0)) from by ac_rfl)) rfl fun  a20 w6 hE20 hM6 => hC _ _ ?_
        clear hC C hE19 hM5 a19
        refine one fun C hC => callF hE20 (lowerRune_c _ (by omega) (by omega)) cb_35 rfl hM6 rfl  fun  a21 w7 hE21 hM7 => hC _ _ ?_
        clear hC C hE20 hM6 a20
        refine one fun C hC => val hE21 (R.move hE21 rfl) rfl fun a22 hE22 => hC _ _ ?_
        clear hC C
        clear hE21 a21
        refine one fun C hC => val hE22 (R.neq hE22 rfl rfl) rfl fun a23 hE23 => hC _ _ ?_
        clear hC C
        clear hE22 a22
        refine wpList_nil (hK10 _ _ ?_)
        clear hK10 K10
        replace hE23 := hE23.keep (E' := [(0, _), (3, _), (4, _), (13, _), (14, _), (15, _), (24, _)]) ⟨rfl, rfl, rfl, rfl, rfl, rfl, rfl, trivial⟩
        refine condR hE23 rfl ?_ ?_
        · intro hb2
          have ht2 := hb2
          try simp only [decide_eq_true_eq, decide_eq_false_iff_not, Bool.not_eq_true', Bool.not_eq_false', beq_iff_eq, Bool.and_eq_true, Bool.or_eq_true] at ht2
          refine wp_seq_k fun K11 hK11 => ?_
          refine wp_region_lit ?_
          refine one fun C hC => val hE23 (R.assign hE23 rfl) rfl fun a24 hE24 => hC _ _ ?_
          clear hC C
          clear hE23 a23
          refine wpList_nil (hK11 _ _ ?_)
          clear hK11 K11
          replace hE24 := hE24.keep (E' := [(0, _), (2, _), (3, _), (4, _), (13, _), (14, _), (15, _), (24, _)]) ⟨rfl, rfl, rfl, rfl, rfl, rfl, rfl, rfl, trivial⟩
          refine wp_ret (hQ _ _ ?_)
          refine back1 hE24 rfl rfl (Mem.done ?_ ?_)
          · unfold M.fits; rw [all_range_false S.fitsAt _ j hit (by unfold M.fitsAt; simpa using ht2)]; simp
          have hm := hM7
          exact (hm.cast (by ac_rfl) : Mem β _ (star (blk b13 (.stringIter S.rcdata (j + 1))) (star (mach V b S) F0))).drop
        · intro hb2
          have ht2 := hb2
          try simp only [decide_eq_true_eq, decide_eq_false_iff_not, Bool.not_eq_true', Bool.not_eq_false', beq_iff_eq, Bool.and_eq_true, Bool.or_eq_true] at ht2
          refine wp_skip (hK6 _ _ ?_)
          have h2 : S.fitsAt j = true := by unfold M.fitsAt; simpa using ht2
          exact hK (j + 1) _ _ ⟨hE23.keep ⟨rfl, rfl, trivial⟩, (hM7.cast (show _ = (star (mach V b (S)) (star (blk b13 (.stringIter S.rcdata (j + 1))) F0)) from by ac_rfl)), ⟨by omega, by rw [all_range, hI.2, h2]; rfl⟩⟩ (by omega)
      · intro hit a11 hE11 hMn
        refine hC _ _ ?_
        have hM5 := hMn
        clear hMn hC C hE10 hM4 a10
        refine one fun C hC => val hE11 (R.ext hE11 rfl rfl) rfl fun a12 hE12 => hC _ _ ?_
        clear hC C
        clear hE11 a11
        refine wpList_nil (hK7 _ _ ?_)
        clear hK7 K7
        replace hE12 := hE12.keep (E' := [(0, _), (13, _), (14, _), (15, _)]) ⟨rfl, rfl, rfl, rfl, trivial⟩
        refine wp_seq_k fun K12 hK12 => ?_
        refine condF hE12 rfl rfl ?_
        refine wp_exit (exitThen (exitThen (exitIn ?_)))
        refine hK4 _ _ ?_
        refine wp_seq_k fun K13 hK13 => ?_
        refine wp_region_lit ?_
        refine one fun C hC => val hE12 (R.move hE12 rfl) rfl fun a13 hE13 => hC _ _ ?_
        clear hC C
        clear hE12 a12
        refine one fun C hC => val hE13 (R.move hE13 rfl) rfl fun a14 hE14 => hC _ _ ?_
        clear hC C
        clear hE13 a13
        refine one fun C hC => val hE14 (R.nil hE14 rfl) rfl fun a15 hE15 => hC _ _ ?_
        clear hC C
        clear hE14 a14
        refine one fun C hC => val hE15 (R.fieldAddr hE15 53 5 5 fb_53_5 rfl) rfl fun a16 hE16 => hC _ _ ?_
        clear hC C
        clear hE15 a15
        obtain ⟨x2, hk2, hV2, hM6⟩ := machAt.open_ (hM5.cast (show _ = (star (mach V b (S)) (star (blk b13 (.stringIter S.rcdata j)) F0)) from by ac_rfl))
        try dsimp only at hM6 hk2
        clear hM5
        have hZ2 := hO.ls
        try dsimp only at hZ2
        refine one fun C hC => val hE16 (R.load hE16 sc_9 rfl hM6 (by rfl)) rfl fun a17 hE17 => hC _ _ ?_
        clear hC C
        clear hE16 a16
        refine one fun C hC => val hE17 (R.lenString hE17 st_9 rfl) rfl fun a18 hE18 => hC _ _ ?_
        clear hC C
        clear hE17 a17
        refine one fun C hC => val hE18 (R.add64 hE18 rfl rfl (by omega) (by omega)) rfl fun a19 hE19 => hC _ _ ?_
        clear hC C
        clear hE18 a18
        refine one fun C hC => callM hE19 (peek_k b S (1 + S.rcdata.size) (1 + S.rcdata.size) (by omega) (by omega) hO.pos) cb_21 rfl (machAt.close (T := 53) (R := 21) (K := 43) (L := 24) (A := 45) (V := V) (b := b) (S := S) (F := star (blk b13 (.stringIter S.rcdata j)) F0) x2 hk2 hV2 (by (try dsimp only); (try simp only [List.length_nil, attrsOf_snoc, tagAt_true]); (try simp only [emp_star, star_emp]); exact hM6.cast (by ac_rfl))) rfl fun  a20 w7 hE20 hM7 => hC _ _ ?_
        clear hC C hE19 hM6 a19
        refine one fun C hC => val hE20 (R.assign hE20 rfl) rfl fun a21 hE21 => hC _ _ ?_
        clear hC C
        clear hE20 a20
        refine wpList_nil (hK13 _ _ ?_)
        clear hK13 K13
        replace hE21 := hE21.keep (E' := [(0, _), (5, _), (13, _), (14, _), (15, _)]) ⟨rfl, rfl, rfl, rfl, rfl, trivial⟩
        refine wp_seq_k fun K14 hK14 => ?_
        refine wp_region_lit ?_
        refine one fun C hC => val hE21 (R.move hE21 rfl) rfl fun a22 hE22 => hC _ _ ?_
        clear hC C
        clear hE21 a21
        refine one fun C hC => callF hE22 (blank_c _) cb_36 rfl hM7 rfl  fun  a23 w8 hE23 hM8 => hC _ _ ?_
        clear hC C hE22 hM7 a22
        refine one fun C hC => val hE23 (R.move hE23 rfl) rfl fun a24 hE24 => hC _ _ ?_
        clear hC C
        clear hE23 a23
        refine splitE hE24 (x := .tmp 35) rfl ?_ ?_
        · intro hb2
          have ht2 := hb2
          try simp only [decide_eq_true_eq, decide_eq_false_iff_not, Bool.not_eq_true', Bool.not_eq_false', beq_iff_eq, Bool.and_eq_true, Bool.or_eq_true] at ht2
          refine oneOff hE24 rfl rfl hb2 rfl fun a25 hE25 => ?_
          clear hE24 a24
          refine oneOff hE25 rfl rfl hb2 rfl fun a26 hE26 => ?_
          clear hE25 a25
          refine one fun C hC => val hE26 (R.pickT hE26 rfl hb2 rfl) rfl fun a27 hE27 => hC _ _ ?_
          clear hC C
          clear hE26 a26
          refine one fun C hC => val hE27 (R.move hE27 rfl) rfl fun a28 hE28 => hC _ _ ?_
          clear hC C
          clear hE27 a27
          refine oneOff hE28 rfl rfl rfl rfl fun a29 hE29 => ?_
          clear hE28 a28
          refine oneOff hE29 rfl rfl rfl rfl fun a30 hE30 => ?_
          clear hE29 a29
          refine one fun C hC => val hE30 (R.pickT hE30 rfl rfl rfl) rfl fun a31 hE31 => hC _ _ ?_
          clear hC C
          clear hE30 a30
          refine one fun C hC => val hE31 (R.assign hE31 rfl) rfl fun a32 hE32 => hC _ _ ?_
          clear hC C
          clear hE31 a31
          refine wpList_nil (hK14 _ _ ?_)
          clear hK14 K14
          replace hE32 := hE32.keep (E' := [(0, _), (2, _), (5, _), (13, _), (14, _), (15, _)]) ⟨rfl, rfl, rfl, rfl, rfl, rfl, trivial⟩
          refine wp_ret (hQ _ _ ?_)
          refine back1 hE32 rfl rfl (Mem.done ?_ ?_)
          · have hj : S.rcdata.size = j := (by omega); have ha : (List.range S.rcdata.size).all S.fitsAt = true := (by rw [hj]; exact hI.2); unfold M.fits; rw [ha]; simp [M.fitsEnd, ht1, ht2]
          have hm := hM8
          exact (hm.cast (by ac_rfl) : Mem β _ (star (blk b13 (.stringIter S.rcdata j)) (star (mach V b S) F0))).drop
        · intro hb2
          have ht2 := hb2
          try simp only [decide_eq_true_eq, decide_eq_false_iff_not, Bool.not_eq_true', Bool.not_eq_false', beq_iff_eq, Bool.and_eq_true, Bool.or_eq_true] at ht2
          refine oneOn hE24 rfl rfl hb2 fun C hC => val hE24 (R.move hE24 rfl) rfl fun a25 hE25 => hC _ _ ?_
          clear hC C
          clear hE24 a24
          refine oneOn hE25 rfl rfl hb2 fun C hC => val hE25 (R.eql hE25 rfl rfl) rfl fun a26 hE26 => hC _ _ ?_
          clear hC C
          clear hE25 a25
          refine one fun C hC => val hE26 (R.pickF hE26 rfl hb2 rfl) rfl fun a27 hE27 => hC _ _ ?_
          clear hC C
          clear hE26 a26
          refine one fun C hC => val hE27 (R.move hE27 rfl) rfl fun a28 hE28 => hC _ _ ?_
          clear hC C
          clear hE27 a27
          refine splitE hE28 (x := .tmp 39) rfl ?_ ?_
          · intro hb3
            have ht3 := hb3
            try simp only [decide_eq_true_eq, decide_eq_false_iff_not, Bool.not_eq_true', Bool.not_eq_false', beq_iff_eq, Bool.and_eq_true, Bool.or_eq_true] at ht3
            refine oneOff hE28 rfl rfl hb3 rfl fun a29 hE29 => ?_
            clear hE28 a28
            refine oneOff hE29 rfl rfl hb3 rfl fun a30 hE30 => ?_
            clear hE29 a29
            refine one fun C hC => val hE30 (R.pickT hE30 rfl hb3 rfl) rfl fun a31 hE31 => hC _ _ ?_
            clear hC C
            clear hE30 a30
            refine one fun C hC => val hE31 (R.assign hE31 rfl) rfl fun a32 hE32 => hC _ _ ?_
            clear hC C
            clear hE31 a31
            refine wpList_nil (hK14 _ _ ?_)
            clear hK14 K14
            replace hE32 := hE32.keep (E' := [(0, _), (2, _), (5, _), (13, _), (14, _), (15, _)]) ⟨rfl, rfl, rfl, rfl, rfl, rfl, trivial⟩
            refine wp_ret (hQ _ _ ?_)
            refine back1 hE32 rfl rfl (Mem.done ?_ ?_)
            · have hj : S.rcdata.size = j := (by omega); have ha : (List.range S.rcdata.size).all S.fitsAt = true := (by rw [hj]; exact hI.2); unfold M.fits; rw [ha]; simp [M.fitsEnd, ht1, ht2, ht3]
            have hm := hM8
            exact (hm.cast (by ac_rfl) : Mem β _ (star (blk b13 (.stringIter S.rcdata j)) (star (mach V b S) F0))).drop
          · intro hb3
            have ht3 := hb3
            try simp only [decide_eq_true_eq, decide_eq_false_iff_not, Bool.not_eq_true', Bool.not_eq_false', beq_iff_eq, Bool.and_eq_true, Bool.or_eq_true] at ht3
            refine oneOn hE28 rfl rfl hb3 fun C hC => val hE28 (R.move hE28 rfl) rfl fun a29 hE29 => hC _ _ ?_
            clear hC C
            clear hE28 a28
            refine oneOn hE29 rfl rfl hb3 fun C hC => val hE29 (R.eql hE29 rfl rfl) rfl fun a30 hE30 => hC _ _ ?_
            clear hC C
            clear hE29 a29
            refine one fun C hC => val hE30 (R.pickF hE30 rfl hb3 rfl) rfl fun a31 hE31 => hC _ _ ?_
            clear hC C
            clear hE30 a30
            refine one fun C hC => val hE31 (R.assign hE31 rfl) rfl fun a32 hE32 => hC _ _ ?_
            clear hC C
            clear hE31 a31
            refine wpList_nil (hK14 _ _ ?_)
            clear hK14 K14
            replace hE32 := hE32.keep (E' := [(0, _), (2, _), (5, _), (13, _), (14, _), (15, _)]) ⟨rfl, rfl, rfl, rfl, rfl, rfl, trivial⟩
            refine wp_ret (hQ _ _ ?_)
            refine back1 hE32 rfl rfl (Mem.done ?_ ?_)
            · have hj : S.rcdata.size = j := (by omega); have ha : (List.range S.rcdata.size).all S.fitsAt = true := (by rw [hj]; exact hI.2); unfold M.fits; rw [ha]; simp [M.fitsEnd, ht1, ht2, ht3]
            have hm := hM8
            exact (hm.cast (by ac_rfl) : Mem β _ (star (blk b13 (.stringIter S.rcdata j)) (star (mach V b S) F0))).drop

end Go.Sv
