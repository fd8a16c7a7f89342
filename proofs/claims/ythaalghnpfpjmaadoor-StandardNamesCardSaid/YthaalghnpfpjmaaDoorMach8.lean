import Derived.Test.YthaalghnpfpjmaaDoorProg
import Derived.Test.YthaalghnpfpjmaaDoorMach7
import Derived.Test.YthaalghnpfpjmaaDoorRefs
import Derived.Test.YthaalghnpfpjmaaDoorScope
set_option linter.all false
set_option linter.unusedVariables false
set_option linter.unusedSimpArgs false
set_option maxRecDepth 100000
namespace Go.Sv
open Go.RowKit Go.Proofs
attribute [local irreducible] row pts star blk emp fact any attrsOf machAt tagAt

namespace FMach8
theorem cb_14 : callB Tryd.prog 14 = true := by kernel_rfl
theorem cb_20 : callB Tryd.prog 20 = true := by kernel_rfl
theorem cb_39 : callB Tryd.prog 39 = true := by kernel_rfl
theorem cb_40 : callB Tryd.prog 40 = true := by kernel_rfl
theorem cb_41 : callB Tryd.prog 41 = true := by kernel_rfl
theorem el_50 : elemB Tryd.prog 50 21 1 4 = true := by kernel_rfl
theorem fb_53_10 : fieldB Tryd.prog 53 10 17 = true := by kernel_rfl
theorem fb_53_12 : fieldB Tryd.prog 53 12 19 = true := by kernel_rfl
theorem fb_53_13 : fieldB Tryd.prog 53 13 20 = true := by kernel_rfl
theorem fb_53_8 : fieldB Tryd.prog 53 8 15 = true := by kernel_rfl
theorem sc_21 : scalarB Tryd.prog 21 = true := by kernel_rfl
theorem sc_4 : scalarB Tryd.prog 4 = true := by kernel_rfl
theorem sc_50 : scalarB Tryd.prog 50 = true := by kernel_rfl
end FMach8
open FMach8

section
variable (G : HProp) (hIn : ∀ (n : ByteArray) (k : Int), k = 2 ∨ k = 3 → Fm Tryd.prog 70 [.string n, .int .i64 k] G (.bool (inSet k n)) G)
variable (hRef : ∀ (b : Nat) (S : M) (a : Bool) (V : Option (Option Addr × Nat)), S.Ok 20 → Fx Tryd.prog 17 [.pointer (some ⟨b, 0, none⟩), .bool a] (star (mach V b S) G) (fun q : Option Addr × Nat => .slice q.1 (S.reference a).1.length q.2) (fun q => star (mach V b (S.reference a).2) (star (row 21 1 rune q.1 q.2 (S.reference a).1) G)))
variable (hRo : ∀ (S : M) (a : Bool) (c d : Nat), S.Ok c → d + 8 ≤ c → (S.reference a).2.Ok (d + (S.reference a).1.length)) (hRp : ∀ (S : M) (a : Bool), 0 < (S.reference a).1.length)
variable (hOdd : ∀ r : Int, -1 ≤ r → r ≤ 1114111 → Fn Tryd.prog 82 [.string (ByteArray.mk #[34, 39, 60, 61, 96]), .int .i32 r] (.bool (M.oddB r)))

set_option maxHeartbeats 8000000 in
include hIn hRef hRo hRp hOdd in
theorem attributes_c (b : Nat) (S : M) (to0 : Int) (hA : AOk 0 S (S.inp.length + 3) S to0) (hO : S.Ok 170) : Fo Tryd.prog rej 24 [.pointer (some ⟨b, 0, none⟩), .int .i64 to0] (star (mach none b S) G) (S.attributes to0) (fun y => (.bool y.1)) (fun y => star (mach none b y.2) G) G := by
  intro β w0 F0 hM0
  replace hM0 := hM0.cast (star_assoc _ _ _)
  obtain ⟨x, hk, hV, hM1⟩ := machAt.open_ hM0
  clear hM0
  rename Mem _ _ _ => hM0
  refine enterO Tryd.func24 (by rfl) 65 rfl rfl fun a0 Q hE0 hQ hN hP hX => ?_
  have hp0 := hO.p
  have hn0 := hO.n
  have hs0 := hO.s
  simp only [M.sz] at hs0
  refine wp_seq_k fun K0 hK0 => ?_
  refine wp_region_lit ?_
  refine one fun C hC => val hE0 (R.assign hE0 rfl) rfl fun a1 hE1 => hC _ _ ?_
  clear hC C
  clear hE0 a0
  refine wpList_nil (hK0 _ _ ?_)
  clear hK0 K0
  replace hE1 := hE1.keep (E' := [(0, _), (1, _), (4, _)]) ⟨rfl, rfl, rfl, trivial⟩
  refine scopeL (σ := Nat × M × Int) (fun l p a w => l = 0 ∧ Env 65 [] a [(0, .pointer (some ⟨b, 0, none⟩)), (1, .int .i64 p.2.2)] ∧ Mem β w (star (mach none b p.2.1) (star G F0)) ∧ M.attrsN p.1 p.2.1 p.2.2 = S.attributes to0 ∧ AOk 0 S p.1 p.2.1 p.2.2) (fun p => p.1) (fun _ => rfl) ?_ ?_ ?_
  · intro KG K hK
    refine wp_region_lit ?_
    refine one fun C hC => val hE1 (R.assign hE1 rfl) rfl fun a2 hE2 => hC _ _ ?_
    clear hC C
    clear hE1 a1
    refine wpList_nil (hK (S.inp.length + 3, S, to0) _ _ ⟨rfl, hE2.keep ⟨rfl, rfl, trivial⟩, (machAt.close (T := 53) (R := 21) (K := 43) (L := 24) (A := 45) (V := none) (b := b) (S := S) (F := star G F0) x hk trivial (by (try dsimp only); (try simp only [List.length_nil, attrsOf_snoc, tagAt_true]); (try simp only [emp_star, star_emp]); exact hM0.cast (by ac_rfl))), rfl, hA⟩)
  · rintro ⟨n, V, to⟩ a50 w50 ⟨-, hE50, hM50, hT, hA⟩ K hK
    dsimp only at hE50 hM50 hT hA
    obtain ⟨n, rfl⟩ : ∃ n', n = n' + 1 := ⟨n - 1, by have := hA.n; omega⟩
    have hO50 : V.Ok 170 := hA.o
    unfold M.attrsN at hT
    refine wp_seq_k fun K1 hK1 => ?_
    refine wp_seq_k fun K2 hK2 => ?_
    refine wp_region_lit ?_
    refine one fun C hC => val hE50 (R.move hE50 rfl) rfl fun a51 hE51 => hC _ _ ?_
    clear hC C
    clear hE50 a50
    refine wpList_nil (hK2 _ _ ?_)
    clear hK2 K2
    replace hE51 := hE51.keep (E' := [(0, _), (1, _), (6, _)]) ⟨rfl, rfl, rfl, trivial⟩
    refine wp_block ?_
    refine wp_seq_k fun K3 hK3 => ?_
    refine wp_region_lit ?_
    refine one fun C hC => val hE51 (R.eql hE51 rfl rfl) rfl fun a52 hE52 => hC _ _ ?_
    clear hC C
    clear hE51 a51
    refine one fun C hC => val hE52 (R.assign hE52 rfl) rfl fun a53 hE53 => hC _ _ ?_
    clear hC C
    clear hE52 a52
    refine wpList_nil (hK3 _ _ ?_)
    clear hK3 K3
    replace hE53 := hE53.keep (E' := [(0, _), (1, _), (6, _), (7, _)]) ⟨rfl, rfl, rfl, rfl, trivial⟩
    refine condR hE53 rfl ?_ ?_
    · intro hb1
      have ht1 := hb1
      try simp only [decide_eq_true_eq, decide_eq_false_iff_not, Bool.not_eq_true', Bool.not_eq_false', beq_iff_eq, Bool.and_eq_true, Bool.or_eq_true] at ht1
      refine wp_seq_k fun K4 hK4 => ?_
      refine wp_region_lit ?_
      refine one fun C hC => val hE53 (R.assign hE53 rfl) rfl fun a54 hE54 => hC _ _ ?_
      clear hC C
      clear hE53 a53
      refine wpList_nil (hK4 _ _ ?_)
      clear hK4 K4
      replace hE54 := hE54.keep (E' := [(0, _), (1, _), (4, _), (6, _), (7, _)]) ⟨rfl, rfl, rfl, rfl, rfl, trivial⟩
      refine wp_ret (hQ _ _ ?_)
      have hm := hM50
      refine back1 hE54 rfl rfl (Mem.doneO (true, V) ?_ rfl ?_)
      · rw [← hT, if_pos ht1]
      exact hm.cast (by ac_rfl)
    · intro hb1
      have ht1 := hb1
      try simp only [decide_eq_true_eq, decide_eq_false_iff_not, Bool.not_eq_true', Bool.not_eq_false', beq_iff_eq, Bool.and_eq_true, Bool.or_eq_true] at ht1
      refine wp_seq_k fun K5 hK5 => ?_
      refine wp_region_lit ?_
      refine one fun C hC => val hE53 (R.eql hE53 rfl rfl) rfl fun a54 hE54 => hC _ _ ?_
      clear hC C
      clear hE53 a53
      refine one fun C hC => val hE54 (R.assign hE54 rfl) rfl fun a55 hE55 => hC _ _ ?_
      clear hC C
      clear hE54 a54
      refine wpList_nil (hK5 _ _ ?_)
      clear hK5 K5
      replace hE55 := hE55.keep (E' := [(0, _), (1, _), (6, _), (7, _), (9, _)]) ⟨rfl, rfl, rfl, rfl, rfl, trivial⟩
      refine condR hE55 rfl ?_ ?_
      · intro hb2
        have ht2 := hb2
        try simp only [decide_eq_true_eq, decide_eq_false_iff_not, Bool.not_eq_true', Bool.not_eq_false', beq_iff_eq, Bool.and_eq_true, Bool.or_eq_true] at ht2
        refine wp_seq_k fun K6 hK6 => ?_
        refine wp_region_lit ?_
        refine one fun C hC => val hE55 (R.assign hE55 rfl) rfl fun a56 hE56 => hC _ _ ?_
        clear hC C
        clear hE55 a55
        refine wpList_nil (hK6 _ _ ?_)
        clear hK6 K6
        replace hE56 := hE56.keep (E' := [(0, _), (1, _), (4, _), (6, _), (7, _), (9, _)]) ⟨rfl, rfl, rfl, rfl, rfl, rfl, trivial⟩
        refine wp_ret (hQ _ _ ?_)
        have hm := hM50
        refine back1 hE56 rfl rfl (Mem.doneO (false, V) ?_ rfl ?_)
        · rw [← hT, if_neg ht1, if_pos ht2]
        exact hm.cast (by ac_rfl)
      · intro hb2
        have ht2 := hb2
        try simp only [decide_eq_true_eq, decide_eq_false_iff_not, Bool.not_eq_true', Bool.not_eq_false', beq_iff_eq, Bool.and_eq_true, Bool.or_eq_true] at ht2
        refine wp_seq_k fun K7 hK7 => ?_
        refine wp_region_lit ?_
        refine one fun C hC => val hE55 (R.eql hE55 rfl rfl) rfl fun a56 hE56 => hC _ _ ?_
        clear hC C
        clear hE55 a55
        refine one fun C hC => val hE56 (R.assign hE56 rfl) rfl fun a57 hE57 => hC _ _ ?_
        clear hC C
        clear hE56 a56
        refine wpList_nil (hK7 _ _ ?_)
        clear hK7 K7
        replace hE57 := hE57.keep (E' := [(0, _), (1, _), (6, _), (7, _), (9, _), (11, _)]) ⟨rfl, rfl, rfl, rfl, rfl, rfl, trivial⟩
        refine condR hE57 rfl ?_ ?_
        · intro hb3
          have ht3 := hb3
          try simp only [decide_eq_true_eq, decide_eq_false_iff_not, Bool.not_eq_true', Bool.not_eq_false', beq_iff_eq, Bool.and_eq_true, Bool.or_eq_true] at ht3
          refine wp_region_lit ?_
          refine one fun C hC => val hE57 (R.move hE57 rfl) rfl fun a58 hE58 => hC _ _ ?_
          clear hC C
          clear hE57 a57
          refine one fun C hC => callM hE58 (read_c b V hO50.pos hO50.f) cb_14 rfl hM50 rfl fun  a59 w51 hE59 hM51 => hC _ _ ?_
          clear hC C hE58 hM50 a58
          have hO51 := hO50.read
          have hp51 := hO51.p
          have hn51 := hO51.n
          refine one fun C hC => val hE59 (R.assign hE59 rfl) rfl fun a60 hE60 => hC _ _ ?_
          clear hC C
          clear hE59 a59
          replace hE60 := hE60.keep (E' := [(0, _), (1, _), (5, _), (6, _), (7, _), (9, _), (11, _)]) ⟨rfl, rfl, rfl, rfl, rfl, rfl, rfl, trivial⟩
          refine wpList_nil (hK1 _ _ ?_)
          refine wp_seq_k fun K8 hK8 => ?_
          refine wp_seq_k fun K9 hK9 => ?_
          have hc : Cur 0 S n V.read (V.peek 0) := hA.read ht3
          have hsc := hc.s
          have hcb := hc.b
          rw [if_neg ht1, if_neg ht2, if_neg (by omega), if_pos ht3, if_pos ht3] at hT
          have hO52 := (hc.o.le (by omega) : M.Ok _ 174)
          have hp52 := hO52.p
          have hn52 := hO52.n
          refine wp_region_lit ?_
          refine one fun C hC => val hE60 (R.move hE60 rfl) rfl fun a61 hE61 => hC _ _ ?_
          clear hC C
          clear hE60 a60
          refine one fun C hC => val hE61 (R.move hE61 rfl) rfl fun a62 hE62 => hC _ _ ?_
          clear hC C
          clear hE61 a61
          refine one fun C hC => callO hE62 (edge_c G hIn b V.read (by first | rfl | assumption | ((try dsimp only); (try simp only [M.read_st, M.fault_st, M.say_st, M.begin_st, M.flush_st, M.keep_st, M.leave_st, M.again_st, M.first_st]); first | rfl | assumption)) (V.peek 0) (hO52.le (by omega))) cb_39 rfl (hM51.cast (show (star (mach none b V.read) (star G F0)) = (star (star (mach none b V.read) G) F0) from by ac_rfl)) rfl ?_ ?_
          · intro hy1 w52 hM52
            exact hX _ _ hE62.defers (by rw [← hT]; unfold M.stepA; rw [hy1]; rfl) hM52
          intro y1 hy1 a63 w52 hE63 hM52
          refine hC _ _ ?_
          clear hC C hE62 hM51 a62
          replace hM52 := hM52.cast (star_assoc _ _ _)
          have hO53 := hO52.edge hy1 (d := 170) (by omega)
          have hp53 := hO53.p
          have hn53 := hO53.n
          refine one fun C hC => val hE63 (R.assign hE63 rfl) rfl fun a64 hE64 => hC _ _ ?_
          clear hC C
          clear hE63 a63
          refine wpList_nil (hK9 _ _ ?_)
          clear hK9 K9
          replace hE64 := hE64.keep (E' := [(0, _), (1, _), (5, _), (6, _), (7, _), (9, _), (11, _)]) ⟨rfl, rfl, rfl, rfl, rfl, rfl, rfl, trivial⟩
          refine wp_seq_k fun K10 hK10 => ?_
          refine wp_region_lit ?_
          refine one fun C hC => val hE64 (R.move hE64 rfl) rfl fun a65 hE65 => hC _ _ ?_
          clear hC C
          clear hE64 a64
          refine one fun C hC => val hE65 (R.neq hE65 rfl rfl) rfl fun a66 hE66 => hC _ _ ?_
          clear hC C
          clear hE65 a65
          refine wpList_nil (hK10 _ _ ?_)
          clear hK10 K10
          replace hE66 := hE66.keep (E' := [(0, _), (1, _), (5, _), (6, _), (7, _), (9, _), (11, _), (45, _)]) ⟨rfl, rfl, rfl, rfl, rfl, rfl, rfl, rfl, trivial⟩
          refine condR hE66 rfl ?_ ?_
          · intro hb4
            have ht4 := hb4
            try simp only [decide_eq_true_eq, decide_eq_false_iff_not, Bool.not_eq_true', Bool.not_eq_false', beq_iff_eq, Bool.and_eq_true, Bool.or_eq_true] at ht4
            refine wp_goto (gotoThen (gotoTo ?_))
            have hm := hM52
            have h0 : y1.1 ≠ 0 := ht4
            have hN := hc.edge hy1 h0
            unfold M.stepA at hT
            rw [hy1] at hT
            replace hT : (if y1.1 ≠ 0 then M.attrsN n y1.2 y1.1 else (y1.2.attrFrom _).bind fun z => M.attrsN n z.2 z.1) = S.attributes to0 := hT
            rw [if_pos h0] at hT
            exact hK 0 (n, y1.2, y1.1) _ _ ⟨rfl, hE66.keep ⟨rfl, rfl, trivial⟩, hm, hT, hN⟩ (Nat.lt_succ_self _)
          · intro hb4
            have ht4 := hb4
            try simp only [decide_eq_true_eq, decide_eq_false_iff_not, Bool.not_eq_true', Bool.not_eq_false', beq_iff_eq, Bool.and_eq_true, Bool.or_eq_true] at ht4
            refine wp_skip (hK8 _ _ ?_)
            refine wp_seq_k fun K11 hK11 => ?_
            have h0 : y1.1 = 0 := ht4
            have hst := stay_plain hy1 h0
            have hrn : (V.peek 0) ≠ -1 := by intro h6; have h7 := hst.1; rw [h6] at h7; exact absurd h7 (by decide)
            have hsy : y1.2.stale = false := by rw [hst.2]; exact hsc
            have hOy : y1.2.Ok 219 := by rw [hst.2]; exact ((hc.m hrn).1.le (by omega)).last
            have hO54 := hOy
            have hp54 := hO54.p
            have hn54 := hO54.n
            refine wp_region_lit ?_
            refine one fun C hC => val hE66 (R.move hE66 rfl) rfl fun a67 hE67 => hC _ _ ?_
            clear hC C
            clear hE66 a66
            refine one fun C hC => callM hE67 (keep_c b y1.2 (by first | rfl | assumption | ((try dsimp only); (try simp only [M.read_st, M.fault_st, M.say_st, M.begin_st, M.flush_st, M.keep_st, M.leave_st, M.again_st, M.first_st]); first | rfl | assumption)) hO54.g) cb_40 rfl hM52 rfl fun  a68 w53 hE68 hM53 => hC _ _ ?_
            clear hC C hE67 hM52 a67
            have hO55 := hO54.keep (d := 218) (by omega)
            have hp55 := hO55.p
            have hn55 := hO55.n
            refine wpList_nil (hK11 _ _ ?_)
            clear hK11 K11
            replace hE68 := hE68.keep (E' := [(0, _), (1, _), (5, _), (6, _), (7, _), (9, _), (11, _), (45, _)]) ⟨rfl, rfl, rfl, rfl, rfl, rfl, rfl, rfl, trivial⟩
            refine wp_seq_k fun K12 hK12 => ?_
            refine wp_region_lit ?_
            refine one fun C hC => val hE68 (R.move hE68 rfl) rfl fun a69 hE69 => hC _ _ ?_
            clear hC C
            clear hE68 a68
            refine one fun C hC => val hE69 (R.nil hE69 rfl) rfl fun a70 hE70 => hC _ _ ?_
            clear hC C
            clear hE69 a69
            refine one fun C hC => val hE70 (R.fieldAddr hE70 53 10 17 fb_53_10 rfl) rfl fun a71 hE71 => hC _ _ ?_
            clear hC C
            clear hE70 a70
            obtain ⟨x1, hk1, hV1, hM54⟩ := machAt.openT (by first | rfl | assumption | ((try dsimp only); (try simp only [M.read_st, M.fault_st, M.say_st, M.begin_st, M.flush_st, M.keep_st, M.leave_st, M.again_st, M.first_st]); first | rfl | assumption)) hM53
            try dsimp only at hM54 hk1
            clear hM53
            have hZ1 := hO55.ls
            try dsimp only at hZ1
            refine one fun C hC => store hE71 hM54 sc_4 rfl rfl rfl rfl  fun  a72 w55 hE72 hM55 => hC _ _ ?_
            clear hC C hE71 hM54 a71
            try simp only [List.set_cons_zero, List.set_cons_succ, Nat.zero_add] at hM55
            refine wpList_nil (hK12 _ _ ?_)
            clear hK12 K12
            replace hE72 := hE72.keep (E' := [(0, _), (1, _), (5, _), (6, _), (7, _), (9, _), (11, _), (45, _)]) ⟨rfl, rfl, rfl, rfl, rfl, rfl, rfl, rfl, trivial⟩
            refine wp_seq_k fun K13 hK13 => ?_
            refine wp_seq_k fun K14 hK14 => ?_
            refine wp_region_lit ?_
            refine one fun C hC => val hE72 (R.move hE72 rfl) rfl fun a73 hE73 => hC _ _ ?_
            clear hC C
            clear hE72 a72
            refine one fun C hC => val hE73 (R.eql hE73 rfl rfl) rfl fun a74 hE74 => hC _ _ ?_
            clear hC C
            clear hE73 a73
            refine wpList_nil (hK14 _ _ ?_)
            clear hK14 K14
            replace hE74 := hE74.keep (E' := [(0, _), (1, _), (5, _), (6, _), (7, _), (9, _), (11, _), (45, _), (52, _)]) ⟨rfl, rfl, rfl, rfl, rfl, rfl, rfl, rfl, rfl, trivial⟩
            refine condR hE74 rfl ?_ ?_
            · intro hb5
              have ht5 := hb5
              try simp only [decide_eq_true_eq, decide_eq_false_iff_not, Bool.not_eq_true', Bool.not_eq_false', beq_iff_eq, Bool.and_eq_true, Bool.or_eq_true] at ht5
              refine wp_seq_k fun K15 hK15 => ?_
              refine wp_region_lit ?_
              refine one fun C hC => val hE74 (R.move hE74 rfl) rfl fun a75 hE75 => hC _ _ ?_
              clear hC C
              clear hE74 a74
              have hO56 : M.Ok ({ y1.2.keep with named := true }) 218 := by have h1 := hO55.p; have h2 := hO55.n; have h3 := hO55.s; exact ⟨by (try dsimp only); omega, by (try dsimp only); omega, hO55.r, by (try simp only [M.sz, List.length_append, List.length_cons, List.length_nil] at h3 ⊢); omega⟩
              have hp56 := hO56.p
              have hn56 := hO56.n
              refine one fun C hC => callM hE75 (fault_c b { y1.2.keep with named := true } 20 hO56.f) cb_20 rfl (machAt.closeT (T := 53) (R := 21) (K := 43) (L := 24) (A := 45) (V := none) (b := b) (S := { y1.2.keep with named := true }) (F := star G F0) (by first | rfl | assumption | ((try dsimp only); (try simp only [M.read_st, M.fault_st, M.say_st, M.begin_st, M.flush_st, M.keep_st, M.leave_st, M.again_st, M.first_st]); first | rfl | assumption)) x1 hk1 trivial (by (try dsimp only); (try simp only [List.length_nil, attrsOf_snoc, tagAt_true]); (try simp only [emp_star, star_emp]); exact hM55.cast (by ac_rfl))) rfl fun  a76 w56 hE76 hM56 => hC _ _ ?_
              clear hC C hE75 hM55 a75
              have hO57 := hO56.fault (x := 20) (d := 217) (by omega)
              have hp57 := hO57.p
              have hn57 := hO57.n
              refine wpList_nil (hK15 _ _ ?_)
              clear hK15 K15
              replace hE76 := hE76.keep (E' := [(0, _), (1, _), (5, _), (6, _), (7, _), (9, _), (11, _), (45, _), (52, _)]) ⟨rfl, rfl, rfl, rfl, rfl, rfl, rfl, rfl, rfl, trivial⟩
              refine wp_seq_k fun K16 hK16 => ?_
              refine wp_region_lit ?_
              refine one fun C hC => val hE76 (R.move hE76 rfl) rfl fun a77 hE77 => hC _ _ ?_
              clear hC C
              clear hE76 a76
              refine one fun C hC => val hE77 (R.move hE77 rfl) rfl fun a78 hE78 => hC _ _ ?_
              clear hC C
              clear hE77 a77
              refine one fun C hC => lit1 hE78 hM56 4 el_50 rfl rfl rfl  fun b57 a79 w57 hE79 hM57 => hC _ _ ?_
              clear hC C hE78 hM56 a78
              refine one fun C hC => val hE79 (R.nil hE79 rfl) rfl fun a80 hE80 => hC _ _ ?_
              clear hC C
              clear hE79 a79
              refine one fun C hC => val hE80 (R.fieldAddr hE80 53 8 15 fb_53_8 rfl) rfl fun a81 hE81 => hC _ _ ?_
              clear hC C
              clear hE80 a80
              obtain ⟨x2, hk2, hV2, hM58⟩ := machAt.openT (by first | rfl | assumption | ((try dsimp only); (try simp only [M.read_st, M.fault_st, M.say_st, M.begin_st, M.flush_st, M.keep_st, M.leave_st, M.again_st, M.first_st]); first | rfl | assumption)) (hM57.cast (show _ = (star (mach none b (({ y1.2.keep with named := true }.fault 20))) (star (pts b57 21 [.int .i32 (V.peek 0)]) (star G F0))) from by ac_rfl))
              try dsimp only at hM58 hk2
              clear hM57
              have hZ2 := hO57.ls
              try dsimp only at hZ2
              refine one fun C hC => store hE81 hM58 sc_50 rfl rfl rfl rfl  fun  a82 w59 hE82 hM59 => hC _ _ ?_
              clear hC C hE81 hM58 a81
              try simp only [List.set_cons_zero, List.set_cons_succ, Nat.zero_add] at hM59
              have hM60 := (((hM59.cut (row 21 1 rune x2.aA x2.aC (({ y1.2.keep with named := true }.fault 20).attr))).split (FindP.out (b := b57)))).row_of_pts (xs := [V.peek 0]) (enc := rune) (sz := 1) (by intro x _; rfl) rfl (by simp [maxLen])
              clear hM59
              refine wpList_nil (hK16 _ _ ?_)
              clear hK16 K16
              replace hE82 := hE82.keep (E' := [(0, _), (1, _), (5, _), (6, _), (7, _), (9, _), (11, _), (45, _), (52, _)]) ⟨rfl, rfl, rfl, rfl, rfl, rfl, rfl, rfl, rfl, trivial⟩
              have hO58 : M.Ok ({ ({ y1.2.keep with named := true }.fault 20) with attr := [V.peek 0] }) 216 := by have h1 := hO57.p; have h2 := hO57.n; have h3 := hO57.s; exact ⟨by (try dsimp only); omega, by (try dsimp only); omega, hO57.r, by (try simp only [M.sz, List.length_append, List.length_cons, List.length_nil] at h3 ⊢); omega⟩
              have hp58 := hO58.p
              have hn58 := hO58.n
              have hO59 : M.Ok ({ ({ y1.2.keep with named := true }.fault 20) with attr := [V.peek 0] }) 216 := by have h1 := hO58.p; have h2 := hO58.n; have h3 := hO58.s; exact ⟨by (try dsimp only); omega, by (try dsimp only); omega, hO58.r, by (try simp only [M.sz, List.length_append, List.length_cons, List.length_nil] at h3 ⊢); omega⟩
              have hp59 := hO59.p
              have hn59 := hO59.n
              have hM61 : Mem β _ (star (mach none b { ({ y1.2.keep with named := true }.fault 20) with attr := [V.peek 0] }) (star G F0)) := (machAt.closeT (T := 53) (R := 21) (K := 43) (L := 24) (A := 45) (V := none) (b := b) (S := { ({ y1.2.keep with named := true }.fault 20) with attr := [V.peek 0] }) (F := star G F0) (by first | rfl | assumption | ((try dsimp only); (try simp only [M.read_st, M.fault_st, M.say_st, M.begin_st, M.flush_st, M.keep_st, M.leave_st, M.again_st, M.first_st]); first | rfl | assumption)) { x2 with aA := some ⟨b57, 0, none⟩, aC := 1 } hk2 trivial (by (try dsimp only); (try simp only [List.length_nil, attrsOf_snoc, tagAt_true]); (try simp only [emp_star, star_emp]); exact hM60.cast (by ac_rfl)))
              clear hM60
              have hpk24 := hO59.peek 0
              refine wp_region_lit ?_
              refine one fun C hC => val hE82 (R.move hE82 rfl) rfl fun a83 hE83 => hC _ _ ?_
              clear hC C
              clear hE82 a82
              refine one fun C hC => callM hE83 (read_c b { ({ y1.2.keep with named := true }.fault 20) with attr := [V.peek 0] } hO59.pos hO59.f) cb_14 rfl hM61 rfl fun  a84 w62 hE84 hM62 => hC _ _ ?_
              clear hC C hE83 hM61 a83
              have hO60 := hO59.read
              have hp60 := hO60.p
              have hn60 := hO60.n
              refine one fun C hC => val hE84 (R.assign hE84 rfl) rfl fun a85 hE85 => hC _ _ ?_
              clear hC C
              clear hE84 a84
              replace hE85 := hE85.keep (E' := [(0, _), (1, _), (5, _), (6, _), (7, _), (9, _), (11, _), (45, _), (52, _)]) ⟨rfl, rfl, rfl, rfl, rfl, rfl, rfl, rfl, rfl, trivial⟩
              refine wpList_nil (hK13 _ _ ?_)
              refine wp_seq_k fun K17 hK17 => ?_
              refine wp_region_lit ?_
              refine one fun C hC => val hE85 (R.move hE85 rfl) rfl fun a86 hE86 => hC _ _ ?_
              clear hC C
              clear hE85 a85
              refine one fun C hC => val hE86 (R.move hE86 rfl) rfl fun a87 hE87 => hC _ _ ?_
              clear hC C
              clear hE86 a86
              refine one fun C hC => callO hE87 (attrName_c G hIn hRef hRo hRp hOdd b ({ ({ y1.2.keep with named := true }.fault 20) with attr := [V.peek 0] }.read) (by first | rfl | assumption | ((try dsimp only); (try simp only [M.read_st, M.fault_st, M.say_st, M.begin_st, M.flush_st, M.keep_st, M.leave_st, M.again_st, M.first_st]); first | rfl | assumption)) ({ ({ y1.2.keep with named := true }.fault 20) with attr := [V.peek 0] }.peek 0) (by omega) (hO60.le (by omega))) cb_41 rfl (hM62.cast (show (star (mach none b ({ ({ y1.2.keep with named := true }.fault 20) with attr := [V.peek 0] }.read)) (star G F0)) = (star (star (mach none b ({ ({ y1.2.keep with named := true }.fault 20) with attr := [V.peek 0] }.read)) G) F0) from by ac_rfl)) rfl ?_ ?_
              · intro hy2 w63 hM63
                exact hX _ _ hE87.defers (by rw [← hT]; unfold M.stepA; rw [hy1]; show (if y1.1 ≠ 0 then _ else (y1.2.attrFrom (V.peek 0)).bind _) = none; rw [if_neg (by simp [h0])]; have hz : y1.2.attrFrom (V.peek 0) = none := (by unfold M.attrFrom; simp only []; rw [if_pos ht5]; exact hy2); rw [hz]; rfl) hM63
              intro y2 hy2 a88 w63 hE88 hM63
              refine hC _ _ ?_
              clear hC C hE87 hM62 a87
              replace hM63 := hM63.cast (star_assoc _ _ _)
              refine one fun C hC => val hE88 (R.assign hE88 rfl) rfl fun a89 hE89 => hC _ _ ?_
              clear hC C
              clear hE88 a88
              refine wpList_nil (hK17 _ _ ?_)
              clear hK17 K17
              replace hE89 := hE89.keep (E' := [(0, _), (1, _), (5, _), (6, _), (7, _), (9, _), (11, _), (45, _), (52, _)]) ⟨rfl, rfl, rfl, rfl, rfl, rfl, rfl, rfl, rfl, trivial⟩
              refine wp_goto (gotoTo ?_)
              have hm := hM63
              have hz : y1.2.attrFrom (V.peek 0) = some y2 := by unfold M.attrFrom; simp only []; rw [if_pos ht5]; exact hy2
              have hN := hc.from hRo hy1 h0 hz
              unfold M.stepA at hT
              rw [hy1] at hT
              replace hT : (if y1.1 ≠ 0 then M.attrsN n y1.2 y1.1 else (y1.2.attrFrom (V.peek 0)).bind fun z => M.attrsN n z.2 z.1) = S.attributes to0 := hT
              rw [if_neg (by simp [h0]), hz] at hT
              replace hT : M.attrsN n y2.2 y2.1 = S.attributes to0 := hT
              exact hK 0 (n, y2.2, y2.1) _ _ ⟨rfl, hE89.keep ⟨rfl, rfl, trivial⟩, hm, hT, hN⟩ (Nat.lt_succ_self _)
            · intro hb5
              have ht5 := hb5
              try simp only [decide_eq_true_eq, decide_eq_false_iff_not, Bool.not_eq_true', Bool.not_eq_false', beq_iff_eq, Bool.and_eq_true, Bool.or_eq_true] at ht5
              refine wp_skip (hK13 _ _ ?_)
              refine wp_seq_k fun K18 hK18 => ?_
              refine wp_region_lit ?_
              refine one fun C hC => val hE74 (R.move hE74 rfl) rfl fun a75 hE75 => hC _ _ ?_
              clear hC C
              clear hE74 a74
              refine one fun C hC => val hE75 (R.move hE75 rfl) rfl fun a76 hE76 => hC _ _ ?_
              clear hC C
              clear hE75 a75
              have hO56 : M.Ok ({ y1.2.keep with named := true }) 218 := by have h1 := hO55.p; have h2 := hO55.n; have h3 := hO55.s; exact ⟨by (try dsimp only); omega, by (try dsimp only); omega, hO55.r, by (try simp only [M.sz, List.length_append, List.length_cons, List.length_nil] at h3 ⊢); omega⟩
              have hp56 := hO56.p
              have hn56 := hO56.n
              refine one fun C hC => callO hE76 (attrName_c G hIn hRef hRo hRp hOdd b { y1.2.keep with named := true } (by first | rfl | assumption | ((try dsimp only); (try simp only [M.read_st, M.fault_st, M.say_st, M.begin_st, M.flush_st, M.keep_st, M.leave_st, M.again_st, M.first_st]); first | rfl | assumption)) (V.peek 0) (by omega) (hO56.le (by omega))) cb_41 rfl ((machAt.closeT (T := 53) (R := 21) (K := 43) (L := 24) (A := 45) (V := none) (b := b) (S := { y1.2.keep with named := true }) (F := star G F0) (by first | rfl | assumption | ((try dsimp only); (try simp only [M.read_st, M.fault_st, M.say_st, M.begin_st, M.flush_st, M.keep_st, M.leave_st, M.again_st, M.first_st]); first | rfl | assumption)) x1 hk1 trivial (by (try dsimp only); (try simp only [List.length_nil, attrsOf_snoc, tagAt_true]); (try simp only [emp_star, star_emp]); exact hM55.cast (by ac_rfl))).cast (show (star (mach none b { y1.2.keep with named := true }) (star G F0)) = (star (star (mach none b { y1.2.keep with named := true }) G) F0) from by ac_rfl)) rfl ?_ ?_
              · intro hy2 w56 hM56
                exact hX _ _ hE76.defers (by rw [← hT]; unfold M.stepA; rw [hy1]; show (if y1.1 ≠ 0 then _ else (y1.2.attrFrom (V.peek 0)).bind _) = none; rw [if_neg (by simp [h0])]; have hz : y1.2.attrFrom (V.peek 0) = none := (by unfold M.attrFrom; simp only []; rw [if_neg ht5]; exact hy2); rw [hz]; rfl) hM56
              intro y2 hy2 a77 w56 hE77 hM56
              refine hC _ _ ?_
              clear hC C hE76 hM55 a76
              replace hM56 := hM56.cast (star_assoc _ _ _)
              refine one fun C hC => val hE77 (R.assign hE77 rfl) rfl fun a78 hE78 => hC _ _ ?_
              clear hC C
              clear hE77 a77
              refine wpList_nil (hK18 _ _ ?_)
              clear hK18 K18
              replace hE78 := hE78.keep (E' := [(0, _), (1, _), (5, _), (6, _), (7, _), (9, _), (11, _), (45, _), (52, _)]) ⟨rfl, rfl, rfl, rfl, rfl, rfl, rfl, rfl, rfl, trivial⟩
              refine wp_goto (gotoTo ?_)
              have hm := hM56
              have hz : y1.2.attrFrom (V.peek 0) = some y2 := by unfold M.attrFrom; simp only []; rw [if_neg ht5]; exact hy2
              have hN := hc.from hRo hy1 h0 hz
              unfold M.stepA at hT
              rw [hy1] at hT
              replace hT : (if y1.1 ≠ 0 then M.attrsN n y1.2 y1.1 else (y1.2.attrFrom (V.peek 0)).bind fun z => M.attrsN n z.2 z.1) = S.attributes to0 := hT
              rw [if_neg (by simp [h0]), hz] at hT
              replace hT : M.attrsN n y2.2 y2.1 = S.attributes to0 := hT
              exact hK 0 (n, y2.2, y2.1) _ _ ⟨rfl, hE78.keep ⟨rfl, rfl, trivial⟩, hm, hT, hN⟩ (Nat.lt_succ_self _)
        · intro hb3
          have ht3 := hb3
          try simp only [decide_eq_true_eq, decide_eq_false_iff_not, Bool.not_eq_true', Bool.not_eq_false', beq_iff_eq, Bool.and_eq_true, Bool.or_eq_true] at ht3
          refine wp_seq_k fun K19 hK19 => ?_
          refine wp_region_lit ?_
          refine one fun C hC => val hE57 (R.eql hE57 rfl rfl) rfl fun a58 hE58 => hC _ _ ?_
          clear hC C
          clear hE57 a57
          refine one fun C hC => val hE58 (R.assign hE58 rfl) rfl fun a59 hE59 => hC _ _ ?_
          clear hC C
          clear hE58 a58
          refine wpList_nil (hK19 _ _ ?_)
          clear hK19 K19
          replace hE59 := hE59.keep (E' := [(0, _), (1, _), (6, _), (7, _), (9, _), (11, _), (15, _)]) ⟨rfl, rfl, rfl, rfl, rfl, rfl, rfl, trivial⟩
          refine condR hE59 rfl ?_ ?_
          · intro hb4
            have ht4 := hb4
            try simp only [decide_eq_true_eq, decide_eq_false_iff_not, Bool.not_eq_true', Bool.not_eq_false', beq_iff_eq, Bool.and_eq_true, Bool.or_eq_true] at ht4
            refine wp_region_lit ?_
            refine one fun C hC => val hE59 (R.move hE59 rfl) rfl fun a60 hE60 => hC _ _ ?_
            clear hC C
            clear hE59 a59
            refine one fun C hC => val hE60 (R.nil hE60 rfl) rfl fun a61 hE61 => hC _ _ ?_
            clear hC C
            clear hE60 a60
            refine one fun C hC => val hE61 (R.fieldAddr hE61 53 13 20 fb_53_13 rfl) rfl fun a62 hE62 => hC _ _ ?_
            clear hC C
            clear hE61 a61
            obtain ⟨x1, hk1, hV1, hM51⟩ := machAt.open_ hM50
            try dsimp only at hM51 hk1
            clear hM50
            have hZ1 := hO50.ls
            try dsimp only at hZ1
            refine one fun C hC => val hE62 (R.load hE62 sc_21 rfl hM51 (by rfl)) rfl fun a63 hE63 => hC _ _ ?_
            clear hC C
            clear hE62 a62
            refine one fun C hC => val hE63 (R.assign hE63 rfl) rfl fun a64 hE64 => hC _ _ ?_
            clear hC C
            clear hE63 a63
            replace hE64 := hE64.keep (E' := [(0, _), (1, _), (5, _), (6, _), (7, _), (9, _), (11, _), (15, _)]) ⟨rfl, rfl, rfl, rfl, rfl, rfl, rfl, rfl, trivial⟩
            refine wpList_nil (hK1 _ _ ?_)
            refine wp_seq_k fun K20 hK20 => ?_
            refine wp_seq_k fun K21 hK21 => ?_
            have hM52 : Mem β _ (star (mach none b V) (star G F0)) := (machAt.close (T := 53) (R := 21) (K := 43) (L := 24) (A := 45) (V := none) (b := b) (S := V) (F := star G F0) x1 hk1 trivial (by (try dsimp only); (try simp only [List.length_nil, attrsOf_snoc, tagAt_true]); (try simp only [emp_star, star_emp]); exact hM51.cast (by ac_rfl)))
            clear hM51
            have hc : Cur 0 S n V V.last := hA.last ht4
            have hsc := hc.s
            have hcb := hc.b
            rw [if_neg ht1, if_neg ht2, if_neg (by omega), if_neg ht3, if_neg ht3, if_pos ht4] at hT
            have hO51 := (hc.o.le (by omega) : M.Ok _ 174)
            have hp51 := hO51.p
            have hn51 := hO51.n
            refine wp_region_lit ?_
            refine one fun C hC => val hE64 (R.move hE64 rfl) rfl fun a65 hE65 => hC _ _ ?_
            clear hC C
            clear hE64 a64
            refine one fun C hC => val hE65 (R.move hE65 rfl) rfl fun a66 hE66 => hC _ _ ?_
            clear hC C
            clear hE65 a65
            refine one fun C hC => callO hE66 (edge_c G hIn b V (by first | rfl | assumption | ((try dsimp only); (try simp only [M.read_st, M.fault_st, M.say_st, M.begin_st, M.flush_st, M.keep_st, M.leave_st, M.again_st, M.first_st]); first | rfl | assumption)) V.last (hO51.le (by omega))) cb_39 rfl (hM52.cast (show (star (mach none b V) (star G F0)) = (star (star (mach none b V) G) F0) from by ac_rfl)) rfl ?_ ?_
            · intro hy1 w53 hM53
              exact hX _ _ hE66.defers (by rw [← hT]; unfold M.stepA; rw [hy1]; rfl) hM53
            intro y1 hy1 a67 w53 hE67 hM53
            refine hC _ _ ?_
            clear hC C hE66 hM52 a66
            replace hM53 := hM53.cast (star_assoc _ _ _)
            have hO52 := hO51.edge hy1 (d := 170) (by omega)
            have hp52 := hO52.p
            have hn52 := hO52.n
            refine one fun C hC => val hE67 (R.assign hE67 rfl) rfl fun a68 hE68 => hC _ _ ?_
            clear hC C
            clear hE67 a67
            refine wpList_nil (hK21 _ _ ?_)
            clear hK21 K21
            replace hE68 := hE68.keep (E' := [(0, _), (1, _), (5, _), (6, _), (7, _), (9, _), (11, _), (15, _)]) ⟨rfl, rfl, rfl, rfl, rfl, rfl, rfl, rfl, trivial⟩
            refine wp_seq_k fun K22 hK22 => ?_
            refine wp_region_lit ?_
            refine one fun C hC => val hE68 (R.move hE68 rfl) rfl fun a69 hE69 => hC _ _ ?_
            clear hC C
            clear hE68 a68
            refine one fun C hC => val hE69 (R.neq hE69 rfl rfl) rfl fun a70 hE70 => hC _ _ ?_
            clear hC C
            clear hE69 a69
            refine wpList_nil (hK22 _ _ ?_)
            clear hK22 K22
            replace hE70 := hE70.keep (E' := [(0, _), (1, _), (5, _), (6, _), (7, _), (9, _), (11, _), (15, _), (45, _)]) ⟨rfl, rfl, rfl, rfl, rfl, rfl, rfl, rfl, rfl, trivial⟩
            refine condR hE70 rfl ?_ ?_
            · intro hb5
              have ht5 := hb5
              try simp only [decide_eq_true_eq, decide_eq_false_iff_not, Bool.not_eq_true', Bool.not_eq_false', beq_iff_eq, Bool.and_eq_true, Bool.or_eq_true] at ht5
              refine wp_goto (gotoThen (gotoTo ?_))
              have hm := hM53
              have h0 : y1.1 ≠ 0 := ht5
              have hN := hc.edge hy1 h0
              unfold M.stepA at hT
              rw [hy1] at hT
              replace hT : (if y1.1 ≠ 0 then M.attrsN n y1.2 y1.1 else (y1.2.attrFrom _).bind fun z => M.attrsN n z.2 z.1) = S.attributes to0 := hT
              rw [if_pos h0] at hT
              exact hK 0 (n, y1.2, y1.1) _ _ ⟨rfl, hE70.keep ⟨rfl, rfl, trivial⟩, hm, hT, hN⟩ (Nat.lt_succ_self _)
            · intro hb5
              have ht5 := hb5
              try simp only [decide_eq_true_eq, decide_eq_false_iff_not, Bool.not_eq_true', Bool.not_eq_false', beq_iff_eq, Bool.and_eq_true, Bool.or_eq_true] at ht5
              refine wp_skip (hK20 _ _ ?_)
              refine wp_seq_k fun K23 hK23 => ?_
              have h0 : y1.1 = 0 := ht5
              have hst := stay_plain hy1 h0
              have hrn : V.last ≠ -1 := by intro h6; have h7 := hst.1; rw [h6] at h7; exact absurd h7 (by decide)
              have hsy : y1.2.stale = false := by rw [hst.2]; exact hsc
              have hOy : y1.2.Ok 219 := by rw [hst.2]; exact ((hc.m hrn).1.le (by omega)).last
              have hO53 := hOy
              have hp53 := hO53.p
              have hn53 := hO53.n
              refine wp_region_lit ?_
              refine one fun C hC => val hE70 (R.move hE70 rfl) rfl fun a71 hE71 => hC _ _ ?_
              clear hC C
              clear hE70 a70
              refine one fun C hC => callM hE71 (keep_c b y1.2 (by first | rfl | assumption | ((try dsimp only); (try simp only [M.read_st, M.fault_st, M.say_st, M.begin_st, M.flush_st, M.keep_st, M.leave_st, M.again_st, M.first_st]); first | rfl | assumption)) hO53.g) cb_40 rfl hM53 rfl fun  a72 w54 hE72 hM54 => hC _ _ ?_
              clear hC C hE71 hM53 a71
              have hO54 := hO53.keep (d := 218) (by omega)
              have hp54 := hO54.p
              have hn54 := hO54.n
              refine wpList_nil (hK23 _ _ ?_)
              clear hK23 K23
              replace hE72 := hE72.keep (E' := [(0, _), (1, _), (5, _), (6, _), (7, _), (9, _), (11, _), (15, _), (45, _)]) ⟨rfl, rfl, rfl, rfl, rfl, rfl, rfl, rfl, rfl, trivial⟩
              refine wp_seq_k fun K24 hK24 => ?_
              refine wp_region_lit ?_
              refine one fun C hC => val hE72 (R.move hE72 rfl) rfl fun a73 hE73 => hC _ _ ?_
              clear hC C
              clear hE72 a72
              refine one fun C hC => val hE73 (R.nil hE73 rfl) rfl fun a74 hE74 => hC _ _ ?_
              clear hC C
              clear hE73 a73
              refine one fun C hC => val hE74 (R.fieldAddr hE74 53 10 17 fb_53_10 rfl) rfl fun a75 hE75 => hC _ _ ?_
              clear hC C
              clear hE74 a74
              obtain ⟨x2, hk2, hV2, hM55⟩ := machAt.openT (by first | rfl | assumption | ((try dsimp only); (try simp only [M.read_st, M.fault_st, M.say_st, M.begin_st, M.flush_st, M.keep_st, M.leave_st, M.again_st, M.first_st]); first | rfl | assumption)) hM54
              try dsimp only at hM55 hk2
              clear hM54
              have hZ2 := hO54.ls
              try dsimp only at hZ2
              refine one fun C hC => store hE75 hM55 sc_4 rfl rfl rfl rfl  fun  a76 w56 hE76 hM56 => hC _ _ ?_
              clear hC C hE75 hM55 a75
              try simp only [List.set_cons_zero, List.set_cons_succ, Nat.zero_add] at hM56
              refine wpList_nil (hK24 _ _ ?_)
              clear hK24 K24
              replace hE76 := hE76.keep (E' := [(0, _), (1, _), (5, _), (6, _), (7, _), (9, _), (11, _), (15, _), (45, _)]) ⟨rfl, rfl, rfl, rfl, rfl, rfl, rfl, rfl, rfl, trivial⟩
              refine wp_seq_k fun K25 hK25 => ?_
              refine wp_seq_k fun K26 hK26 => ?_
              refine wp_region_lit ?_
              refine one fun C hC => val hE76 (R.move hE76 rfl) rfl fun a77 hE77 => hC _ _ ?_
              clear hC C
              clear hE76 a76
              refine one fun C hC => val hE77 (R.eql hE77 rfl rfl) rfl fun a78 hE78 => hC _ _ ?_
              clear hC C
              clear hE77 a77
              refine wpList_nil (hK26 _ _ ?_)
              clear hK26 K26
              replace hE78 := hE78.keep (E' := [(0, _), (1, _), (5, _), (6, _), (7, _), (9, _), (11, _), (15, _), (45, _), (52, _)]) ⟨rfl, rfl, rfl, rfl, rfl, rfl, rfl, rfl, rfl, rfl, trivial⟩
              refine condR hE78 rfl ?_ ?_
              · intro hb6
                have ht6 := hb6
                try simp only [decide_eq_true_eq, decide_eq_false_iff_not, Bool.not_eq_true', Bool.not_eq_false', beq_iff_eq, Bool.and_eq_true, Bool.or_eq_true] at ht6
                refine wp_seq_k fun K27 hK27 => ?_
                refine wp_region_lit ?_
                refine one fun C hC => val hE78 (R.move hE78 rfl) rfl fun a79 hE79 => hC _ _ ?_
                clear hC C
                clear hE78 a78
                have hO55 : M.Ok ({ y1.2.keep with named := true }) 218 := by have h1 := hO54.p; have h2 := hO54.n; have h3 := hO54.s; exact ⟨by (try dsimp only); omega, by (try dsimp only); omega, hO54.r, by (try simp only [M.sz, List.length_append, List.length_cons, List.length_nil] at h3 ⊢); omega⟩
                have hp55 := hO55.p
                have hn55 := hO55.n
                refine one fun C hC => callM hE79 (fault_c b { y1.2.keep with named := true } 20 hO55.f) cb_20 rfl (machAt.closeT (T := 53) (R := 21) (K := 43) (L := 24) (A := 45) (V := none) (b := b) (S := { y1.2.keep with named := true }) (F := star G F0) (by first | rfl | assumption | ((try dsimp only); (try simp only [M.read_st, M.fault_st, M.say_st, M.begin_st, M.flush_st, M.keep_st, M.leave_st, M.again_st, M.first_st]); first | rfl | assumption)) x2 hk2 trivial (by (try dsimp only); (try simp only [List.length_nil, attrsOf_snoc, tagAt_true]); (try simp only [emp_star, star_emp]); exact hM56.cast (by ac_rfl))) rfl fun  a80 w57 hE80 hM57 => hC _ _ ?_
                clear hC C hE79 hM56 a79
                have hO56 := hO55.fault (x := 20) (d := 217) (by omega)
                have hp56 := hO56.p
                have hn56 := hO56.n
                refine wpList_nil (hK27 _ _ ?_)
                clear hK27 K27
                replace hE80 := hE80.keep (E' := [(0, _), (1, _), (5, _), (6, _), (7, _), (9, _), (11, _), (15, _), (45, _), (52, _)]) ⟨rfl, rfl, rfl, rfl, rfl, rfl, rfl, rfl, rfl, rfl, trivial⟩
                refine wp_seq_k fun K28 hK28 => ?_
                refine wp_region_lit ?_
                refine one fun C hC => val hE80 (R.move hE80 rfl) rfl fun a81 hE81 => hC _ _ ?_
                clear hC C
                clear hE80 a80
                refine one fun C hC => val hE81 (R.move hE81 rfl) rfl fun a82 hE82 => hC _ _ ?_
                clear hC C
                clear hE81 a81
                refine one fun C hC => lit1 hE82 hM57 4 el_50 rfl rfl rfl  fun b57 a83 w58 hE83 hM58 => hC _ _ ?_
                clear hC C hE82 hM57 a82
                refine one fun C hC => val hE83 (R.nil hE83 rfl) rfl fun a84 hE84 => hC _ _ ?_
                clear hC C
                clear hE83 a83
                refine one fun C hC => val hE84 (R.fieldAddr hE84 53 8 15 fb_53_8 rfl) rfl fun a85 hE85 => hC _ _ ?_
                clear hC C
                clear hE84 a84
                obtain ⟨x3, hk3, hV3, hM59⟩ := machAt.openT (by first | rfl | assumption | ((try dsimp only); (try simp only [M.read_st, M.fault_st, M.say_st, M.begin_st, M.flush_st, M.keep_st, M.leave_st, M.again_st, M.first_st]); first | rfl | assumption)) (hM58.cast (show _ = (star (mach none b (({ y1.2.keep with named := true }.fault 20))) (star (pts b57 21 [.int .i32 V.last]) (star G F0))) from by ac_rfl))
                try dsimp only at hM59 hk3
                clear hM58
                have hZ3 := hO56.ls
                try dsimp only at hZ3
                refine one fun C hC => store hE85 hM59 sc_50 rfl rfl rfl rfl  fun  a86 w60 hE86 hM60 => hC _ _ ?_
                clear hC C hE85 hM59 a85
                try simp only [List.set_cons_zero, List.set_cons_succ, Nat.zero_add] at hM60
                have hM61 := (((hM60.cut (row 21 1 rune x3.aA x3.aC (({ y1.2.keep with named := true }.fault 20).attr))).split (FindP.out (b := b57)))).row_of_pts (xs := [V.last]) (enc := rune) (sz := 1) (by intro x _; rfl) rfl (by simp [maxLen])
                clear hM60
                refine wpList_nil (hK28 _ _ ?_)
                clear hK28 K28
                replace hE86 := hE86.keep (E' := [(0, _), (1, _), (5, _), (6, _), (7, _), (9, _), (11, _), (15, _), (45, _), (52, _)]) ⟨rfl, rfl, rfl, rfl, rfl, rfl, rfl, rfl, rfl, rfl, trivial⟩
                have hO57 : M.Ok ({ ({ y1.2.keep with named := true }.fault 20) with attr := [V.last] }) 216 := by have h1 := hO56.p; have h2 := hO56.n; have h3 := hO56.s; exact ⟨by (try dsimp only); omega, by (try dsimp only); omega, hO56.r, by (try simp only [M.sz, List.length_append, List.length_cons, List.length_nil] at h3 ⊢); omega⟩
                have hp57 := hO57.p
                have hn57 := hO57.n
                have hO58 : M.Ok ({ ({ y1.2.keep with named := true }.fault 20) with attr := [V.last] }) 216 := by have h1 := hO57.p; have h2 := hO57.n; have h3 := hO57.s; exact ⟨by (try dsimp only); omega, by (try dsimp only); omega, hO57.r, by (try simp only [M.sz, List.length_append, List.length_cons, List.length_nil] at h3 ⊢); omega⟩
                have hp58 := hO58.p
                have hn58 := hO58.n
                have hM62 : Mem β _ (star (mach none b { ({ y1.2.keep with named := true }.fault 20) with attr := [V.last] }) (star G F0)) := (machAt.closeT (T := 53) (R := 21) (K := 43) (L := 24) (A := 45) (V := none) (b := b) (S := { ({ y1.2.keep with named := true }.fault 20) with attr := [V.last] }) (F := star G F0) (by first | rfl | assumption | ((try dsimp only); (try simp only [M.read_st, M.fault_st, M.say_st, M.begin_st, M.flush_st, M.keep_st, M.leave_st, M.again_st, M.first_st]); first | rfl | assumption)) { x3 with aA := some ⟨b57, 0, none⟩, aC := 1 } hk3 trivial (by (try dsimp only); (try simp only [List.length_nil, attrsOf_snoc, tagAt_true]); (try simp only [emp_star, star_emp]); exact hM61.cast (by ac_rfl)))
                clear hM61
                have hpk24 := hO58.peek 0
                refine wp_region_lit ?_
                refine one fun C hC => val hE86 (R.move hE86 rfl) rfl fun a87 hE87 => hC _ _ ?_
                clear hC C
                clear hE86 a86
                refine one fun C hC => callM hE87 (read_c b { ({ y1.2.keep with named := true }.fault 20) with attr := [V.last] } hO58.pos hO58.f) cb_14 rfl hM62 rfl fun  a88 w63 hE88 hM63 => hC _ _ ?_
                clear hC C hE87 hM62 a87
                have hO59 := hO58.read
                have hp59 := hO59.p
                have hn59 := hO59.n
                refine one fun C hC => val hE88 (R.assign hE88 rfl) rfl fun a89 hE89 => hC _ _ ?_
                clear hC C
                clear hE88 a88
                replace hE89 := hE89.keep (E' := [(0, _), (1, _), (5, _), (6, _), (7, _), (9, _), (11, _), (15, _), (45, _), (52, _)]) ⟨rfl, rfl, rfl, rfl, rfl, rfl, rfl, rfl, rfl, rfl, trivial⟩
                refine wpList_nil (hK25 _ _ ?_)
                refine wp_seq_k fun K29 hK29 => ?_
                refine wp_region_lit ?_
                refine one fun C hC => val hE89 (R.move hE89 rfl) rfl fun a90 hE90 => hC _ _ ?_
                clear hC C
                clear hE89 a89
                refine one fun C hC => val hE90 (R.move hE90 rfl) rfl fun a91 hE91 => hC _ _ ?_
                clear hC C
                clear hE90 a90
                refine one fun C hC => callO hE91 (attrName_c G hIn hRef hRo hRp hOdd b ({ ({ y1.2.keep with named := true }.fault 20) with attr := [V.last] }.read) (by first | rfl | assumption | ((try dsimp only); (try simp only [M.read_st, M.fault_st, M.say_st, M.begin_st, M.flush_st, M.keep_st, M.leave_st, M.again_st, M.first_st]); first | rfl | assumption)) ({ ({ y1.2.keep with named := true }.fault 20) with attr := [V.last] }.peek 0) (by omega) (hO59.le (by omega))) cb_41 rfl (hM63.cast (show (star (mach none b ({ ({ y1.2.keep with named := true }.fault 20) with attr := [V.last] }.read)) (star G F0)) = (star (star (mach none b ({ ({ y1.2.keep with named := true }.fault 20) with attr := [V.last] }.read)) G) F0) from by ac_rfl)) rfl ?_ ?_
                · intro hy2 w64 hM64
                  exact hX _ _ hE91.defers (by rw [← hT]; unfold M.stepA; rw [hy1]; show (if y1.1 ≠ 0 then _ else (y1.2.attrFrom V.last).bind _) = none; rw [if_neg (by simp [h0])]; have hz : y1.2.attrFrom V.last = none := (by unfold M.attrFrom; simp only []; rw [if_pos ht6]; exact hy2); rw [hz]; rfl) hM64
                intro y2 hy2 a92 w64 hE92 hM64
                refine hC _ _ ?_
                clear hC C hE91 hM63 a91
                replace hM64 := hM64.cast (star_assoc _ _ _)
                refine one fun C hC => val hE92 (R.assign hE92 rfl) rfl fun a93 hE93 => hC _ _ ?_
                clear hC C
                clear hE92 a92
                refine wpList_nil (hK29 _ _ ?_)
                clear hK29 K29
                replace hE93 := hE93.keep (E' := [(0, _), (1, _), (5, _), (6, _), (7, _), (9, _), (11, _), (15, _), (45, _), (52, _)]) ⟨rfl, rfl, rfl, rfl, rfl, rfl, rfl, rfl, rfl, rfl, trivial⟩
                refine wp_goto (gotoTo ?_)
                have hm := hM64
                have hz : y1.2.attrFrom V.last = some y2 := by unfold M.attrFrom; simp only []; rw [if_pos ht6]; exact hy2
                have hN := hc.from hRo hy1 h0 hz
                unfold M.stepA at hT
                rw [hy1] at hT
                replace hT : (if y1.1 ≠ 0 then M.attrsN n y1.2 y1.1 else (y1.2.attrFrom V.last).bind fun z => M.attrsN n z.2 z.1) = S.attributes to0 := hT
                rw [if_neg (by simp [h0]), hz] at hT
                replace hT : M.attrsN n y2.2 y2.1 = S.attributes to0 := hT
                exact hK 0 (n, y2.2, y2.1) _ _ ⟨rfl, hE93.keep ⟨rfl, rfl, trivial⟩, hm, hT, hN⟩ (Nat.lt_succ_self _)
              · intro hb6
                have ht6 := hb6
                try simp only [decide_eq_true_eq, decide_eq_false_iff_not, Bool.not_eq_true', Bool.not_eq_false', beq_iff_eq, Bool.and_eq_true, Bool.or_eq_true] at ht6
                refine wp_skip (hK25 _ _ ?_)
                refine wp_seq_k fun K30 hK30 => ?_
                refine wp_region_lit ?_
                refine one fun C hC => val hE78 (R.move hE78 rfl) rfl fun a79 hE79 => hC _ _ ?_
                clear hC C
                clear hE78 a78
                refine one fun C hC => val hE79 (R.move hE79 rfl) rfl fun a80 hE80 => hC _ _ ?_
                clear hC C
                clear hE79 a79
                have hO55 : M.Ok ({ y1.2.keep with named := true }) 218 := by have h1 := hO54.p; have h2 := hO54.n; have h3 := hO54.s; exact ⟨by (try dsimp only); omega, by (try dsimp only); omega, hO54.r, by (try simp only [M.sz, List.length_append, List.length_cons, List.length_nil] at h3 ⊢); omega⟩
                have hp55 := hO55.p
                have hn55 := hO55.n
                refine one fun C hC => callO hE80 (attrName_c G hIn hRef hRo hRp hOdd b { y1.2.keep with named := true } (by first | rfl | assumption | ((try dsimp only); (try simp only [M.read_st, M.fault_st, M.say_st, M.begin_st, M.flush_st, M.keep_st, M.leave_st, M.again_st, M.first_st]); first | rfl | assumption)) V.last (by omega) (hO55.le (by omega))) cb_41 rfl ((machAt.closeT (T := 53) (R := 21) (K := 43) (L := 24) (A := 45) (V := none) (b := b) (S := { y1.2.keep with named := true }) (F := star G F0) (by first | rfl | assumption | ((try dsimp only); (try simp only [M.read_st, M.fault_st, M.say_st, M.begin_st, M.flush_st, M.keep_st, M.leave_st, M.again_st, M.first_st]); first | rfl | assumption)) x2 hk2 trivial (by (try dsimp only); (try simp only [List.length_nil, attrsOf_snoc, tagAt_true]); (try simp only [emp_star, star_emp]); exact hM56.cast (by ac_rfl))).cast (show (star (mach none b { y1.2.keep with named := true }) (star G F0)) = (star (star (mach none b { y1.2.keep with named := true }) G) F0) from by ac_rfl)) rfl ?_ ?_
                · intro hy2 w57 hM57
                  exact hX _ _ hE80.defers (by rw [← hT]; unfold M.stepA; rw [hy1]; show (if y1.1 ≠ 0 then _ else (y1.2.attrFrom V.last).bind _) = none; rw [if_neg (by simp [h0])]; have hz : y1.2.attrFrom V.last = none := (by unfold M.attrFrom; simp only []; rw [if_neg ht6]; exact hy2); rw [hz]; rfl) hM57
                intro y2 hy2 a81 w57 hE81 hM57
                refine hC _ _ ?_
                clear hC C hE80 hM56 a80
                replace hM57 := hM57.cast (star_assoc _ _ _)
                refine one fun C hC => val hE81 (R.assign hE81 rfl) rfl fun a82 hE82 => hC _ _ ?_
                clear hC C
                clear hE81 a81
                refine wpList_nil (hK30 _ _ ?_)
                clear hK30 K30
                replace hE82 := hE82.keep (E' := [(0, _), (1, _), (5, _), (6, _), (7, _), (9, _), (11, _), (15, _), (45, _), (52, _)]) ⟨rfl, rfl, rfl, rfl, rfl, rfl, rfl, rfl, rfl, rfl, trivial⟩
                refine wp_goto (gotoTo ?_)
                have hm := hM57
                have hz : y1.2.attrFrom V.last = some y2 := by unfold M.attrFrom; simp only []; rw [if_neg ht6]; exact hy2
                have hN := hc.from hRo hy1 h0 hz
                unfold M.stepA at hT
                rw [hy1] at hT
                replace hT : (if y1.1 ≠ 0 then M.attrsN n y1.2 y1.1 else (y1.2.attrFrom V.last).bind fun z => M.attrsN n z.2 z.1) = S.attributes to0 := hT
                rw [if_neg (by simp [h0]), hz] at hT
                replace hT : M.attrsN n y2.2 y2.1 = S.attributes to0 := hT
                exact hK 0 (n, y2.2, y2.1) _ _ ⟨rfl, hE82.keep ⟨rfl, rfl, trivial⟩, hm, hT, hN⟩ (Nat.lt_succ_self _)
          · intro hb4
            have ht4 := hb4
            try simp only [decide_eq_true_eq, decide_eq_false_iff_not, Bool.not_eq_true', Bool.not_eq_false', beq_iff_eq, Bool.and_eq_true, Bool.or_eq_true] at ht4
            refine wp_seq_k fun K31 hK31 => ?_
            refine wp_region_lit ?_
            refine one fun C hC => val hE59 (R.eql hE59 rfl rfl) rfl fun a60 hE60 => hC _ _ ?_
            clear hC C
            clear hE59 a59
            refine one fun C hC => val hE60 (R.assign hE60 rfl) rfl fun a61 hE61 => hC _ _ ?_
            clear hC C
            clear hE60 a60
            refine wpList_nil (hK31 _ _ ?_)
            clear hK31 K31
            replace hE61 := hE61.keep (E' := [(0, _), (1, _), (6, _), (7, _), (9, _), (11, _), (15, _), (21, _)]) ⟨rfl, rfl, rfl, rfl, rfl, rfl, rfl, rfl, trivial⟩
            refine condR hE61 rfl ?_ ?_
            · intro hb5
              have ht5 := hb5
              try simp only [decide_eq_true_eq, decide_eq_false_iff_not, Bool.not_eq_true', Bool.not_eq_false', beq_iff_eq, Bool.and_eq_true, Bool.or_eq_true] at ht5
              refine wp_seq_k fun K32 hK32 => ?_
              refine wp_region_lit ?_
              refine one fun C hC => val hE61 (R.move hE61 rfl) rfl fun a62 hE62 => hC _ _ ?_
              clear hC C
              clear hE61 a61
              refine one fun C hC => callM hE62 (read_c b V hO50.pos hO50.f) cb_14 rfl hM50 rfl fun  a63 w51 hE63 hM51 => hC _ _ ?_
              clear hC C hE62 hM50 a62
              have hO51 := hO50.read
              have hp51 := hO51.p
              have hn51 := hO51.n
              refine one fun C hC => val hE63 (R.assign hE63 rfl) rfl fun a64 hE64 => hC _ _ ?_
              clear hC C
              clear hE63 a63
              refine wpList_nil (hK32 _ _ ?_)
              clear hK32 K32
              replace hE64 := hE64.keep (E' := [(0, _), (1, _), (5, _), (6, _), (7, _), (9, _), (11, _), (15, _), (21, _)]) ⟨rfl, rfl, rfl, rfl, rfl, rfl, rfl, rfl, rfl, trivial⟩
              refine wp_seq_k fun K33 hK33 => ?_
              refine wp_region_lit ?_
              refine one fun C hC => val hE64 (R.move hE64 rfl) rfl fun a65 hE65 => hC _ _ ?_
              clear hC C
              clear hE64 a64
              refine one fun C hC => val hE65 (R.move hE65 rfl) rfl fun a66 hE66 => hC _ _ ?_
              clear hC C
              clear hE65 a65
              refine one fun C hC => val hE66 (R.eql hE66 rfl rfl) rfl fun a67 hE67 => hC _ _ ?_
              clear hC C
              clear hE66 a66
              refine one fun C hC => val hE67 (R.nil hE67 rfl) rfl fun a68 hE68 => hC _ _ ?_
              clear hC C
              clear hE67 a67
              refine one fun C hC => val hE68 (R.fieldAddr hE68 53 12 19 fb_53_12 rfl) rfl fun a69 hE69 => hC _ _ ?_
              clear hC C
              clear hE68 a68
              obtain ⟨x1, hk1, hV1, hM52⟩ := machAt.open_ hM51
              try dsimp only at hM52 hk1
              clear hM51
              have hZ1 := hO51.ls
              try dsimp only at hZ1
              refine one fun C hC => store hE69 hM52 sc_4 rfl rfl rfl rfl  fun  a70 w53 hE70 hM53 => hC _ _ ?_
              clear hC C hE69 hM52 a69
              try simp only [List.set_cons_zero, List.set_cons_succ, Nat.zero_add] at hM53
              refine wpList_nil (hK33 _ _ ?_)
              clear hK33 K33
              replace hE70 := hE70.keep (E' := [(0, _), (1, _), (5, _), (6, _), (7, _), (9, _), (11, _), (15, _), (21, _)]) ⟨rfl, rfl, rfl, rfl, rfl, rfl, rfl, rfl, rfl, trivial⟩
              refine wp_seq_k fun K34 hK34 => ?_
              refine wp_seq_k fun K35 hK35 => ?_
              refine wp_region_lit ?_
              refine one fun C hC => val hE70 (R.move hE70 rfl) rfl fun a71 hE71 => hC _ _ ?_
              clear hC C
              clear hE70 a70
              refine one fun C hC => val hE71 (R.eql hE71 rfl rfl) rfl fun a72 hE72 => hC _ _ ?_
              clear hC C
              clear hE71 a71
              refine one fun C hC => val hE72 (R.move hE72 rfl) rfl fun a73 hE73 => hC _ _ ?_
              clear hC C
              clear hE72 a72
              refine splitE hE73 (x := .tmp 32) rfl ?_ ?_
              · intro hb6
                have ht6 := hb6
                try simp only [decide_eq_true_eq, decide_eq_false_iff_not, Bool.not_eq_true', Bool.not_eq_false', beq_iff_eq, Bool.and_eq_true, Bool.or_eq_true] at ht6
                refine oneOff hE73 rfl rfl hb6 rfl fun a74 hE74 => ?_
                clear hE73 a73
                refine oneOff hE74 rfl rfl hb6 rfl fun a75 hE75 => ?_
                clear hE74 a74
                refine one fun C hC => val hE75 (R.pickT hE75 rfl hb6 rfl) rfl fun a76 hE76 => hC _ _ ?_
                clear hC C
                clear hE75 a75
                refine wpList_nil (hK35 _ _ ?_)
                clear hK35 K35
                replace hE76 := hE76.keep (E' := [(0, _), (1, _), (5, _), (6, _), (7, _), (9, _), (11, _), (15, _), (21, _), (35, _)]) ⟨rfl, rfl, rfl, rfl, rfl, rfl, rfl, rfl, rfl, rfl, trivial⟩
                refine condT hE76 rfl rfl ?_
                refine wp_seq_k fun K36 hK36 => ?_
                have hO52 : M.Ok ({ V.read with slash := decide (V.peek 0 = 62) }) 170 := by have h1 := hO51.p; have h2 := hO51.n; have h3 := hO51.s; exact ⟨by (try dsimp only); omega, by (try dsimp only); omega, hO51.r, by (try simp only [M.sz, List.length_append, List.length_cons, List.length_nil] at h3 ⊢); omega⟩
                have hp52 := hO52.p
                have hn52 := hO52.n
                have hM54 : Mem β _ (star (mach none b V.slashed) (star G F0)) := (machAt.close (T := 53) (R := 21) (K := 43) (L := 24) (A := 45) (V := none) (b := b) (S := { V.read with slash := decide (V.peek 0 = 62) }) (F := star G F0) x1 hk1 trivial (by (try dsimp only); (try simp only [List.length_nil, attrsOf_snoc, tagAt_true]); (try simp only [emp_star, star_emp]); exact hM53.cast (by ac_rfl)))
                clear hM53
                have hc : Cur 0 S n V.slashed (V.peek 0) := hA.slash ht5
                have hsc := hc.s
                have hcb := hc.b
                rw [if_neg ht1, if_neg ht2, if_pos ht5, if_pos (by omega)] at hT
                have hO53 := (hc.o.le (by omega) : M.Ok _ 174)
                have hp53 := hO53.p
                have hn53 := hO53.n
                refine wp_region_lit ?_
                refine one fun C hC => val hE76 (R.move hE76 rfl) rfl fun a77 hE77 => hC _ _ ?_
                clear hC C
                clear hE76 a76
                refine one fun C hC => val hE77 (R.move hE77 rfl) rfl fun a78 hE78 => hC _ _ ?_
                clear hC C
                clear hE77 a77
                refine one fun C hC => callO hE78 (edge_c G hIn b V.slashed (by first | rfl | assumption | ((try dsimp only); (try simp only [M.read_st, M.fault_st, M.say_st, M.begin_st, M.flush_st, M.keep_st, M.leave_st, M.again_st, M.first_st]); first | rfl | assumption)) (V.peek 0) (hO53.le (by omega))) cb_39 rfl (hM54.cast (show (star (mach none b V.slashed) (star G F0)) = (star (star (mach none b V.slashed) G) F0) from by ac_rfl)) rfl ?_ ?_
                · intro hy1 w55 hM55
                  exact hX _ _ hE78.defers (by rw [← hT, hy1]; rfl) hM55
                intro y1 hy1 a79 w55 hE79 hM55
                refine hC _ _ ?_
                clear hC C hE78 hM54 a78
                replace hM55 := hM55.cast (star_assoc _ _ _)
                have hO54 := hO53.edge hy1 (d := 170) (by omega)
                have hp54 := hO54.p
                have hn54 := hO54.n
                refine one fun C hC => val hE79 (R.assign hE79 rfl) rfl fun a80 hE80 => hC _ _ ?_
                clear hC C
                clear hE79 a79
                refine wpList_nil (hK36 _ _ ?_)
                clear hK36 K36
                replace hE80 := hE80.keep (E' := [(0, _), (1, _), (5, _), (6, _), (7, _), (9, _), (11, _), (15, _), (21, _), (35, _)]) ⟨rfl, rfl, rfl, rfl, rfl, rfl, rfl, rfl, rfl, rfl, trivial⟩
                refine wp_goto (gotoThen (gotoBlock (gotoThen (gotoTo ?_))))
                have hm := hM55
                have h0 : y1.1 ≠ 0 := fun h => by have := edge_stay hy1 h; omega
                have hN := hc.edge hy1 h0
                rw [hy1] at hT
                replace hT : M.attrsN n y1.2 y1.1 = S.attributes to0 := hT
                exact hK 0 (n, y1.2, y1.1) _ _ ⟨rfl, hE80.keep ⟨rfl, rfl, trivial⟩, hm, hT, hN⟩ (Nat.lt_succ_self _)
              · intro hb6
                have ht6 := hb6
                try simp only [decide_eq_true_eq, decide_eq_false_iff_not, Bool.not_eq_true', Bool.not_eq_false', beq_iff_eq, Bool.and_eq_true, Bool.or_eq_true] at ht6
                refine oneOn hE73 rfl rfl hb6 fun C hC => val hE73 (R.move hE73 rfl) rfl fun a74 hE74 => hC _ _ ?_
                clear hC C
                clear hE73 a73
                refine oneOn hE74 rfl rfl hb6 fun C hC => val hE74 (R.eql hE74 rfl rfl) rfl fun a75 hE75 => hC _ _ ?_
                clear hC C
                clear hE74 a74
                refine one fun C hC => val hE75 (R.pickF hE75 rfl hb6 rfl) rfl fun a76 hE76 => hC _ _ ?_
                clear hC C
                clear hE75 a75
                refine wpList_nil (hK35 _ _ ?_)
                clear hK35 K35
                replace hE76 := hE76.keep (E' := [(0, _), (1, _), (5, _), (6, _), (7, _), (9, _), (11, _), (15, _), (21, _), (35, _)]) ⟨rfl, rfl, rfl, rfl, rfl, rfl, rfl, rfl, rfl, rfl, trivial⟩
                refine condR hE76 rfl ?_ ?_
                · intro hb7
                  have ht7 := hb7
                  try simp only [decide_eq_true_eq, decide_eq_false_iff_not, Bool.not_eq_true', Bool.not_eq_false', beq_iff_eq, Bool.and_eq_true, Bool.or_eq_true] at ht7
                  refine wp_seq_k fun K37 hK37 => ?_
                  have hO52 : M.Ok ({ V.read with slash := decide (V.peek 0 = 62) }) 170 := by have h1 := hO51.p; have h2 := hO51.n; have h3 := hO51.s; exact ⟨by (try dsimp only); omega, by (try dsimp only); omega, hO51.r, by (try simp only [M.sz, List.length_append, List.length_cons, List.length_nil] at h3 ⊢); omega⟩
                  have hp52 := hO52.p
                  have hn52 := hO52.n
                  have hM54 : Mem β _ (star (mach none b V.slashed) (star G F0)) := (machAt.close (T := 53) (R := 21) (K := 43) (L := 24) (A := 45) (V := none) (b := b) (S := { V.read with slash := decide (V.peek 0 = 62) }) (F := star G F0) x1 hk1 trivial (by (try dsimp only); (try simp only [List.length_nil, attrsOf_snoc, tagAt_true]); (try simp only [emp_star, star_emp]); exact hM53.cast (by ac_rfl)))
                  clear hM53
                  have hc : Cur 0 S n V.slashed (V.peek 0) := hA.slash ht5
                  have hsc := hc.s
                  have hcb := hc.b
                  rw [if_neg ht1, if_neg ht2, if_pos ht5, if_pos (by omega)] at hT
                  have hO53 := (hc.o.le (by omega) : M.Ok _ 174)
                  have hp53 := hO53.p
                  have hn53 := hO53.n
                  refine wp_region_lit ?_
                  refine one fun C hC => val hE76 (R.move hE76 rfl) rfl fun a77 hE77 => hC _ _ ?_
                  clear hC C
                  clear hE76 a76
                  refine one fun C hC => val hE77 (R.move hE77 rfl) rfl fun a78 hE78 => hC _ _ ?_
                  clear hC C
                  clear hE77 a77
                  refine one fun C hC => callO hE78 (edge_c G hIn b V.slashed (by first | rfl | assumption | ((try dsimp only); (try simp only [M.read_st, M.fault_st, M.say_st, M.begin_st, M.flush_st, M.keep_st, M.leave_st, M.again_st, M.first_st]); first | rfl | assumption)) (V.peek 0) (hO53.le (by omega))) cb_39 rfl (hM54.cast (show (star (mach none b V.slashed) (star G F0)) = (star (star (mach none b V.slashed) G) F0) from by ac_rfl)) rfl ?_ ?_
                  · intro hy1 w55 hM55
                    exact hX _ _ hE78.defers (by rw [← hT, hy1]; rfl) hM55
                  intro y1 hy1 a79 w55 hE79 hM55
                  refine hC _ _ ?_
                  clear hC C hE78 hM54 a78
                  replace hM55 := hM55.cast (star_assoc _ _ _)
                  have hO54 := hO53.edge hy1 (d := 170) (by omega)
                  have hp54 := hO54.p
                  have hn54 := hO54.n
                  refine one fun C hC => val hE79 (R.assign hE79 rfl) rfl fun a80 hE80 => hC _ _ ?_
                  clear hC C
                  clear hE79 a79
                  refine wpList_nil (hK37 _ _ ?_)
                  clear hK37 K37
                  replace hE80 := hE80.keep (E' := [(0, _), (1, _), (5, _), (6, _), (7, _), (9, _), (11, _), (15, _), (21, _), (35, _)]) ⟨rfl, rfl, rfl, rfl, rfl, rfl, rfl, rfl, rfl, rfl, trivial⟩
                  refine wp_goto (gotoThen (gotoBlock (gotoThen (gotoTo ?_))))
                  have hm := hM55
                  have h0 : y1.1 ≠ 0 := fun h => by have := edge_stay hy1 h; omega
                  have hN := hc.edge hy1 h0
                  rw [hy1] at hT
                  replace hT : M.attrsN n y1.2 y1.1 = S.attributes to0 := hT
                  exact hK 0 (n, y1.2, y1.1) _ _ ⟨rfl, hE80.keep ⟨rfl, rfl, trivial⟩, hm, hT, hN⟩ (Nat.lt_succ_self _)
                · intro hb7
                  have ht7 := hb7
                  try simp only [decide_eq_true_eq, decide_eq_false_iff_not, Bool.not_eq_true', Bool.not_eq_false', beq_iff_eq, Bool.and_eq_true, Bool.or_eq_true] at ht7
                  refine wp_skip (hK34 _ _ ?_)
                  refine wp_region_lit ?_
                  refine one fun C hC => val hE76 (R.move hE76 rfl) rfl fun a77 hE77 => hC _ _ ?_
                  clear hC C
                  clear hE76 a76
                  have hO52 : M.Ok ({ V.read with slash := decide (V.peek 0 = 62) }) 170 := by have h1 := hO51.p; have h2 := hO51.n; have h3 := hO51.s; exact ⟨by (try dsimp only); omega, by (try dsimp only); omega, hO51.r, by (try simp only [M.sz, List.length_append, List.length_cons, List.length_nil] at h3 ⊢); omega⟩
                  have hp52 := hO52.p
                  have hn52 := hO52.n
                  refine one fun C hC => callM hE77 (fault_c b { V.read with slash := decide (V.peek 0 = 62) } 22 hO52.f) cb_20 rfl (machAt.close (T := 53) (R := 21) (K := 43) (L := 24) (A := 45) (V := none) (b := b) (S := { V.read with slash := decide (V.peek 0 = 62) }) (F := star G F0) x1 hk1 trivial (by (try dsimp only); (try simp only [List.length_nil, attrsOf_snoc, tagAt_true]); (try simp only [emp_star, star_emp]); exact hM53.cast (by ac_rfl))) rfl fun  a78 w54 hE78 hM54 => hC _ _ ?_
                  clear hC C hE77 hM53 a77
                  have hO53 := hO52.fault (x := 22) (d := 169) (by omega)
                  have hp53 := hO53.p
                  have hn53 := hO53.n
                  replace hE78 := hE78.keep (E' := [(0, _), (1, _), (5, _), (6, _), (7, _), (9, _), (11, _), (15, _), (21, _), (35, _)]) ⟨rfl, rfl, rfl, rfl, rfl, rfl, rfl, rfl, rfl, rfl, trivial⟩
                  refine wpList_nil (hK1 _ _ ?_)
                  refine wp_seq_k fun K38 hK38 => ?_
                  refine wp_seq_k fun K39 hK39 => ?_
                  have hM55 : Mem β _ (star (mach none b (V.slashed.fault 22)) (star G F0)) := hM54
                  clear hM54
                  have hc : Cur 0 S n (V.slashed.fault 22) (V.peek 0) := hA.fault ht5 (by omega)
                  have hsc := hc.s
                  have hcb := hc.b
                  rw [if_neg ht1, if_neg ht2, if_pos ht5, if_neg (by omega)] at hT
                  have hO54 := (hc.o.le (by omega) : M.Ok _ 174)
                  have hp54 := hO54.p
                  have hn54 := hO54.n
                  refine wp_region_lit ?_
                  refine one fun C hC => val hE78 (R.move hE78 rfl) rfl fun a79 hE79 => hC _ _ ?_
                  clear hC C
                  clear hE78 a78
                  refine one fun C hC => val hE79 (R.move hE79 rfl) rfl fun a80 hE80 => hC _ _ ?_
                  clear hC C
                  clear hE79 a79
                  refine one fun C hC => callO hE80 (edge_c G hIn b (V.slashed.fault 22) (by first | rfl | assumption | ((try dsimp only); (try simp only [M.read_st, M.fault_st, M.say_st, M.begin_st, M.flush_st, M.keep_st, M.leave_st, M.again_st, M.first_st]); first | rfl | assumption)) (V.peek 0) (hO54.le (by omega))) cb_39 rfl (hM55.cast (show (star (mach none b (V.slashed.fault 22)) (star G F0)) = (star (star (mach none b (V.slashed.fault 22)) G) F0) from by ac_rfl)) rfl ?_ ?_
                  · intro hy1 w56 hM56
                    exact hX _ _ hE80.defers (by rw [← hT]; unfold M.stepA; rw [hy1]; rfl) hM56
                  intro y1 hy1 a81 w56 hE81 hM56
                  refine hC _ _ ?_
                  clear hC C hE80 hM55 a80
                  replace hM56 := hM56.cast (star_assoc _ _ _)
                  have hO55 := hO54.edge hy1 (d := 170) (by omega)
                  have hp55 := hO55.p
                  have hn55 := hO55.n
                  refine one fun C hC => val hE81 (R.assign hE81 rfl) rfl fun a82 hE82 => hC _ _ ?_
                  clear hC C
                  clear hE81 a81
                  refine wpList_nil (hK39 _ _ ?_)
                  clear hK39 K39
                  replace hE82 := hE82.keep (E' := [(0, _), (1, _), (5, _), (6, _), (7, _), (9, _), (11, _), (15, _), (21, _), (35, _)]) ⟨rfl, rfl, rfl, rfl, rfl, rfl, rfl, rfl, rfl, rfl, trivial⟩
                  refine wp_seq_k fun K40 hK40 => ?_
                  refine wp_region_lit ?_
                  refine one fun C hC => val hE82 (R.move hE82 rfl) rfl fun a83 hE83 => hC _ _ ?_
                  clear hC C
                  clear hE82 a82
                  refine one fun C hC => val hE83 (R.neq hE83 rfl rfl) rfl fun a84 hE84 => hC _ _ ?_
                  clear hC C
                  clear hE83 a83
                  refine wpList_nil (hK40 _ _ ?_)
                  clear hK40 K40
                  replace hE84 := hE84.keep (E' := [(0, _), (1, _), (5, _), (6, _), (7, _), (9, _), (11, _), (15, _), (21, _), (35, _), (45, _)]) ⟨rfl, rfl, rfl, rfl, rfl, rfl, rfl, rfl, rfl, rfl, rfl, trivial⟩
                  refine condR hE84 rfl ?_ ?_
                  · intro hb8
                    have ht8 := hb8
                    try simp only [decide_eq_true_eq, decide_eq_false_iff_not, Bool.not_eq_true', Bool.not_eq_false', beq_iff_eq, Bool.and_eq_true, Bool.or_eq_true] at ht8
                    refine wp_goto (gotoThen (gotoTo ?_))
                    have hm := hM56
                    have h0 : y1.1 ≠ 0 := ht8
                    have hN := hc.edge hy1 h0
                    unfold M.stepA at hT
                    rw [hy1] at hT
                    replace hT : (if y1.1 ≠ 0 then M.attrsN n y1.2 y1.1 else (y1.2.attrFrom _).bind fun z => M.attrsN n z.2 z.1) = S.attributes to0 := hT
                    rw [if_pos h0] at hT
                    exact hK 0 (n, y1.2, y1.1) _ _ ⟨rfl, hE84.keep ⟨rfl, rfl, trivial⟩, hm, hT, hN⟩ (Nat.lt_succ_self _)
                  · intro hb8
                    have ht8 := hb8
                    try simp only [decide_eq_true_eq, decide_eq_false_iff_not, Bool.not_eq_true', Bool.not_eq_false', beq_iff_eq, Bool.and_eq_true, Bool.or_eq_true] at ht8
                    refine wp_skip (hK38 _ _ ?_)
                    refine wp_seq_k fun K41 hK41 => ?_
                    have h0 : y1.1 = 0 := ht8
                    have hst := stay_plain hy1 h0
                    have hrn : (V.peek 0) ≠ -1 := by intro h6; have h7 := hst.1; rw [h6] at h7; exact absurd h7 (by decide)
                    have hsy : y1.2.stale = false := by rw [hst.2]; exact hsc
                    have hOy : y1.2.Ok 219 := by rw [hst.2]; exact ((hc.m hrn).1.le (by omega)).last
                    have hO56 := hOy
                    have hp56 := hO56.p
                    have hn56 := hO56.n
                    refine wp_region_lit ?_
                    refine one fun C hC => val hE84 (R.move hE84 rfl) rfl fun a85 hE85 => hC _ _ ?_
                    clear hC C
                    clear hE84 a84
                    refine one fun C hC => callM hE85 (keep_c b y1.2 (by first | rfl | assumption | ((try dsimp only); (try simp only [M.read_st, M.fault_st, M.say_st, M.begin_st, M.flush_st, M.keep_st, M.leave_st, M.again_st, M.first_st]); first | rfl | assumption)) hO56.g) cb_40 rfl hM56 rfl fun  a86 w57 hE86 hM57 => hC _ _ ?_
                    clear hC C hE85 hM56 a85
                    have hO57 := hO56.keep (d := 218) (by omega)
                    have hp57 := hO57.p
                    have hn57 := hO57.n
                    refine wpList_nil (hK41 _ _ ?_)
                    clear hK41 K41
                    replace hE86 := hE86.keep (E' := [(0, _), (1, _), (5, _), (6, _), (7, _), (9, _), (11, _), (15, _), (21, _), (35, _), (45, _)]) ⟨rfl, rfl, rfl, rfl, rfl, rfl, rfl, rfl, rfl, rfl, rfl, trivial⟩
                    refine wp_seq_k fun K42 hK42 => ?_
                    refine wp_region_lit ?_
                    refine one fun C hC => val hE86 (R.move hE86 rfl) rfl fun a87 hE87 => hC _ _ ?_
                    clear hC C
                    clear hE86 a86
                    refine one fun C hC => val hE87 (R.nil hE87 rfl) rfl fun a88 hE88 => hC _ _ ?_
                    clear hC C
                    clear hE87 a87
                    refine one fun C hC => val hE88 (R.fieldAddr hE88 53 10 17 fb_53_10 rfl) rfl fun a89 hE89 => hC _ _ ?_
                    clear hC C
                    clear hE88 a88
                    obtain ⟨x2, hk2, hV2, hM58⟩ := machAt.openT (by first | rfl | assumption | ((try dsimp only); (try simp only [M.read_st, M.fault_st, M.say_st, M.begin_st, M.flush_st, M.keep_st, M.leave_st, M.again_st, M.first_st]); first | rfl | assumption)) hM57
                    try dsimp only at hM58 hk2
                    clear hM57
                    have hZ2 := hO57.ls
                    try dsimp only at hZ2
                    refine one fun C hC => store hE89 hM58 sc_4 rfl rfl rfl rfl  fun  a90 w59 hE90 hM59 => hC _ _ ?_
                    clear hC C hE89 hM58 a89
                    try simp only [List.set_cons_zero, List.set_cons_succ, Nat.zero_add] at hM59
                    refine wpList_nil (hK42 _ _ ?_)
                    clear hK42 K42
                    replace hE90 := hE90.keep (E' := [(0, _), (1, _), (5, _), (6, _), (7, _), (9, _), (11, _), (15, _), (21, _), (35, _), (45, _)]) ⟨rfl, rfl, rfl, rfl, rfl, rfl, rfl, rfl, rfl, rfl, rfl, trivial⟩
                    refine wp_seq_k fun K43 hK43 => ?_
                    refine wp_seq_k fun K44 hK44 => ?_
                    refine wp_region_lit ?_
                    refine one fun C hC => val hE90 (R.move hE90 rfl) rfl fun a91 hE91 => hC _ _ ?_
                    clear hC C
                    clear hE90 a90
                    refine one fun C hC => val hE91 (R.eql hE91 rfl rfl) rfl fun a92 hE92 => hC _ _ ?_
                    clear hC C
                    clear hE91 a91
                    refine wpList_nil (hK44 _ _ ?_)
                    clear hK44 K44
                    replace hE92 := hE92.keep (E' := [(0, _), (1, _), (5, _), (6, _), (7, _), (9, _), (11, _), (15, _), (21, _), (35, _), (45, _), (52, _)]) ⟨rfl, rfl, rfl, rfl, rfl, rfl, rfl, rfl, rfl, rfl, rfl, rfl, trivial⟩
                    refine condR hE92 rfl ?_ ?_
                    · intro hb9
                      have ht9 := hb9
                      try simp only [decide_eq_true_eq, decide_eq_false_iff_not, Bool.not_eq_true', Bool.not_eq_false', beq_iff_eq, Bool.and_eq_true, Bool.or_eq_true] at ht9
                      refine wp_seq_k fun K45 hK45 => ?_
                      refine wp_region_lit ?_
                      refine one fun C hC => val hE92 (R.move hE92 rfl) rfl fun a93 hE93 => hC _ _ ?_
                      clear hC C
                      clear hE92 a92
                      have hO58 : M.Ok ({ y1.2.keep with named := true }) 218 := by have h1 := hO57.p; have h2 := hO57.n; have h3 := hO57.s; exact ⟨by (try dsimp only); omega, by (try dsimp only); omega, hO57.r, by (try simp only [M.sz, List.length_append, List.length_cons, List.length_nil] at h3 ⊢); omega⟩
                      have hp58 := hO58.p
                      have hn58 := hO58.n
                      refine one fun C hC => callM hE93 (fault_c b { y1.2.keep with named := true } 20 hO58.f) cb_20 rfl (machAt.closeT (T := 53) (R := 21) (K := 43) (L := 24) (A := 45) (V := none) (b := b) (S := { y1.2.keep with named := true }) (F := star G F0) (by first | rfl | assumption | ((try dsimp only); (try simp only [M.read_st, M.fault_st, M.say_st, M.begin_st, M.flush_st, M.keep_st, M.leave_st, M.again_st, M.first_st]); first | rfl | assumption)) x2 hk2 trivial (by (try dsimp only); (try simp only [List.length_nil, attrsOf_snoc, tagAt_true]); (try simp only [emp_star, star_emp]); exact hM59.cast (by ac_rfl))) rfl fun  a94 w60 hE94 hM60 => hC _ _ ?_
                      clear hC C hE93 hM59 a93
                      have hO59 := hO58.fault (x := 20) (d := 217) (by omega)
                      have hp59 := hO59.p
                      have hn59 := hO59.n
                      refine wpList_nil (hK45 _ _ ?_)
                      clear hK45 K45
                      replace hE94 := hE94.keep (E' := [(0, _), (1, _), (5, _), (6, _), (7, _), (9, _), (11, _), (15, _), (21, _), (35, _), (45, _), (52, _)]) ⟨rfl, rfl, rfl, rfl, rfl, rfl, rfl, rfl, rfl, rfl, rfl, rfl, trivial⟩
                      refine wp_seq_k fun K46 hK46 => ?_
                      refine wp_region_lit ?_
                      refine one fun C hC => val hE94 (R.move hE94 rfl) rfl fun a95 hE95 => hC _ _ ?_
                      clear hC C
                      clear hE94 a94
                      refine one fun C hC => val hE95 (R.move hE95 rfl) rfl fun a96 hE96 => hC _ _ ?_
                      clear hC C
                      clear hE95 a95
                      refine one fun C hC => lit1 hE96 hM60 4 el_50 rfl rfl rfl  fun b57 a97 w61 hE97 hM61 => hC _ _ ?_
                      clear hC C hE96 hM60 a96
                      refine one fun C hC => val hE97 (R.nil hE97 rfl) rfl fun a98 hE98 => hC _ _ ?_
                      clear hC C
                      clear hE97 a97
                      refine one fun C hC => val hE98 (R.fieldAddr hE98 53 8 15 fb_53_8 rfl) rfl fun a99 hE99 => hC _ _ ?_
                      clear hC C
                      clear hE98 a98
                      obtain ⟨x3, hk3, hV3, hM62⟩ := machAt.openT (by first | rfl | assumption | ((try dsimp only); (try simp only [M.read_st, M.fault_st, M.say_st, M.begin_st, M.flush_st, M.keep_st, M.leave_st, M.again_st, M.first_st]); first | rfl | assumption)) (hM61.cast (show _ = (star (mach none b (({ y1.2.keep with named := true }.fault 20))) (star (pts b57 21 [.int .i32 (V.peek 0)]) (star G F0))) from by ac_rfl))
                      try dsimp only at hM62 hk3
                      clear hM61
                      have hZ3 := hO59.ls
                      try dsimp only at hZ3
                      refine one fun C hC => store hE99 hM62 sc_50 rfl rfl rfl rfl  fun  a100 w63 hE100 hM63 => hC _ _ ?_
                      clear hC C hE99 hM62 a99
                      try simp only [List.set_cons_zero, List.set_cons_succ, Nat.zero_add] at hM63
                      have hM64 := (((hM63.cut (row 21 1 rune x3.aA x3.aC (({ y1.2.keep with named := true }.fault 20).attr))).split (FindP.out (b := b57)))).row_of_pts (xs := [V.peek 0]) (enc := rune) (sz := 1) (by intro x _; rfl) rfl (by simp [maxLen])
                      clear hM63
                      refine wpList_nil (hK46 _ _ ?_)
                      clear hK46 K46
                      replace hE100 := hE100.keep (E' := [(0, _), (1, _), (5, _), (6, _), (7, _), (9, _), (11, _), (15, _), (21, _), (35, _), (45, _), (52, _)]) ⟨rfl, rfl, rfl, rfl, rfl, rfl, rfl, rfl, rfl, rfl, rfl, rfl, trivial⟩
                      have hO60 : M.Ok ({ ({ y1.2.keep with named := true }.fault 20) with attr := [V.peek 0] }) 216 := by have h1 := hO59.p; have h2 := hO59.n; have h3 := hO59.s; exact ⟨by (try dsimp only); omega, by (try dsimp only); omega, hO59.r, by (try simp only [M.sz, List.length_append, List.length_cons, List.length_nil] at h3 ⊢); omega⟩
                      have hp60 := hO60.p
                      have hn60 := hO60.n
                      have hO61 : M.Ok ({ ({ y1.2.keep with named := true }.fault 20) with attr := [V.peek 0] }) 216 := by have h1 := hO60.p; have h2 := hO60.n; have h3 := hO60.s; exact ⟨by (try dsimp only); omega, by (try dsimp only); omega, hO60.r, by (try simp only [M.sz, List.length_append, List.length_cons, List.length_nil] at h3 ⊢); omega⟩
                      have hp61 := hO61.p
                      have hn61 := hO61.n
                      have hM65 : Mem β _ (star (mach none b { ({ y1.2.keep with named := true }.fault 20) with attr := [V.peek 0] }) (star G F0)) := (machAt.closeT (T := 53) (R := 21) (K := 43) (L := 24) (A := 45) (V := none) (b := b) (S := { ({ y1.2.keep with named := true }.fault 20) with attr := [V.peek 0] }) (F := star G F0) (by first | rfl | assumption | ((try dsimp only); (try simp only [M.read_st, M.fault_st, M.say_st, M.begin_st, M.flush_st, M.keep_st, M.leave_st, M.again_st, M.first_st]); first | rfl | assumption)) { x3 with aA := some ⟨b57, 0, none⟩, aC := 1 } hk3 trivial (by (try dsimp only); (try simp only [List.length_nil, attrsOf_snoc, tagAt_true]); (try simp only [emp_star, star_emp]); exact hM64.cast (by ac_rfl)))
                      clear hM64
                      have hpk24 := hO61.peek 0
                      refine wp_region_lit ?_
                      refine one fun C hC => val hE100 (R.move hE100 rfl) rfl fun a101 hE101 => hC _ _ ?_
                      clear hC C
                      clear hE100 a100
                      refine one fun C hC => callM hE101 (read_c b { ({ y1.2.keep with named := true }.fault 20) with attr := [V.peek 0] } hO61.pos hO61.f) cb_14 rfl hM65 rfl fun  a102 w66 hE102 hM66 => hC _ _ ?_
                      clear hC C hE101 hM65 a101
                      have hO62 := hO61.read
                      have hp62 := hO62.p
                      have hn62 := hO62.n
                      refine one fun C hC => val hE102 (R.assign hE102 rfl) rfl fun a103 hE103 => hC _ _ ?_
                      clear hC C
                      clear hE102 a102
                      replace hE103 := hE103.keep (E' := [(0, _), (1, _), (5, _), (6, _), (7, _), (9, _), (11, _), (15, _), (21, _), (35, _), (45, _), (52, _)]) ⟨rfl, rfl, rfl, rfl, rfl, rfl, rfl, rfl, rfl, rfl, rfl, rfl, trivial⟩
                      refine wpList_nil (hK43 _ _ ?_)
                      refine wp_seq_k fun K47 hK47 => ?_
                      refine wp_region_lit ?_
                      refine one fun C hC => val hE103 (R.move hE103 rfl) rfl fun a104 hE104 => hC _ _ ?_
                      clear hC C
                      clear hE103 a103
                      refine one fun C hC => val hE104 (R.move hE104 rfl) rfl fun a105 hE105 => hC _ _ ?_
                      clear hC C
                      clear hE104 a104
                      refine one fun C hC => callO hE105 (attrName_c G hIn hRef hRo hRp hOdd b ({ ({ y1.2.keep with named := true }.fault 20) with attr := [V.peek 0] }.read) (by first | rfl | assumption | ((try dsimp only); (try simp only [M.read_st, M.fault_st, M.say_st, M.begin_st, M.flush_st, M.keep_st, M.leave_st, M.again_st, M.first_st]); first | rfl | assumption)) ({ ({ y1.2.keep with named := true }.fault 20) with attr := [V.peek 0] }.peek 0) (by omega) (hO62.le (by omega))) cb_41 rfl (hM66.cast (show (star (mach none b ({ ({ y1.2.keep with named := true }.fault 20) with attr := [V.peek 0] }.read)) (star G F0)) = (star (star (mach none b ({ ({ y1.2.keep with named := true }.fault 20) with attr := [V.peek 0] }.read)) G) F0) from by ac_rfl)) rfl ?_ ?_
                      · intro hy2 w67 hM67
                        exact hX _ _ hE105.defers (by rw [← hT]; unfold M.stepA; rw [hy1]; show (if y1.1 ≠ 0 then _ else (y1.2.attrFrom (V.peek 0)).bind _) = none; rw [if_neg (by simp [h0])]; have hz : y1.2.attrFrom (V.peek 0) = none := (by unfold M.attrFrom; simp only []; rw [if_pos ht9]; exact hy2); rw [hz]; rfl) hM67
                      intro y2 hy2 a106 w67 hE106 hM67
                      refine hC _ _ ?_
                      clear hC C hE105 hM66 a105
                      replace hM67 := hM67.cast (star_assoc _ _ _)
                      refine one fun C hC => val hE106 (R.assign hE106 rfl) rfl fun a107 hE107 => hC _ _ ?_
                      clear hC C
                      clear hE106 a106
                      refine wpList_nil (hK47 _ _ ?_)
                      clear hK47 K47
                      replace hE107 := hE107.keep (E' := [(0, _), (1, _), (5, _), (6, _), (7, _), (9, _), (11, _), (15, _), (21, _), (35, _), (45, _), (52, _)]) ⟨rfl, rfl, rfl, rfl, rfl, rfl, rfl, rfl, rfl, rfl, rfl, rfl, trivial⟩
                      refine wp_goto (gotoTo ?_)
                      have hm := hM67
                      have hz : y1.2.attrFrom (V.peek 0) = some y2 := by unfold M.attrFrom; simp only []; rw [if_pos ht9]; exact hy2
                      have hN := hc.from hRo hy1 h0 hz
                      unfold M.stepA at hT
                      rw [hy1] at hT
                      replace hT : (if y1.1 ≠ 0 then M.attrsN n y1.2 y1.1 else (y1.2.attrFrom (V.peek 0)).bind fun z => M.attrsN n z.2 z.1) = S.attributes to0 := hT
                      rw [if_neg (by simp [h0]), hz] at hT
                      replace hT : M.attrsN n y2.2 y2.1 = S.attributes to0 := hT
                      exact hK 0 (n, y2.2, y2.1) _ _ ⟨rfl, hE107.keep ⟨rfl, rfl, trivial⟩, hm, hT, hN⟩ (Nat.lt_succ_self _)
                    · intro hb9
                      have ht9 := hb9
                      try simp only [decide_eq_true_eq, decide_eq_false_iff_not, Bool.not_eq_true', Bool.not_eq_false', beq_iff_eq, Bool.and_eq_true, Bool.or_eq_true] at ht9
                      refine wp_skip (hK43 _ _ ?_)
                      refine wp_seq_k fun K48 hK48 => ?_
                      refine wp_region_lit ?_
                      refine one fun C hC => val hE92 (R.move hE92 rfl) rfl fun a93 hE93 => hC _ _ ?_
                      clear hC C
                      clear hE92 a92
                      refine one fun C hC => val hE93 (R.move hE93 rfl) rfl fun a94 hE94 => hC _ _ ?_
                      clear hC C
                      clear hE93 a93
                      have hO58 : M.Ok ({ y1.2.keep with named := true }) 218 := by have h1 := hO57.p; have h2 := hO57.n; have h3 := hO57.s; exact ⟨by (try dsimp only); omega, by (try dsimp only); omega, hO57.r, by (try simp only [M.sz, List.length_append, List.length_cons, List.length_nil] at h3 ⊢); omega⟩
                      have hp58 := hO58.p
                      have hn58 := hO58.n
                      refine one fun C hC => callO hE94 (attrName_c G hIn hRef hRo hRp hOdd b { y1.2.keep with named := true } (by first | rfl | assumption | ((try dsimp only); (try simp only [M.read_st, M.fault_st, M.say_st, M.begin_st, M.flush_st, M.keep_st, M.leave_st, M.again_st, M.first_st]); first | rfl | assumption)) (V.peek 0) (by omega) (hO58.le (by omega))) cb_41 rfl ((machAt.closeT (T := 53) (R := 21) (K := 43) (L := 24) (A := 45) (V := none) (b := b) (S := { y1.2.keep with named := true }) (F := star G F0) (by first | rfl | assumption | ((try dsimp only); (try simp only [M.read_st, M.fault_st, M.say_st, M.begin_st, M.flush_st, M.keep_st, M.leave_st, M.again_st, M.first_st]); first | rfl | assumption)) x2 hk2 trivial (by (try dsimp only); (try simp only [List.length_nil, attrsOf_snoc, tagAt_true]); (try simp only [emp_star, star_emp]); exact hM59.cast (by ac_rfl))).cast (show (star (mach none b { y1.2.keep with named := true }) (star G F0)) = (star (star (mach none b { y1.2.keep with named := true }) G) F0) from by ac_rfl)) rfl ?_ ?_
                      · intro hy2 w60 hM60
                        exact hX _ _ hE94.defers (by rw [← hT]; unfold M.stepA; rw [hy1]; show (if y1.1 ≠ 0 then _ else (y1.2.attrFrom (V.peek 0)).bind _) = none; rw [if_neg (by simp [h0])]; have hz : y1.2.attrFrom (V.peek 0) = none := (by unfold M.attrFrom; simp only []; rw [if_neg ht9]; exact hy2); rw [hz]; rfl) hM60
                      intro y2 hy2 a95 w60 hE95 hM60
                      refine hC _ _ ?_
                      clear hC C hE94 hM59 a94
                      replace hM60 := hM60.cast (star_assoc _ _ _)
                      refine one fun C hC => val hE95 (R.assign hE95 rfl) rfl fun a96 hE96 => hC _ _ ?_
                      clear hC C
                      clear hE95 a95
                      refine wpList_nil (hK48 _ _ ?_)
                      clear hK48 K48
                      replace hE96 := hE96.keep (E' := [(0, _), (1, _), (5, _), (6, _), (7, _), (9, _), (11, _), (15, _), (21, _), (35, _), (45, _), (52, _)]) ⟨rfl, rfl, rfl, rfl, rfl, rfl, rfl, rfl, rfl, rfl, rfl, rfl, trivial⟩
                      refine wp_goto (gotoTo ?_)
                      have hm := hM60
                      have hz : y1.2.attrFrom (V.peek 0) = some y2 := by unfold M.attrFrom; simp only []; rw [if_neg ht9]; exact hy2
                      have hN := hc.from hRo hy1 h0 hz
                      unfold M.stepA at hT
                      rw [hy1] at hT
                      replace hT : (if y1.1 ≠ 0 then M.attrsN n y1.2 y1.1 else (y1.2.attrFrom (V.peek 0)).bind fun z => M.attrsN n z.2 z.1) = S.attributes to0 := hT
                      rw [if_neg (by simp [h0]), hz] at hT
                      replace hT : M.attrsN n y2.2 y2.1 = S.attributes to0 := hT
                      exact hK 0 (n, y2.2, y2.1) _ _ ⟨rfl, hE96.keep ⟨rfl, rfl, trivial⟩, hm, hT, hN⟩ (Nat.lt_succ_self _)
            · intro hb5
              have ht5 := hb5
              try simp only [decide_eq_true_eq, decide_eq_false_iff_not, Bool.not_eq_true', Bool.not_eq_false', beq_iff_eq, Bool.and_eq_true, Bool.or_eq_true] at ht5
              refine wp_skip (hK1 _ _ ?_)
              refine wp_seq_k fun K49 hK49 => ?_
              refine wp_seq_k fun K50 hK50 => ?_
              exfalso
              have := hA.t
              omega
  · rintro l s a w hl ⟨h, -⟩; exact absurd h hl

end

end Go.Sv
