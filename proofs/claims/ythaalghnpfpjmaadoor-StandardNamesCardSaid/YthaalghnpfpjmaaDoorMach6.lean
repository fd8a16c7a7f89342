import Derived.Test.YthaalghnpfpjmaaDoorProg
import Derived.Test.YthaalghnpfpjmaaDoorMach5
set_option linter.all false
set_option linter.unusedVariables false
set_option linter.unusedSimpArgs false
set_option maxRecDepth 100000
namespace Go.Sv
open Go.RowKit Go.Proofs
attribute [local irreducible] row pts star blk emp fact any attrsOf machAt tagAt

namespace FMach6
theorem cb_14 : callB Tryd.prog 14 = true := by kernel_rfl
theorem cb_20 : callB Tryd.prog 20 = true := by kernel_rfl
theorem cb_35 : callB Tryd.prog 35 = true := by kernel_rfl
theorem cb_36 : callB Tryd.prog 36 = true := by kernel_rfl
theorem cb_39 : callB Tryd.prog 39 = true := by kernel_rfl
theorem cb_57 : callB Tryd.prog 57 = true := by kernel_rfl
theorem cb_58 : callB Tryd.prog 58 = true := by kernel_rfl
theorem cb_59 : callB Tryd.prog 59 = true := by kernel_rfl
theorem cb_71 : callB Tryd.prog 71 = true := by kernel_rfl
theorem cb_72 : callB Tryd.prog 72 = true := by kernel_rfl
theorem el_50 : elemB Tryd.prog 50 21 1 4 = true := by kernel_rfl
theorem fb_53_8 : fieldB Tryd.prog 53 8 15 = true := by kernel_rfl
theorem mix : Tryd.prog.follows .mixedOrders = true := by kernel_rfl
theorem sc_50 : scalarB Tryd.prog 50 = true := by kernel_rfl
end FMach6
open FMach6

theorem blank_ne {r : Int} (h : blankB r = true) : r ≠ -1 := fun e => by rw [e] at h; exact absurd h (by decide)
section
variable (G : HProp) (hIn : ∀ (n : ByteArray) (k : Int), k = 2 ∨ k = 3 → Fm Tryd.prog 70 [.string n, .int .i64 k] G (.bool (inSet k n)) G)
variable (hRef : ∀ (b : Nat) (S : M) (a : Bool) (V : Option (Option Addr × Nat)), S.Ok 20 → Fx Tryd.prog 17 [.pointer (some ⟨b, 0, none⟩), .bool a] (star (mach V b S) G) (fun q : Option Addr × Nat => .slice q.1 (S.reference a).1.length q.2) (fun q => star (mach V b (S.reference a).2) (star (row 21 1 rune q.1 q.2 (S.reference a).1) G)))
variable (hRo : ∀ (S : M) (a : Bool) (c d : Nat), S.Ok c → d + 8 ≤ c → (S.reference a).2.Ok (d + (S.reference a).1.length)) (hRp : ∀ (S : M) (a : Bool), 0 < (S.reference a).1.length)
variable (hOdd : ∀ r : Int, -1 ≤ r → r ≤ 1114111 → Fn Tryd.prog 82 [.string (ByteArray.mk #[34, 39, 60, 61, 96]), .int .i32 r] (.bool (M.oddB r)))

set_option maxHeartbeats 4000000 in
include hIn hRef hRo hRp hOdd in
theorem before_c (b : Nat) (S : M) (hs : S.stale = false)  (hO : S.Ok 80) : Fo Tryd.prog rej 59 [.pointer (some ⟨b, 0, none⟩)] (star (mach none b S) G) (S.before) (fun y => (.int .i64 y.1)) (fun y => star (mach none b y.2) G) G := by
  intro β w0 F0 hM0
  replace hM0 := hM0.cast (star_assoc _ _ _)
  obtain ⟨x, hk, hV, hM1⟩ := machAt.openT hs hM0
  clear hM0
  rename Mem _ _ _ => hM0
  refine enterO Tryd.func59 (by rfl) 27 rfl rfl fun a0 Q hE0 hQ hN hP hX => ?_
  have hp0 := hO.p
  have hn0 := hO.n
  have hs0 := hO.s
  simp only [M.sz] at hs0
  have hpk := hO.peek 0
  refine wp_seq_k fun K0 hK0 => ?_
  refine wp_region_lit ?_
  refine one fun C hC => val hE0 (R.assign hE0 rfl) rfl fun a1 hE1 => hC _ _ ?_
  clear hC C
  clear hE0 a0
  refine wpList_nil (hK0 _ _ ?_)
  clear hK0 K0
  replace hE1 := hE1.keep (E' := [(0, _), (2, _)]) ⟨rfl, rfl, trivial⟩
  refine wp_seq_k fun K1 hK1 => ?_
  refine wp_region_lit ?_
  refine one fun C hC => val hE1 (R.move hE1 rfl) rfl fun a2 hE2 => hC _ _ ?_
  clear hC C
  clear hE1 a1
  refine one fun C hC => callM hE2 (read_c b S hO.pos hO.f) cb_14 rfl (machAt.closeT (T := 53) (R := 21) (K := 43) (L := 24) (A := 45) (V := none) (b := b) (S := S) (F := star G F0) (by first | rfl | assumption | ((try dsimp only); (try simp only [M.read_st, M.fault_st, M.say_st, M.begin_st, M.flush_st, M.keep_st, M.leave_st, M.again_st, M.first_st]); first | rfl | assumption)) x hk trivial (by (try dsimp only); (try simp only [List.length_nil, attrsOf_snoc, tagAt_true]); (try simp only [emp_star, star_emp]); exact hM0.cast (by ac_rfl))) rfl fun  a3 w1 hE3 hM1 => hC _ _ ?_
  clear hC C hE2 hM0 a2
  have hO1 := hO.read
  have hp1 := hO1.p
  have hn1 := hO1.n
  refine one fun C hC => val hE3 (R.assign hE3 rfl) rfl fun a4 hE4 => hC _ _ ?_
  clear hC C
  clear hE3 a3
  refine wpList_nil (hK1 _ _ ?_)
  clear hK1 K1
  replace hE4 := hE4.keep (E' := [(0, _), (2, _), (3, _)]) ⟨rfl, rfl, rfl, trivial⟩
  refine wp_seq_k fun K2 hK2 => ?_
  refine wp_block ?_
  refine loopR (σ := Nat × M × Int) (fun p a w => Env 27 [] a [(0, .pointer (some ⟨b, 0, none⟩)), (3, .int .i32 p.2.2)] ∧ Mem β w (star (mach none b p.2.1) (star G F0)) ∧ (M.blanksN p.1 p.2.1 p.2.2 = S.read.blanks (S.peek 0)) ∧ p.2.1.Ok 60 ∧ (p.2.2 ≠ -1 → p.2.1.Ok 70) ∧ p.2.1.stale = false ∧ 1 ≤ p.1 ∧ (p.2.2 ≠ -1 → p.2.1.inp.length - p.2.1.pos + 2 ≤ p.1) ∧ (-1 ≤ p.2.2 ∧ p.2.2 ≤ 1114111)) (fun p => p.1) ((S.read).inp.length + 2, S.read, S.peek 0) ?_ ?_
  · refine ⟨hE4.keep ⟨rfl, rfl, trivial⟩, hM1, rfl, hO1.le (by omega), fun _ => hO1.le (by omega), (by first | rfl | assumption | ((try dsimp only); (try simp only [M.read_st, M.fault_st, M.say_st, M.begin_st, M.flush_st, M.keep_st, M.leave_st, M.again_st, M.first_st]); first | rfl | assumption)), by (try dsimp only); omega, fun _ => by (try dsimp only); omega, by (try dsimp only); omega⟩
  · clear hE4 hM1 a4
    rintro ⟨n, V, r⟩ a5 w2 ⟨hE5, hM2, hT, hO2, hOr, hsV, hn1, hr, hrb⟩ K hK
    dsimp only at hE5 hM2 hT hO2 hOr hsV hn1 hr hrb
    obtain ⟨n, rfl⟩ : ∃ n', n = n' + 1 := ⟨n - 1, by omega⟩
    clear hn1
    have hp2 := hO2.p
    have hn2 := hO2.n
    unfold M.blanksN at hT
    have hK3 : ∀ a w, K a w → K a w := fun _ _ h => h
    refine wp_seq_k fun K4 hK4 => ?_
    refine wp_seq_k fun K5 hK5 => ?_
    refine wp_region_lit ?_
    refine one fun C hC => val hE5 (R.move hE5 rfl) rfl fun a6 hE6 => hC _ _ ?_
    clear hC C
    clear hE5 a5
    refine one fun C hC => callF hE6 (blank_c _) cb_36 rfl hM2 rfl  fun  a7 w3 hE7 hM3 => hC _ _ ?_
    clear hC C hE6 hM2 a6
    refine wpList_nil (hK5 _ _ ?_)
    clear hK5 K5
    replace hE7 := hE7.keep (E' := [(0, _), (3, _), (7, _)]) ⟨rfl, rfl, rfl, trivial⟩
    refine condR hE7 rfl ?_ ?_
    · intro hb1
      have ht1 := hb1
      try simp only [decide_eq_true_eq, decide_eq_false_iff_not, Bool.not_eq_true', Bool.not_eq_false', beq_iff_eq, Bool.and_eq_true, Bool.or_eq_true] at ht1
      refine wp_skip (hK4 _ _ ?_)
      refine wp_block ?_
      refine wp_region_lit ?_
      refine one fun C hC => val hE7 (R.move hE7 rfl) rfl fun a8 hE8 => hC _ _ ?_
      clear hC C
      clear hE7 a7
      refine one fun C hC => callM hE8 (read_c b V hO2.pos hO2.f) cb_14 rfl hM3 rfl fun  a9 w4 hE9 hM4 => hC _ _ ?_
      clear hC C hE8 hM3 a8
      have hO3 := hO2.read
      have hp3 := hO3.p
      have hn3 := hO3.n
      refine one fun C hC => val hE9 (R.assign hE9 rfl) rfl fun a10 hE10 => hC _ _ ?_
      clear hC C
      clear hE9 a9
      replace hE10 := hE10.keep (E' := [(0, _), (3, _), (7, _)]) ⟨rfl, rfl, rfl, trivial⟩
      refine wpList_nil (hK3 _ _ ?_)
      have hm := hM4
      have h0 : r ≠ -1 := blank_ne ht1
      rw [if_pos ht1] at hT
      have hF : M.Fwd V V := M.Fwd.refl V
      have hQ2 : V.Ok 62 := (hOr h0).le (by omega)
      have hFr := M.fwd_read V
      have hpk := hQ2.peek 0
      have hr2 := hr h0
      have hi2 := hF.i
      have hp2 := hF.p
      refine hK (n, V.read, V.peek 0) _ _ ⟨hE10.keep ⟨rfl, rfl, trivial⟩, hm, hT, hQ2.read.le (by omega), fun h1 => (hQ2.read_more h1).le (by omega), (hFr.s.trans hF.s).trans hsV, by (show 1 ≤ n); omega, fun h1 => by (show V.read.inp.length - V.read.pos + 2 ≤ n); rw [hFr.i, hF.i, M.read_pos h1]; have := peek_lt h1; rw [hF.i] at this; omega, hpk⟩ (Nat.lt_succ_self _)
    · intro hb1
      have ht1 := hb1
      try simp only [decide_eq_true_eq, decide_eq_false_iff_not, Bool.not_eq_true', Bool.not_eq_false', beq_iff_eq, Bool.and_eq_true, Bool.or_eq_true] at ht1
      refine wp_exit (exitThen (exitThen (exitIn ?_)))
      refine hK2 _ _ ?_
      refine wp_seq_k fun K6 hK6 => ?_
      refine wp_seq_k fun K7 hK7 => ?_
      have hB : S.read.blanks (S.peek 0) = (V, r) := by rw [← hT, if_neg (by simp [ht1])]
      refine wp_region_lit ?_
      refine one fun C hC => val hE7 (R.move hE7 rfl) rfl fun a8 hE8 => hC _ _ ?_
      clear hC C
      clear hE7 a7
      refine wpList_nil (hK7 _ _ ?_)
      clear hK7 K7
      replace hE8 := hE8.keep (E' := [(0, _), (3, _), (7, _), (10, _)]) ⟨rfl, rfl, rfl, rfl, trivial⟩
      refine wp_block ?_
      refine wp_seq_k fun K8 hK8 => ?_
      refine wp_seq_k fun K9 hK9 => ?_
      refine wp_region_lit ?_
      refine one fun C hC => val hE8 (R.eql hE8 rfl rfl) rfl fun a9 hE9 => hC _ _ ?_
      clear hC C
      clear hE8 a8
      refine one fun C hC => val hE9 (R.assign hE9 rfl) rfl fun a10 hE10 => hC _ _ ?_
      clear hC C
      clear hE9 a9
      refine wpList_nil (hK9 _ _ ?_)
      clear hK9 K9
      replace hE10 := hE10.keep (E' := [(0, _), (3, _), (7, _), (10, _), (11, _)]) ⟨rfl, rfl, rfl, rfl, rfl, trivial⟩
      refine condR hE10 rfl ?_ ?_
      · intro hb2
        have ht2 := hb2
        try simp only [decide_eq_true_eq, decide_eq_false_iff_not, Bool.not_eq_true', Bool.not_eq_false', beq_iff_eq, Bool.and_eq_true, Bool.or_eq_true] at ht2
        refine wp_skip (hK8 _ _ ?_)
        refine condT hE10 rfl hb2 ?_
        refine wp_seq_k fun K10 hK10 => ?_
        refine wp_region_lit ?_
        refine one fun C hC => val hE10 (R.move hE10 rfl) rfl fun a11 hE11 => hC _ _ ?_
        clear hC C
        clear hE10 a10
        refine one fun C hC => val hE11 (R.move hE11 rfl) rfl fun a12 hE12 => hC _ _ ?_
        clear hC C
        clear hE11 a11
        refine one fun C hC => callO hE12 (quoted_c G hIn hRef hRo hRp b V (by first | rfl | assumption | ((try dsimp only); (try simp only [M.read_st, M.fault_st, M.say_st, M.begin_st, M.flush_st, M.keep_st, M.leave_st, M.again_st, M.first_st]); first | rfl | assumption)) r (by omega) (hO2.le (by omega))) cb_71 rfl (hM3.cast (show (star (mach none b V) (star G F0)) = (star (star (mach none b V) G) F0) from by ac_rfl)) rfl ?_ ?_
        · intro hy1 w4 hM4
          exact hX _ _ hE12.defers (by rw [M.before]; simp only [hB]; rw [if_pos (by omega), hy1]) hM4
        intro y1 hy1 a13 w4 hE13 hM4
        refine hC _ _ ?_
        clear hC C hE12 hM3 a12
        replace hM4 := hM4.cast (star_assoc _ _ _)
        refine one fun C hC => val hE13 (R.assign hE13 rfl) rfl fun a14 hE14 => hC _ _ ?_
        clear hC C
        clear hE13 a13
        refine wpList_nil (hK10 _ _ ?_)
        clear hK10 K10
        replace hE14 := hE14.keep (E' := [(0, _), (2, _), (3, _), (7, _), (10, _), (11, _)]) ⟨rfl, rfl, rfl, rfl, rfl, rfl, trivial⟩
        refine wp_ret (hQ _ _ ?_)
        have hm := hM4
        refine back1 hE14 rfl rfl (Mem.doneO (y1.1, y1.2) ?_ rfl ?_)
        · rw [M.before]; simp only [hB]; rw [if_pos (by omega), hy1]
        exact hm.cast (by ac_rfl)
      · intro hb2
        have ht2 := hb2
        try simp only [decide_eq_true_eq, decide_eq_false_iff_not, Bool.not_eq_true', Bool.not_eq_false', beq_iff_eq, Bool.and_eq_true, Bool.or_eq_true] at ht2
        refine wp_region_lit ?_
        refine one fun C hC => val hE10 (R.eql hE10 rfl rfl) rfl fun a11 hE11 => hC _ _ ?_
        clear hC C
        clear hE10 a10
        refine one fun C hC => val hE11 (R.assign hE11 rfl) rfl fun a12 hE12 => hC _ _ ?_
        clear hC C
        clear hE11 a11
        replace hE12 := hE12.keep (E' := [(0, _), (3, _), (7, _), (10, _), (11, _)]) ⟨rfl, rfl, rfl, rfl, rfl, trivial⟩
        refine wpList_nil (hK8 _ _ ?_)
        refine condR hE12 rfl ?_ ?_
        · intro hb3
          have ht3 := hb3
          try simp only [decide_eq_true_eq, decide_eq_false_iff_not, Bool.not_eq_true', Bool.not_eq_false', beq_iff_eq, Bool.and_eq_true, Bool.or_eq_true] at ht3
          refine wp_seq_k fun K11 hK11 => ?_
          refine wp_region_lit ?_
          refine one fun C hC => val hE12 (R.move hE12 rfl) rfl fun a13 hE13 => hC _ _ ?_
          clear hC C
          clear hE12 a12
          refine one fun C hC => val hE13 (R.move hE13 rfl) rfl fun a14 hE14 => hC _ _ ?_
          clear hC C
          clear hE13 a13
          refine one fun C hC => callO hE14 (quoted_c G hIn hRef hRo hRp b V (by first | rfl | assumption | ((try dsimp only); (try simp only [M.read_st, M.fault_st, M.say_st, M.begin_st, M.flush_st, M.keep_st, M.leave_st, M.again_st, M.first_st]); first | rfl | assumption)) r (by omega) (hO2.le (by omega))) cb_71 rfl (hM3.cast (show (star (mach none b V) (star G F0)) = (star (star (mach none b V) G) F0) from by ac_rfl)) rfl ?_ ?_
          · intro hy1 w4 hM4
            exact hX _ _ hE14.defers (by rw [M.before]; simp only [hB]; rw [if_pos (by omega), hy1]) hM4
          intro y1 hy1 a15 w4 hE15 hM4
          refine hC _ _ ?_
          clear hC C hE14 hM3 a14
          replace hM4 := hM4.cast (star_assoc _ _ _)
          refine one fun C hC => val hE15 (R.assign hE15 rfl) rfl fun a16 hE16 => hC _ _ ?_
          clear hC C
          clear hE15 a15
          refine wpList_nil (hK11 _ _ ?_)
          clear hK11 K11
          replace hE16 := hE16.keep (E' := [(0, _), (2, _), (3, _), (7, _), (10, _), (11, _)]) ⟨rfl, rfl, rfl, rfl, rfl, rfl, trivial⟩
          refine wp_ret (hQ _ _ ?_)
          have hm := hM4
          refine back1 hE16 rfl rfl (Mem.doneO (y1.1, y1.2) ?_ rfl ?_)
          · rw [M.before]; simp only [hB]; rw [if_pos (by omega), hy1]
          exact hm.cast (by ac_rfl)
        · intro hb3
          have ht3 := hb3
          try simp only [decide_eq_true_eq, decide_eq_false_iff_not, Bool.not_eq_true', Bool.not_eq_false', beq_iff_eq, Bool.and_eq_true, Bool.or_eq_true] at ht3
          refine wp_seq_k fun K12 hK12 => ?_
          refine wp_region_lit ?_
          refine one fun C hC => val hE12 (R.eql hE12 rfl rfl) rfl fun a13 hE13 => hC _ _ ?_
          clear hC C
          clear hE12 a12
          refine one fun C hC => val hE13 (R.assign hE13 rfl) rfl fun a14 hE14 => hC _ _ ?_
          clear hC C
          clear hE13 a13
          refine wpList_nil (hK12 _ _ ?_)
          clear hK12 K12
          replace hE14 := hE14.keep (E' := [(0, _), (3, _), (7, _), (10, _), (11, _), (17, _)]) ⟨rfl, rfl, rfl, rfl, rfl, rfl, trivial⟩
          refine condR hE14 rfl ?_ ?_
          · intro hb4
            have ht4 := hb4
            try simp only [decide_eq_true_eq, decide_eq_false_iff_not, Bool.not_eq_true', Bool.not_eq_false', beq_iff_eq, Bool.and_eq_true, Bool.or_eq_true] at ht4
            refine wp_seq_k fun K13 hK13 => ?_
            refine wp_region_lit ?_
            refine one fun C hC => val hE14 (R.move hE14 rfl) rfl fun a15 hE15 => hC _ _ ?_
            clear hC C
            clear hE14 a14
            refine one fun C hC => callM hE15 (fault_c b V 10 hO2.f) cb_20 rfl hM3 rfl fun  a16 w4 hE16 hM4 => hC _ _ ?_
            clear hC C hE15 hM3 a15
            have hO3 := hO2.fault (x := 10) (d := 59) (by omega)
            have hp3 := hO3.p
            have hn3 := hO3.n
            refine wpList_nil (hK13 _ _ ?_)
            clear hK13 K13
            replace hE16 := hE16.keep (E' := [(0, _), (3, _), (7, _), (10, _), (11, _), (17, _)]) ⟨rfl, rfl, rfl, rfl, rfl, rfl, trivial⟩
            refine wp_seq_k fun K14 hK14 => ?_
            refine wp_region_lit ?_
            refine one fun C hC => val hE16 (R.move hE16 rfl) rfl fun a17 hE17 => hC _ _ ?_
            clear hC C
            clear hE16 a16
            refine one fun C hC => val hE17 (R.move hE17 rfl) rfl fun a18 hE18 => hC _ _ ?_
            clear hC C
            clear hE17 a17
            refine one fun C hC => callO hE18 (edge_c G hIn b (V.fault 10) (by first | rfl | assumption | ((try dsimp only); (try simp only [M.read_st, M.fault_st, M.say_st, M.begin_st, M.flush_st, M.keep_st, M.leave_st, M.again_st, M.first_st]); first | rfl | assumption)) r (hO3.le (by omega))) cb_39 rfl (hM4.cast (show (star (mach none b (V.fault 10)) (star G F0)) = (star (star (mach none b (V.fault 10)) G) F0) from by ac_rfl)) rfl ?_ ?_
            · intro hy1 w5 hM5
              exact hX _ _ hE18.defers (by rw [M.before]; simp only [hB]; rw [if_neg (by omega), if_pos ht4]; rw [ht4] at hy1; exact hy1) hM5
            intro y1 hy1 a19 w5 hE19 hM5
            refine hC _ _ ?_
            clear hC C hE18 hM4 a18
            replace hM5 := hM5.cast (star_assoc _ _ _)
            have hO4 := hO3.edge hy1 (d := 55) (by omega)
            have hp4 := hO4.p
            have hn4 := hO4.n
            refine one fun C hC => val hE19 (R.assign hE19 rfl) rfl fun a20 hE20 => hC _ _ ?_
            clear hC C
            clear hE19 a19
            refine wpList_nil (hK14 _ _ ?_)
            clear hK14 K14
            replace hE20 := hE20.keep (E' := [(0, _), (2, _), (3, _), (7, _), (10, _), (11, _), (17, _)]) ⟨rfl, rfl, rfl, rfl, rfl, rfl, rfl, trivial⟩
            refine wp_ret (hQ _ _ ?_)
            have hm := hM5
            refine back1 hE20 rfl rfl (Mem.doneO (y1.1, y1.2) ?_ rfl ?_)
            · rw [M.before]; simp only [hB]; rw [if_neg (by omega), if_pos ht4]; rw [ht4] at hy1; exact hy1
            exact hm.cast (by ac_rfl)
          · intro hb4
            have ht4 := hb4
            try simp only [decide_eq_true_eq, decide_eq_false_iff_not, Bool.not_eq_true', Bool.not_eq_false', beq_iff_eq, Bool.and_eq_true, Bool.or_eq_true] at ht4
            refine wp_skip (hK6 _ _ ?_)
            refine wp_seq_k fun K15 hK15 => ?_
            refine wp_region_lit ?_
            refine one fun C hC => val hE14 (R.move hE14 rfl) rfl fun a15 hE15 => hC _ _ ?_
            clear hC C
            clear hE14 a14
            refine one fun C hC => val hE15 (R.move hE15 rfl) rfl fun a16 hE16 => hC _ _ ?_
            clear hC C
            clear hE15 a15
            refine one fun C hC => callO hE16 (unquoted_c G hIn hRef hRo hRp hOdd b V (by first | rfl | assumption | ((try dsimp only); (try simp only [M.read_st, M.fault_st, M.say_st, M.begin_st, M.flush_st, M.keep_st, M.leave_st, M.again_st, M.first_st]); first | rfl | assumption)) r (by omega) (hO2.le (by omega))) cb_72 rfl (hM3.cast (show (star (mach none b V) (star G F0)) = (star (star (mach none b V) G) F0) from by ac_rfl)) rfl ?_ ?_
            · intro hy1 w4 hM4
              exact hX _ _ hE16.defers (by rw [M.before]; simp only [hB]; rw [if_neg (by omega), if_neg ht4]; exact hy1) hM4
            intro y1 hy1 a17 w4 hE17 hM4
            refine hC _ _ ?_
            clear hC C hE16 hM3 a16
            replace hM4 := hM4.cast (star_assoc _ _ _)
            refine one fun C hC => val hE17 (R.assign hE17 rfl) rfl fun a18 hE18 => hC _ _ ?_
            clear hC C
            clear hE17 a17
            refine wpList_nil (hK15 _ _ ?_)
            clear hK15 K15
            replace hE18 := hE18.keep (E' := [(0, _), (2, _), (3, _), (7, _), (10, _), (11, _), (17, _)]) ⟨rfl, rfl, rfl, rfl, rfl, rfl, rfl, trivial⟩
            refine wp_ret (hQ _ _ ?_)
            have hm := hM4
            refine back1 hE18 rfl rfl (Mem.doneO (y1.1, y1.2) ?_ rfl ?_)
            · rw [M.before]; simp only [hB]; rw [if_neg (by omega), if_neg ht4]; exact hy1
            exact hm.cast (by ac_rfl)

set_option maxHeartbeats 4000000 in
include hIn hRef hRo hRp hOdd in
theorem afterName_c (b : Nat) (S : M) (hs : S.stale = false) (r0 : Int) (hr0 : -1 ≤ r0 ∧ r0 ≤ 1114111) (hO : S.Ok 120) : Fo Tryd.prog rej 58 [.pointer (some ⟨b, 0, none⟩), .int .i32 r0] (star (mach none b S) G) (S.afterName r0) (fun y => (.int .i64 y.1)) (fun y => star (mach none b y.2) G) G := by
  intro β w0 F0 hM0
  replace hM0 := hM0.cast (star_assoc _ _ _)
  obtain ⟨x, hk, hV, hM1⟩ := machAt.openT hs hM0
  clear hM0
  rename Mem _ _ _ => hM0
  refine enterO Tryd.func58 (by rfl) 20 rfl rfl fun a0 Q hE0 hQ hN hP hX => ?_
  have hp0 := hO.p
  have hn0 := hO.n
  have hs0 := hO.s
  simp only [M.sz] at hs0
  refine wp_seq_k fun K0 hK0 => ?_
  refine wp_region_lit ?_
  refine one fun C hC => val hE0 (R.assign hE0 rfl) rfl fun a1 hE1 => hC _ _ ?_
  clear hC C
  clear hE0 a0
  refine wpList_nil (hK0 _ _ ?_)
  clear hK0 K0
  replace hE1 := hE1.keep (E' := [(0, _), (1, _), (4, _)]) ⟨rfl, rfl, rfl, trivial⟩
  refine wp_seq_k fun K1 hK1 => ?_
  refine wp_block ?_
  refine loopR (σ := Nat × M × Int) (fun p a w => Env 20 [] a [(0, .pointer (some ⟨b, 0, none⟩)), (1, .int .i32 p.2.2)] ∧ Mem β w (star (mach none b p.2.1) (star G F0)) ∧ (M.blanksN p.1 p.2.1 p.2.2 = S.blanks r0) ∧ p.2.1.Ok 100 ∧ (p.2.2 ≠ -1 → p.2.1.Ok 110) ∧ p.2.1.stale = false ∧ 1 ≤ p.1 ∧ (p.2.2 ≠ -1 → p.2.1.inp.length - p.2.1.pos + 2 ≤ p.1) ∧ (-1 ≤ p.2.2 ∧ p.2.2 ≤ 1114111)) (fun p => p.1) ((S).inp.length + 2, S, r0) ?_ ?_
  · refine ⟨hE1.keep ⟨rfl, rfl, trivial⟩, (machAt.closeT (T := 53) (R := 21) (K := 43) (L := 24) (A := 45) (V := none) (b := b) (S := S) (F := star G F0) (by first | rfl | assumption | ((try dsimp only); (try simp only [M.read_st, M.fault_st, M.say_st, M.begin_st, M.flush_st, M.keep_st, M.leave_st, M.again_st, M.first_st]); first | rfl | assumption)) x hk trivial (by (try dsimp only); (try simp only [List.length_nil, attrsOf_snoc, tagAt_true]); (try simp only [emp_star, star_emp]); exact hM0.cast (by ac_rfl))), rfl, hO.le (by omega), fun _ => hO.le (by omega), (by first | rfl | assumption | ((try dsimp only); (try simp only [M.read_st, M.fault_st, M.say_st, M.begin_st, M.flush_st, M.keep_st, M.leave_st, M.again_st, M.first_st]); first | rfl | assumption)), by (try dsimp only); omega, fun _ => by (try dsimp only); omega, by (try dsimp only); omega⟩
  · clear hE1 hM0 a1
    rintro ⟨n, V, r⟩ a2 w1 ⟨hE2, hM1, hT, hO1, hOr, hsV, hn1, hr, hrb⟩ K hK
    dsimp only at hE2 hM1 hT hO1 hOr hsV hn1 hr hrb
    obtain ⟨n, rfl⟩ : ∃ n', n = n' + 1 := ⟨n - 1, by omega⟩
    clear hn1
    have hp1 := hO1.p
    have hn1 := hO1.n
    unfold M.blanksN at hT
    have hK2 : ∀ a w, K a w → K a w := fun _ _ h => h
    refine wp_seq_k fun K3 hK3 => ?_
    refine wp_seq_k fun K4 hK4 => ?_
    refine wp_region_lit ?_
    refine one fun C hC => val hE2 (R.move hE2 rfl) rfl fun a3 hE3 => hC _ _ ?_
    clear hC C
    clear hE2 a2
    refine one fun C hC => callF hE3 (blank_c _) cb_36 rfl hM1 rfl  fun  a4 w2 hE4 hM2 => hC _ _ ?_
    clear hC C hE3 hM1 a3
    refine wpList_nil (hK4 _ _ ?_)
    clear hK4 K4
    replace hE4 := hE4.keep (E' := [(0, _), (1, _), (7, _)]) ⟨rfl, rfl, rfl, trivial⟩
    refine condR hE4 rfl ?_ ?_
    · intro hb1
      have ht1 := hb1
      try simp only [decide_eq_true_eq, decide_eq_false_iff_not, Bool.not_eq_true', Bool.not_eq_false', beq_iff_eq, Bool.and_eq_true, Bool.or_eq_true] at ht1
      refine wp_skip (hK3 _ _ ?_)
      refine wp_block ?_
      refine wp_region_lit ?_
      refine one fun C hC => val hE4 (R.move hE4 rfl) rfl fun a5 hE5 => hC _ _ ?_
      clear hC C
      clear hE4 a4
      refine one fun C hC => callM hE5 (read_c b V hO1.pos hO1.f) cb_14 rfl hM2 rfl fun  a6 w3 hE6 hM3 => hC _ _ ?_
      clear hC C hE5 hM2 a5
      have hO2 := hO1.read
      have hp2 := hO2.p
      have hn2 := hO2.n
      refine one fun C hC => val hE6 (R.assign hE6 rfl) rfl fun a7 hE7 => hC _ _ ?_
      clear hC C
      clear hE6 a6
      replace hE7 := hE7.keep (E' := [(0, _), (1, _), (7, _)]) ⟨rfl, rfl, rfl, trivial⟩
      refine wpList_nil (hK2 _ _ ?_)
      have hm := hM3
      have h0 : r ≠ -1 := blank_ne ht1
      rw [if_pos ht1] at hT
      have hF : M.Fwd V V := M.Fwd.refl V
      have hQ2 : V.Ok 102 := (hOr h0).le (by omega)
      have hFr := M.fwd_read V
      have hpk := hQ2.peek 0
      have hr2 := hr h0
      have hi2 := hF.i
      have hp2 := hF.p
      refine hK (n, V.read, V.peek 0) _ _ ⟨hE7.keep ⟨rfl, rfl, trivial⟩, hm, hT, hQ2.read.le (by omega), fun h1 => (hQ2.read_more h1).le (by omega), (hFr.s.trans hF.s).trans hsV, by (show 1 ≤ n); omega, fun h1 => by (show V.read.inp.length - V.read.pos + 2 ≤ n); rw [hFr.i, hF.i, M.read_pos h1]; have := peek_lt h1; rw [hF.i] at this; omega, hpk⟩ (Nat.lt_succ_self _)
    · intro hb1
      have ht1 := hb1
      try simp only [decide_eq_true_eq, decide_eq_false_iff_not, Bool.not_eq_true', Bool.not_eq_false', beq_iff_eq, Bool.and_eq_true, Bool.or_eq_true] at ht1
      refine wp_exit (exitThen (exitThen (exitIn ?_)))
      refine hK1 _ _ ?_
      refine wp_seq_k fun K5 hK5 => ?_
      refine wp_seq_k fun K6 hK6 => ?_
      have hB : S.blanks r0 = (V, r) := by rw [← hT, if_neg (by simp [ht1])]
      refine wp_region_lit ?_
      refine one fun C hC => val hE4 (R.move hE4 rfl) rfl fun a5 hE5 => hC _ _ ?_
      clear hC C
      clear hE4 a4
      refine one fun C hC => val hE5 (R.eql hE5 rfl rfl) rfl fun a6 hE6 => hC _ _ ?_
      clear hC C
      clear hE5 a5
      refine wpList_nil (hK6 _ _ ?_)
      clear hK6 K6
      replace hE6 := hE6.keep (E' := [(0, _), (1, _), (7, _), (11, _)]) ⟨rfl, rfl, rfl, rfl, trivial⟩
      refine condR hE6 rfl ?_ ?_
      · intro hb2
        have ht2 := hb2
        try simp only [decide_eq_true_eq, decide_eq_false_iff_not, Bool.not_eq_true', Bool.not_eq_false', beq_iff_eq, Bool.and_eq_true, Bool.or_eq_true] at ht2
        refine wp_seq_k fun K7 hK7 => ?_
        refine wp_region_lit ?_
        refine one fun C hC => val hE6 (R.move hE6 rfl) rfl fun a7 hE7 => hC _ _ ?_
        clear hC C
        clear hE6 a6
        refine one fun C hC => callO hE7 (before_c G hIn hRef hRo hRp hOdd b V (by first | rfl | assumption | ((try dsimp only); (try simp only [M.read_st, M.fault_st, M.say_st, M.begin_st, M.flush_st, M.keep_st, M.leave_st, M.again_st, M.first_st]); first | rfl | assumption)) (hO1.le (by omega))) cb_59 rfl (hM2.cast (show (star (mach none b V) (star G F0)) = (star (star (mach none b V) G) F0) from by ac_rfl)) rfl ?_ ?_
        · intro hy1 w3 hM3
          exact hX _ _ hE7.defers (by rw [M.afterName]; simp only [hB]; rw [if_pos ht2, hy1]) hM3
        intro y1 hy1 a8 w3 hE8 hM3
        refine hC _ _ ?_
        clear hC C hE7 hM2 a7
        replace hM3 := hM3.cast (star_assoc _ _ _)
        refine one fun C hC => val hE8 (R.assign hE8 rfl) rfl fun a9 hE9 => hC _ _ ?_
        clear hC C
        clear hE8 a8
        refine wpList_nil (hK7 _ _ ?_)
        clear hK7 K7
        replace hE9 := hE9.keep (E' := [(0, _), (1, _), (4, _), (7, _), (11, _)]) ⟨rfl, rfl, rfl, rfl, rfl, trivial⟩
        refine wp_ret (hQ _ _ ?_)
        have hm := hM3
        refine back1 hE9 rfl rfl (Mem.doneO (y1.1, y1.2) ?_ rfl ?_)
        · rw [M.afterName]; simp only [hB]; rw [if_pos ht2, hy1]
        exact hm.cast (by ac_rfl)
      · intro hb2
        have ht2 := hb2
        try simp only [decide_eq_true_eq, decide_eq_false_iff_not, Bool.not_eq_true', Bool.not_eq_false', beq_iff_eq, Bool.and_eq_true, Bool.or_eq_true] at ht2
        refine wp_skip (hK5 _ _ ?_)
        refine wp_seq_k fun K8 hK8 => ?_
        refine wp_seq_k fun K9 hK9 => ?_
        refine wp_region_lit ?_
        refine one fun C hC => val hE6 (R.move hE6 rfl) rfl fun a7 hE7 => hC _ _ ?_
        clear hC C
        clear hE6 a6
        refine one fun C hC => val hE7 (R.move hE7 rfl) rfl fun a8 hE8 => hC _ _ ?_
        clear hC C
        clear hE7 a7
        refine one fun C hC => callO hE8 (edge_c G hIn b V (by first | rfl | assumption | ((try dsimp only); (try simp only [M.read_st, M.fault_st, M.say_st, M.begin_st, M.flush_st, M.keep_st, M.leave_st, M.again_st, M.first_st]); first | rfl | assumption)) r (hO1.le (by omega))) cb_39 rfl (hM2.cast (show (star (mach none b V) (star G F0)) = (star (star (mach none b V) G) F0) from by ac_rfl)) rfl ?_ ?_
        · intro hy1 w3 hM3
          exact hX _ _ hE8.defers (by rw [M.afterName]; simp only [hB]; rw [if_neg ht2, hy1]; rfl) hM3
        intro y1 hy1 a9 w3 hE9 hM3
        refine hC _ _ ?_
        clear hC C hE8 hM2 a8
        replace hM3 := hM3.cast (star_assoc _ _ _)
        have hO2 := hO1.edge hy1 (d := 96) (by omega)
        have hp2 := hO2.p
        have hn2 := hO2.n
        refine one fun C hC => val hE9 (R.assign hE9 rfl) rfl fun a10 hE10 => hC _ _ ?_
        clear hC C
        clear hE9 a9
        refine wpList_nil (hK9 _ _ ?_)
        clear hK9 K9
        replace hE10 := hE10.keep (E' := [(0, _), (1, _), (5, _), (7, _), (11, _)]) ⟨rfl, rfl, rfl, rfl, rfl, trivial⟩
        refine wp_seq_k fun K10 hK10 => ?_
        refine wp_region_lit ?_
        refine one fun C hC => val hE10 (R.move hE10 rfl) rfl fun a11 hE11 => hC _ _ ?_
        clear hC C
        clear hE10 a10
        refine one fun C hC => val hE11 (R.neq hE11 rfl rfl) rfl fun a12 hE12 => hC _ _ ?_
        clear hC C
        clear hE11 a11
        refine wpList_nil (hK10 _ _ ?_)
        clear hK10 K10
        replace hE12 := hE12.keep (E' := [(0, _), (1, _), (5, _), (7, _), (11, _), (18, _)]) ⟨rfl, rfl, rfl, rfl, rfl, rfl, trivial⟩
        refine condR hE12 rfl ?_ ?_
        · intro hb3
          have ht3 := hb3
          try simp only [decide_eq_true_eq, decide_eq_false_iff_not, Bool.not_eq_true', Bool.not_eq_false', beq_iff_eq, Bool.and_eq_true, Bool.or_eq_true] at ht3
          refine wp_seq_k fun K11 hK11 => ?_
          refine wp_region_lit ?_
          refine one fun C hC => val hE12 (R.move hE12 rfl) rfl fun a13 hE13 => hC _ _ ?_
          clear hC C
          clear hE12 a12
          refine one fun C hC => val hE13 (R.assign hE13 rfl) rfl fun a14 hE14 => hC _ _ ?_
          clear hC C
          clear hE13 a13
          refine wpList_nil (hK11 _ _ ?_)
          clear hK11 K11
          replace hE14 := hE14.keep (E' := [(0, _), (1, _), (4, _), (5, _), (7, _), (11, _), (18, _)]) ⟨rfl, rfl, rfl, rfl, rfl, rfl, rfl, trivial⟩
          refine wp_ret (hQ _ _ ?_)
          have hm := hM3
          refine back1 hE14 rfl rfl (Mem.doneO (y1.1, y1.2) ?_ rfl ?_)
          · rw [M.afterName]; simp only [hB]; rw [if_neg ht2, hy1]; simp [ht1, ht2, ht3, hy1]
          exact hm.cast (by ac_rfl)
        · intro hb3
          have ht3 := hb3
          try simp only [decide_eq_true_eq, decide_eq_false_iff_not, Bool.not_eq_true', Bool.not_eq_false', beq_iff_eq, Bool.and_eq_true, Bool.or_eq_true] at ht3
          refine wp_skip (hK8 _ _ ?_)
          refine wp_seq_k fun K12 hK12 => ?_
          refine wp_region_lit ?_
          refine one fun C hC => val hE12 (R.assign hE12 rfl) rfl fun a13 hE13 => hC _ _ ?_
          clear hC C
          clear hE12 a12
          refine wpList_nil (hK12 _ _ ?_)
          clear hK12 K12
          replace hE13 := hE13.keep (E' := [(0, _), (1, _), (4, _), (5, _), (7, _), (11, _), (18, _)]) ⟨rfl, rfl, rfl, rfl, rfl, rfl, rfl, trivial⟩
          refine wp_ret (hQ _ _ ?_)
          have hm := hM3
          refine back1 hE13 rfl rfl (Mem.doneO (2, y1.2) ?_ rfl ?_)
          · rw [M.afterName]; simp only [hB]; rw [if_neg ht2, hy1]; simp [ht1, ht2, ht3, hy1]
          exact hm.cast (by ac_rfl)

set_option maxHeartbeats 4000000 in
include hIn hRef hRo hRp hOdd in
theorem attrName_c (b : Nat) (S : M) (hs : S.stale = false) (r0 : Int) (hr0 : -1 ≤ r0 ∧ r0 ≤ 1114111) (hO : S.Ok 160) : Fo Tryd.prog rej 41 [.pointer (some ⟨b, 0, none⟩), .int .i32 r0] (star (mach none b S) G) (S.attrName r0) (fun y => (.int .i64 y.1)) (fun y => star (mach none b y.2) G) G := by
  intro β w0 F0 hM0
  replace hM0 := hM0.cast (star_assoc _ _ _)
  obtain ⟨x, hk, hV, hM1⟩ := machAt.openT hs hM0
  clear hM0
  rename Mem _ _ _ => hM0
  refine enterO Tryd.func41 (by rfl) 63 rfl rfl fun a0 Q hE0 hQ hN hP hX => ?_
  have hp0 := hO.p
  have hn0 := hO.n
  have hs0 := hO.s
  simp only [M.sz] at hs0
  refine wp_seq_k fun K0 hK0 => ?_
  refine wp_region_lit ?_
  refine one fun C hC => val hE0 (R.assign hE0 rfl) rfl fun a1 hE1 => hC _ _ ?_
  clear hC C
  clear hE0 a0
  refine wpList_nil (hK0 _ _ ?_)
  clear hK0 K0
  replace hE1 := hE1.keep (E' := [(0, _), (1, _), (4, _)]) ⟨rfl, rfl, rfl, trivial⟩
  refine wp_block ?_
  refine loopR (σ := Nat × M × Int) (fun p a w => Env 63 [] a [(0, .pointer (some ⟨b, 0, none⟩)), (1, .int .i32 p.2.2)] ∧ Mem β w (star (mach none b p.2.1) (star G F0)) ∧ (M.attrNameN p.1 p.2.1 p.2.2 = S.attrName r0) ∧ p.2.1.Ok 140 ∧ (p.2.2 ≠ -1 → p.2.1.Ok 150) ∧ p.2.1.stale = false ∧ 1 ≤ p.1 ∧ (p.2.2 ≠ -1 → p.2.1.inp.length - p.2.1.pos + 2 ≤ p.1) ∧ (-1 ≤ p.2.2 ∧ p.2.2 ≤ 1114111)) (fun p => p.1) ((S).inp.length + 2, S, r0) ?_ ?_
  · refine ⟨hE1.keep ⟨rfl, rfl, trivial⟩, (machAt.closeT (T := 53) (R := 21) (K := 43) (L := 24) (A := 45) (V := none) (b := b) (S := S) (F := star G F0) (by first | rfl | assumption | ((try dsimp only); (try simp only [M.read_st, M.fault_st, M.say_st, M.begin_st, M.flush_st, M.keep_st, M.leave_st, M.again_st, M.first_st]); first | rfl | assumption)) x hk trivial (by (try dsimp only); (try simp only [List.length_nil, attrsOf_snoc, tagAt_true]); (try simp only [emp_star, star_emp]); exact hM0.cast (by ac_rfl))), rfl, hO.le (by omega), fun _ => hO.le (by omega), (by first | rfl | assumption | ((try dsimp only); (try simp only [M.read_st, M.fault_st, M.say_st, M.begin_st, M.flush_st, M.keep_st, M.leave_st, M.again_st, M.first_st]); first | rfl | assumption)), by (try dsimp only); omega, fun _ => by (try dsimp only); omega, by (try dsimp only); omega⟩
  · clear hE1 hM0 a1
    rintro ⟨n, V, r⟩ a2 w1 ⟨hE2, hM1, hT, hO1, hOr, hsV, hn1, hr, hrb⟩ K hK
    dsimp only at hE2 hM1 hT hO1 hOr hsV hn1 hr hrb
    obtain ⟨n, rfl⟩ : ∃ n', n = n' + 1 := ⟨n - 1, by omega⟩
    clear hn1
    have hp1 := hO1.p
    have hn1 := hO1.n
    unfold M.attrNameN at hT
    have hK1 : ∀ a w, K a w → K a w := fun _ _ h => h
    refine wp_block ?_
    refine wp_seq_k fun K2 hK2 => ?_
    refine wp_block ?_
    refine wp_seq_k fun K3 hK3 => ?_
    refine wp_region_lit ?_
    refine one fun C hC => val hE2 (R.move hE2 rfl) rfl fun a3 hE3 => hC _ _ ?_
    clear hC C
    clear hE2 a2
    refine one fun C hC => callF hE3 (blank_c _) cb_36 rfl hM1 rfl  fun  a4 w2 hE4 hM2 => hC _ _ ?_
    clear hC C hE3 hM1 a3
    refine one fun C hC => val hE4 (R.move hE4 rfl) rfl fun a5 hE5 => hC _ _ ?_
    clear hC C
    clear hE4 a4
    refine splitE hE5 (x := .tmp 8) rfl ?_ ?_
    · intro hb1
      have ht1 := hb1
      try simp only [decide_eq_true_eq, decide_eq_false_iff_not, Bool.not_eq_true', Bool.not_eq_false', beq_iff_eq, Bool.and_eq_true, Bool.or_eq_true] at ht1
      refine oneOff hE5 rfl rfl hb1 rfl fun a6 hE6 => ?_
      clear hE5 a5
      refine oneOff hE6 rfl rfl hb1 rfl fun a7 hE7 => ?_
      clear hE6 a6
      refine one fun C hC => val hE7 (R.pickT hE7 rfl hb1 rfl) rfl fun a8 hE8 => hC _ _ ?_
      clear hC C
      clear hE7 a7
      refine one fun C hC => val hE8 (R.move hE8 rfl) rfl fun a9 hE9 => hC _ _ ?_
      clear hC C
      clear hE8 a8
      refine oneOff hE9 rfl rfl rfl rfl fun a10 hE10 => ?_
      clear hE9 a9
      refine oneOff hE10 rfl rfl rfl rfl fun a11 hE11 => ?_
      clear hE10 a10
      refine one fun C hC => val hE11 (R.pickT hE11 rfl rfl rfl) rfl fun a12 hE12 => hC _ _ ?_
      clear hC C
      clear hE11 a11
      refine one fun C hC => val hE12 (R.move hE12 rfl) rfl fun a13 hE13 => hC _ _ ?_
      clear hC C
      clear hE12 a12
      refine oneOff hE13 rfl rfl rfl rfl fun a14 hE14 => ?_
      clear hE13 a13
      refine oneOff hE14 rfl rfl rfl rfl fun a15 hE15 => ?_
      clear hE14 a14
      refine one fun C hC => val hE15 (R.pickT hE15 rfl rfl rfl) rfl fun a16 hE16 => hC _ _ ?_
      clear hC C
      clear hE15 a15
      refine one fun C hC => val hE16 (R.assign hE16 rfl) rfl fun a17 hE17 => hC _ _ ?_
      clear hC C
      clear hE16 a16
      refine wpList_nil (hK3 _ _ ?_)
      clear hK3 K3
      replace hE17 := hE17.keep (E' := [(0, _), (1, _), (5, _)]) ⟨rfl, rfl, rfl, trivial⟩
      refine condT hE17 rfl rfl ?_
      refine wp_seq_k fun K4 hK4 => ?_
      refine wp_region_lit ?_
      refine one fun C hC => val hE17 (R.move hE17 rfl) rfl fun a18 hE18 => hC _ _ ?_
      clear hC C
      clear hE17 a17
      refine one fun C hC => callM hE18 (leave_c b V (by first | rfl | assumption | ((try dsimp only); (try simp only [M.read_st, M.fault_st, M.say_st, M.begin_st, M.flush_st, M.keep_st, M.leave_st, M.again_st, M.first_st]); first | rfl | assumption)) (hO1.le (by omega))) cb_57 rfl hM2 rfl fun  a19 w3 hE19 hM3 => hC _ _ ?_
      clear hC C hE18 hM2 a18
      have hO2 := hO1.leave (d := 139) (by omega)
      have hp2 := hO2.p
      have hn2 := hO2.n
      refine wpList_nil (hK4 _ _ ?_)
      clear hK4 K4
      replace hE19 := hE19.keep (E' := [(0, _), (1, _), (5, _)]) ⟨rfl, rfl, rfl, trivial⟩
      refine wp_seq_k fun K5 hK5 => ?_
      refine wp_region_lit ?_
      refine one fun C hC => val hE19 (R.move hE19 rfl) rfl fun a20 hE20 => hC _ _ ?_
      clear hC C
      clear hE19 a19
      refine one fun C hC => val hE20 (R.move hE20 rfl) rfl fun a21 hE21 => hC _ _ ?_
      clear hC C
      clear hE20 a20
      refine one fun C hC => callO hE21 (afterName_c G hIn hRef hRo hRp hOdd b V.leave (by first | rfl | assumption | ((try dsimp only); (try simp only [M.read_st, M.fault_st, M.say_st, M.begin_st, M.flush_st, M.keep_st, M.leave_st, M.again_st, M.first_st]); first | rfl | assumption)) r (by omega) (hO2.le (by omega))) cb_58 rfl (hM3.cast (show (star (mach none b V.leave) (star G F0)) = (star (star (mach none b V.leave) G) F0) from by ac_rfl)) rfl ?_ ?_
      · intro hy1 w4 hM4
        exact hX _ _ hE21.defers (by rw [← hT, if_pos (by simp [ht1]), hy1]) hM4
      intro y1 hy1 a22 w4 hE22 hM4
      refine hC _ _ ?_
      clear hC C hE21 hM3 a21
      replace hM4 := hM4.cast (star_assoc _ _ _)
      refine one fun C hC => val hE22 (R.assign hE22 rfl) rfl fun a23 hE23 => hC _ _ ?_
      clear hC C
      clear hE22 a22
      refine wpList_nil (hK5 _ _ ?_)
      clear hK5 K5
      replace hE23 := hE23.keep (E' := [(0, _), (1, _), (4, _), (5, _)]) ⟨rfl, rfl, rfl, rfl, trivial⟩
      refine wp_ret (hQ _ _ ?_)
      have hm := hM4
      refine back1 hE23 rfl rfl (Mem.doneO (y1.1, y1.2) ?_ rfl ?_)
      · rw [← hT, if_pos (by simp [ht1]), hy1]
      exact hm.cast (by ac_rfl)
    · intro hb1
      have ht1 := hb1
      try simp only [decide_eq_true_eq, decide_eq_false_iff_not, Bool.not_eq_true', Bool.not_eq_false', beq_iff_eq, Bool.and_eq_true, Bool.or_eq_true] at ht1
      refine oneOn hE5 rfl rfl hb1 fun C hC => val hE5 (R.move hE5 rfl) rfl fun a6 hE6 => hC _ _ ?_
      clear hC C
      clear hE5 a5
      refine oneOn hE6 rfl rfl hb1 fun C hC => val hE6 (R.eql hE6 rfl rfl) rfl fun a7 hE7 => hC _ _ ?_
      clear hC C
      clear hE6 a6
      refine one fun C hC => val hE7 (R.pickF hE7 rfl hb1 rfl) rfl fun a8 hE8 => hC _ _ ?_
      clear hC C
      clear hE7 a7
      refine one fun C hC => val hE8 (R.move hE8 rfl) rfl fun a9 hE9 => hC _ _ ?_
      clear hC C
      clear hE8 a8
      refine splitE hE9 (x := .tmp 12) rfl ?_ ?_
      · intro hb2
        have ht2 := hb2
        try simp only [decide_eq_true_eq, decide_eq_false_iff_not, Bool.not_eq_true', Bool.not_eq_false', beq_iff_eq, Bool.and_eq_true, Bool.or_eq_true] at ht2
        refine oneOff hE9 rfl rfl hb2 rfl fun a10 hE10 => ?_
        clear hE9 a9
        refine oneOff hE10 rfl rfl hb2 rfl fun a11 hE11 => ?_
        clear hE10 a10
        refine one fun C hC => val hE11 (R.pickT hE11 rfl hb2 rfl) rfl fun a12 hE12 => hC _ _ ?_
        clear hC C
        clear hE11 a11
        refine one fun C hC => val hE12 (R.move hE12 rfl) rfl fun a13 hE13 => hC _ _ ?_
        clear hC C
        clear hE12 a12
        refine oneOff hE13 rfl rfl rfl rfl fun a14 hE14 => ?_
        clear hE13 a13
        refine oneOff hE14 rfl rfl rfl rfl fun a15 hE15 => ?_
        clear hE14 a14
        refine one fun C hC => val hE15 (R.pickT hE15 rfl rfl rfl) rfl fun a16 hE16 => hC _ _ ?_
        clear hC C
        clear hE15 a15
        refine one fun C hC => val hE16 (R.assign hE16 rfl) rfl fun a17 hE17 => hC _ _ ?_
        clear hC C
        clear hE16 a16
        refine wpList_nil (hK3 _ _ ?_)
        clear hK3 K3
        replace hE17 := hE17.keep (E' := [(0, _), (1, _), (5, _)]) ⟨rfl, rfl, rfl, trivial⟩
        refine condT hE17 rfl rfl ?_
        refine wp_seq_k fun K6 hK6 => ?_
        refine wp_region_lit ?_
        refine one fun C hC => val hE17 (R.move hE17 rfl) rfl fun a18 hE18 => hC _ _ ?_
        clear hC C
        clear hE17 a17
        refine one fun C hC => callM hE18 (leave_c b V (by first | rfl | assumption | ((try dsimp only); (try simp only [M.read_st, M.fault_st, M.say_st, M.begin_st, M.flush_st, M.keep_st, M.leave_st, M.again_st, M.first_st]); first | rfl | assumption)) (hO1.le (by omega))) cb_57 rfl hM2 rfl fun  a19 w3 hE19 hM3 => hC _ _ ?_
        clear hC C hE18 hM2 a18
        have hO2 := hO1.leave (d := 139) (by omega)
        have hp2 := hO2.p
        have hn2 := hO2.n
        refine wpList_nil (hK6 _ _ ?_)
        clear hK6 K6
        replace hE19 := hE19.keep (E' := [(0, _), (1, _), (5, _)]) ⟨rfl, rfl, rfl, trivial⟩
        refine wp_seq_k fun K7 hK7 => ?_
        refine wp_region_lit ?_
        refine one fun C hC => val hE19 (R.move hE19 rfl) rfl fun a20 hE20 => hC _ _ ?_
        clear hC C
        clear hE19 a19
        refine one fun C hC => val hE20 (R.move hE20 rfl) rfl fun a21 hE21 => hC _ _ ?_
        clear hC C
        clear hE20 a20
        refine one fun C hC => callO hE21 (afterName_c G hIn hRef hRo hRp hOdd b V.leave (by first | rfl | assumption | ((try dsimp only); (try simp only [M.read_st, M.fault_st, M.say_st, M.begin_st, M.flush_st, M.keep_st, M.leave_st, M.again_st, M.first_st]); first | rfl | assumption)) r (by omega) (hO2.le (by omega))) cb_58 rfl (hM3.cast (show (star (mach none b V.leave) (star G F0)) = (star (star (mach none b V.leave) G) F0) from by ac_rfl)) rfl ?_ ?_
        · intro hy1 w4 hM4
          exact hX _ _ hE21.defers (by rw [← hT, if_pos (by simp [ht1, ht2]), hy1]) hM4
        intro y1 hy1 a22 w4 hE22 hM4
        refine hC _ _ ?_
        clear hC C hE21 hM3 a21
        replace hM4 := hM4.cast (star_assoc _ _ _)
        refine one fun C hC => val hE22 (R.assign hE22 rfl) rfl fun a23 hE23 => hC _ _ ?_
        clear hC C
        clear hE22 a22
        refine wpList_nil (hK7 _ _ ?_)
        clear hK7 K7
        replace hE23 := hE23.keep (E' := [(0, _), (1, _), (4, _), (5, _)]) ⟨rfl, rfl, rfl, rfl, trivial⟩
        refine wp_ret (hQ _ _ ?_)
        have hm := hM4
        refine back1 hE23 rfl rfl (Mem.doneO (y1.1, y1.2) ?_ rfl ?_)
        · rw [← hT, if_pos (by simp [ht1, ht2]), hy1]
        exact hm.cast (by ac_rfl)
      · intro hb2
        have ht2 := hb2
        try simp only [decide_eq_true_eq, decide_eq_false_iff_not, Bool.not_eq_true', Bool.not_eq_false', beq_iff_eq, Bool.and_eq_true, Bool.or_eq_true] at ht2
        refine oneOn hE9 rfl rfl hb2 fun C hC => val hE9 (R.move hE9 rfl) rfl fun a10 hE10 => hC _ _ ?_
        clear hC C
        clear hE9 a9
        refine oneOn hE10 rfl rfl hb2 fun C hC => val hE10 (R.eql hE10 rfl rfl) rfl fun a11 hE11 => hC _ _ ?_
        clear hC C
        clear hE10 a10
        refine one fun C hC => val hE11 (R.pickF hE11 rfl hb2 rfl) rfl fun a12 hE12 => hC _ _ ?_
        clear hC C
        clear hE11 a11
        refine one fun C hC => val hE12 (R.move hE12 rfl) rfl fun a13 hE13 => hC _ _ ?_
        clear hC C
        clear hE12 a12
        refine splitE hE13 (x := .tmp 16) rfl ?_ ?_
        · intro hb3
          have ht3 := hb3
          try simp only [decide_eq_true_eq, decide_eq_false_iff_not, Bool.not_eq_true', Bool.not_eq_false', beq_iff_eq, Bool.and_eq_true, Bool.or_eq_true] at ht3
          refine oneOff hE13 rfl rfl hb3 rfl fun a14 hE14 => ?_
          clear hE13 a13
          refine oneOff hE14 rfl rfl hb3 rfl fun a15 hE15 => ?_
          clear hE14 a14
          refine one fun C hC => val hE15 (R.pickT hE15 rfl hb3 rfl) rfl fun a16 hE16 => hC _ _ ?_
          clear hC C
          clear hE15 a15
          refine one fun C hC => val hE16 (R.assign hE16 rfl) rfl fun a17 hE17 => hC _ _ ?_
          clear hC C
          clear hE16 a16
          refine wpList_nil (hK3 _ _ ?_)
          clear hK3 K3
          replace hE17 := hE17.keep (E' := [(0, _), (1, _), (5, _)]) ⟨rfl, rfl, rfl, trivial⟩
          refine condT hE17 rfl rfl ?_
          refine wp_seq_k fun K8 hK8 => ?_
          refine wp_region_lit ?_
          refine one fun C hC => val hE17 (R.move hE17 rfl) rfl fun a18 hE18 => hC _ _ ?_
          clear hC C
          clear hE17 a17
          refine one fun C hC => callM hE18 (leave_c b V (by first | rfl | assumption | ((try dsimp only); (try simp only [M.read_st, M.fault_st, M.say_st, M.begin_st, M.flush_st, M.keep_st, M.leave_st, M.again_st, M.first_st]); first | rfl | assumption)) (hO1.le (by omega))) cb_57 rfl hM2 rfl fun  a19 w3 hE19 hM3 => hC _ _ ?_
          clear hC C hE18 hM2 a18
          have hO2 := hO1.leave (d := 139) (by omega)
          have hp2 := hO2.p
          have hn2 := hO2.n
          refine wpList_nil (hK8 _ _ ?_)
          clear hK8 K8
          replace hE19 := hE19.keep (E' := [(0, _), (1, _), (5, _)]) ⟨rfl, rfl, rfl, trivial⟩
          refine wp_seq_k fun K9 hK9 => ?_
          refine wp_region_lit ?_
          refine one fun C hC => val hE19 (R.move hE19 rfl) rfl fun a20 hE20 => hC _ _ ?_
          clear hC C
          clear hE19 a19
          refine one fun C hC => val hE20 (R.move hE20 rfl) rfl fun a21 hE21 => hC _ _ ?_
          clear hC C
          clear hE20 a20
          refine one fun C hC => callO hE21 (afterName_c G hIn hRef hRo hRp hOdd b V.leave (by first | rfl | assumption | ((try dsimp only); (try simp only [M.read_st, M.fault_st, M.say_st, M.begin_st, M.flush_st, M.keep_st, M.leave_st, M.again_st, M.first_st]); first | rfl | assumption)) r (by omega) (hO2.le (by omega))) cb_58 rfl (hM3.cast (show (star (mach none b V.leave) (star G F0)) = (star (star (mach none b V.leave) G) F0) from by ac_rfl)) rfl ?_ ?_
          · intro hy1 w4 hM4
            exact hX _ _ hE21.defers (by rw [← hT, if_pos (by simp [ht1, ht2, ht3]), hy1]) hM4
          intro y1 hy1 a22 w4 hE22 hM4
          refine hC _ _ ?_
          clear hC C hE21 hM3 a21
          replace hM4 := hM4.cast (star_assoc _ _ _)
          refine one fun C hC => val hE22 (R.assign hE22 rfl) rfl fun a23 hE23 => hC _ _ ?_
          clear hC C
          clear hE22 a22
          refine wpList_nil (hK9 _ _ ?_)
          clear hK9 K9
          replace hE23 := hE23.keep (E' := [(0, _), (1, _), (4, _), (5, _)]) ⟨rfl, rfl, rfl, rfl, trivial⟩
          refine wp_ret (hQ _ _ ?_)
          have hm := hM4
          refine back1 hE23 rfl rfl (Mem.doneO (y1.1, y1.2) ?_ rfl ?_)
          · rw [← hT, if_pos (by simp [ht1, ht2, ht3]), hy1]
          exact hm.cast (by ac_rfl)
        · intro hb3
          have ht3 := hb3
          try simp only [decide_eq_true_eq, decide_eq_false_iff_not, Bool.not_eq_true', Bool.not_eq_false', beq_iff_eq, Bool.and_eq_true, Bool.or_eq_true] at ht3
          refine oneOn hE13 rfl rfl hb3 fun C hC => val hE13 (R.move hE13 rfl) rfl fun a14 hE14 => hC _ _ ?_
          clear hC C
          clear hE13 a13
          refine oneOn hE14 rfl rfl hb3 fun C hC => val hE14 (R.eql hE14 rfl rfl) rfl fun a15 hE15 => hC _ _ ?_
          clear hC C
          clear hE14 a14
          refine one fun C hC => val hE15 (R.pickF hE15 rfl hb3 rfl) rfl fun a16 hE16 => hC _ _ ?_
          clear hC C
          clear hE15 a15
          refine one fun C hC => val hE16 (R.assign hE16 rfl) rfl fun a17 hE17 => hC _ _ ?_
          clear hC C
          clear hE16 a16
          refine wpList_nil (hK3 _ _ ?_)
          clear hK3 K3
          replace hE17 := hE17.keep (E' := [(0, _), (1, _), (5, _)]) ⟨rfl, rfl, rfl, trivial⟩
          refine condR hE17 rfl ?_ ?_
          · intro hb4
            have ht4 := hb4
            try simp only [decide_eq_true_eq, decide_eq_false_iff_not, Bool.not_eq_true', Bool.not_eq_false', beq_iff_eq, Bool.and_eq_true, Bool.or_eq_true] at ht4
            refine wp_seq_k fun K10 hK10 => ?_
            refine wp_region_lit ?_
            refine one fun C hC => val hE17 (R.move hE17 rfl) rfl fun a18 hE18 => hC _ _ ?_
            clear hC C
            clear hE17 a17
            refine one fun C hC => callM hE18 (leave_c b V (by first | rfl | assumption | ((try dsimp only); (try simp only [M.read_st, M.fault_st, M.say_st, M.begin_st, M.flush_st, M.keep_st, M.leave_st, M.again_st, M.first_st]); first | rfl | assumption)) (hO1.le (by omega))) cb_57 rfl hM2 rfl fun  a19 w3 hE19 hM3 => hC _ _ ?_
            clear hC C hE18 hM2 a18
            have hO2 := hO1.leave (d := 139) (by omega)
            have hp2 := hO2.p
            have hn2 := hO2.n
            refine wpList_nil (hK10 _ _ ?_)
            clear hK10 K10
            replace hE19 := hE19.keep (E' := [(0, _), (1, _), (5, _)]) ⟨rfl, rfl, rfl, trivial⟩
            refine wp_seq_k fun K11 hK11 => ?_
            refine wp_region_lit ?_
            refine one fun C hC => val hE19 (R.move hE19 rfl) rfl fun a20 hE20 => hC _ _ ?_
            clear hC C
            clear hE19 a19
            refine one fun C hC => val hE20 (R.move hE20 rfl) rfl fun a21 hE21 => hC _ _ ?_
            clear hC C
            clear hE20 a20
            refine one fun C hC => callO hE21 (afterName_c G hIn hRef hRo hRp hOdd b V.leave (by first | rfl | assumption | ((try dsimp only); (try simp only [M.read_st, M.fault_st, M.say_st, M.begin_st, M.flush_st, M.keep_st, M.leave_st, M.again_st, M.first_st]); first | rfl | assumption)) r (by omega) (hO2.le (by omega))) cb_58 rfl (hM3.cast (show (star (mach none b V.leave) (star G F0)) = (star (star (mach none b V.leave) G) F0) from by ac_rfl)) rfl ?_ ?_
            · intro hy1 w4 hM4
              exact hX _ _ hE21.defers (by rw [← hT, if_pos (by simp [ht1, ht2, ht3, ht4]), hy1]) hM4
            intro y1 hy1 a22 w4 hE22 hM4
            refine hC _ _ ?_
            clear hC C hE21 hM3 a21
            replace hM4 := hM4.cast (star_assoc _ _ _)
            refine one fun C hC => val hE22 (R.assign hE22 rfl) rfl fun a23 hE23 => hC _ _ ?_
            clear hC C
            clear hE22 a22
            refine wpList_nil (hK11 _ _ ?_)
            clear hK11 K11
            replace hE23 := hE23.keep (E' := [(0, _), (1, _), (4, _), (5, _)]) ⟨rfl, rfl, rfl, rfl, trivial⟩
            refine wp_ret (hQ _ _ ?_)
            have hm := hM4
            refine back1 hE23 rfl rfl (Mem.doneO (y1.1, y1.2) ?_ rfl ?_)
            · rw [← hT, if_pos (by simp [ht1, ht2, ht3, ht4]), hy1]
            exact hm.cast (by ac_rfl)
          · intro hb4
            have ht4 := hb4
            try simp only [decide_eq_true_eq, decide_eq_false_iff_not, Bool.not_eq_true', Bool.not_eq_false', beq_iff_eq, Bool.and_eq_true, Bool.or_eq_true] at ht4
            refine wp_seq_k fun K12 hK12 => ?_
            refine wp_region_lit ?_
            refine one fun C hC => val hE17 (R.move hE17 rfl) rfl fun a18 hE18 => hC _ _ ?_
            clear hC C
            clear hE17 a17
            refine one fun C hC => val hE18 (R.eql hE18 rfl rfl) rfl fun a19 hE19 => hC _ _ ?_
            clear hC C
            clear hE18 a18
            refine one fun C hC => val hE19 (R.assign hE19 rfl) rfl fun a20 hE20 => hC _ _ ?_
            clear hC C
            clear hE19 a19
            refine wpList_nil (hK12 _ _ ?_)
            clear hK12 K12
            replace hE20 := hE20.keep (E' := [(0, _), (1, _), (5, _), (25, _)]) ⟨rfl, rfl, rfl, rfl, trivial⟩
            refine condR hE20 rfl ?_ ?_
            · intro hb5
              have ht5 := hb5
              try simp only [decide_eq_true_eq, decide_eq_false_iff_not, Bool.not_eq_true', Bool.not_eq_false', beq_iff_eq, Bool.and_eq_true, Bool.or_eq_true] at ht5
              refine wp_seq_k fun K13 hK13 => ?_
              refine wp_region_lit ?_
              refine one fun C hC => val hE20 (R.move hE20 rfl) rfl fun a21 hE21 => hC _ _ ?_
              clear hC C
              clear hE20 a20
              refine one fun C hC => callM hE21 (leave_c b V (by first | rfl | assumption | ((try dsimp only); (try simp only [M.read_st, M.fault_st, M.say_st, M.begin_st, M.flush_st, M.keep_st, M.leave_st, M.again_st, M.first_st]); first | rfl | assumption)) (hO1.le (by omega))) cb_57 rfl hM2 rfl fun  a22 w3 hE22 hM3 => hC _ _ ?_
              clear hC C hE21 hM2 a21
              have hO2 := hO1.leave (d := 139) (by omega)
              have hp2 := hO2.p
              have hn2 := hO2.n
              refine wpList_nil (hK13 _ _ ?_)
              clear hK13 K13
              replace hE22 := hE22.keep (E' := [(0, _), (1, _), (5, _), (25, _)]) ⟨rfl, rfl, rfl, rfl, trivial⟩
              refine wp_seq_k fun K14 hK14 => ?_
              refine wp_region_lit ?_
              refine one fun C hC => val hE22 (R.move hE22 rfl) rfl fun a23 hE23 => hC _ _ ?_
              clear hC C
              clear hE22 a22
              refine one fun C hC => callO hE23 (before_c G hIn hRef hRo hRp hOdd b V.leave (by first | rfl | assumption | ((try dsimp only); (try simp only [M.read_st, M.fault_st, M.say_st, M.begin_st, M.flush_st, M.keep_st, M.leave_st, M.again_st, M.first_st]); first | rfl | assumption)) (hO2.le (by omega))) cb_59 rfl (hM3.cast (show (star (mach none b V.leave) (star G F0)) = (star (star (mach none b V.leave) G) F0) from by ac_rfl)) rfl ?_ ?_
              · intro hy1 w4 hM4
                exact hX _ _ hE23.defers (by rw [← hT, if_neg (by simp [ht1, ht2, ht3, ht4]), if_pos ht5, hy1]) hM4
              intro y1 hy1 a24 w4 hE24 hM4
              refine hC _ _ ?_
              clear hC C hE23 hM3 a23
              replace hM4 := hM4.cast (star_assoc _ _ _)
              refine one fun C hC => val hE24 (R.assign hE24 rfl) rfl fun a25 hE25 => hC _ _ ?_
              clear hC C
              clear hE24 a24
              refine wpList_nil (hK14 _ _ ?_)
              clear hK14 K14
              replace hE25 := hE25.keep (E' := [(0, _), (1, _), (4, _), (5, _), (25, _)]) ⟨rfl, rfl, rfl, rfl, rfl, trivial⟩
              refine wp_ret (hQ _ _ ?_)
              have hm := hM4
              refine back1 hE25 rfl rfl (Mem.doneO (y1.1, y1.2) ?_ rfl ?_)
              · rw [← hT, if_neg (by simp [ht1, ht2, ht3, ht4]), if_pos ht5, hy1]
              exact hm.cast (by ac_rfl)
            · intro hb5
              have ht5 := hb5
              try simp only [decide_eq_true_eq, decide_eq_false_iff_not, Bool.not_eq_true', Bool.not_eq_false', beq_iff_eq, Bool.and_eq_true, Bool.or_eq_true] at ht5
              refine wp_seq_k fun K15 hK15 => ?_
              refine wp_region_lit ?_
              refine one fun C hC => val hE20 (R.move hE20 rfl) rfl fun a21 hE21 => hC _ _ ?_
              clear hC C
              clear hE20 a20
              refine one fun C hC => val hE21 (R.eql hE21 rfl rfl) rfl fun a22 hE22 => hC _ _ ?_
              clear hC C
              clear hE21 a21
              refine one fun C hC => val hE22 (R.assign hE22 rfl) rfl fun a23 hE23 => hC _ _ ?_
              clear hC C
              clear hE22 a22
              refine wpList_nil (hK15 _ _ ?_)
              clear hK15 K15
              replace hE23 := hE23.keep (E' := [(0, _), (1, _), (5, _), (25, _), (32, _)]) ⟨rfl, rfl, rfl, rfl, rfl, trivial⟩
              refine condR hE23 rfl ?_ ?_
              · intro hb6
                have ht6 := hb6
                try simp only [decide_eq_true_eq, decide_eq_false_iff_not, Bool.not_eq_true', Bool.not_eq_false', beq_iff_eq, Bool.and_eq_true, Bool.or_eq_true] at ht6
                refine wp_seq_k fun K16 hK16 => ?_
                refine wp_region_lit ?_
                refine one fun C hC => val hE23 (R.move hE23 rfl) rfl fun a24 hE24 => hC _ _ ?_
                clear hC C
                clear hE23 a23
                refine one fun C hC => callM hE24 (fault_c b V 21 hO1.f) cb_20 rfl hM2 rfl fun  a25 w3 hE25 hM3 => hC _ _ ?_
                clear hC C hE24 hM2 a24
                have hO2 := hO1.fault (x := 21) (d := 139) (by omega)
                have hp2 := hO2.p
                have hn2 := hO2.n
                refine wpList_nil (hK16 _ _ ?_)
                clear hK16 K16
                replace hE25 := hE25.keep (E' := [(0, _), (1, _), (5, _), (25, _), (32, _)]) ⟨rfl, rfl, rfl, rfl, rfl, trivial⟩
                refine wp_region_lit ?_
                refine one fun C hC => val hE25 (R.assign hE25 rfl) rfl fun a26 hE26 => hC _ _ ?_
                clear hC C
                clear hE25 a25
                replace hE26 := hE26.keep (E' := [(0, _), (1, _), (5, _), (25, _), (32, _)]) ⟨rfl, rfl, rfl, rfl, rfl, trivial⟩
                refine wpList_nil (hK2 _ _ ?_)
                refine wp_seq_k fun K17 hK17 => ?_
                obtain ⟨x1, hk1, hV1, hM4⟩ := machAt.openT (by first | rfl | assumption | ((try dsimp only); (try simp only [M.read_st, M.fault_st, M.say_st, M.begin_st, M.flush_st, M.keep_st, M.leave_st, M.again_st, M.first_st]); first | rfl | assumption)) hM3
                try dsimp only at hM4 hk1
                clear hM3
                have hZ1 := hO2.ls
                try dsimp only at hZ1
                refine planM [8, 11] [(0, 1), (1, 1), (2, 1), (3, 1), (5, 1), (4, 0), (6, 2), (7, 2), (8, 2), (9, 1), (10, 1), (11, 2)] mix (by kernel_rfl) hM4 (fun c a a2 w hd => hP c a a2 w hd) fun w5 hM5 C0 hC0 => ?_
                clear hM4
                refine pPure rfl hE26 (fun _ => by exact R.move hE26 rfl) rfl fun a27 hE27 => ?_
                clear hE26 a26
                refine pPure rfl hE27 (fun _ => by exact R.move hE27 rfl) rfl fun a28 hE28 => ?_
                clear hE27 a27
                refine pPure rfl hE28 (fun _ => by exact R.nil hE28 rfl) rfl fun a29 hE29 => ?_
                clear hE28 a28
                refine pPure rfl hE29 (fun _ => by exact R.fieldAddr hE29 53 8 15 fb_53_8 rfl) rfl fun a30 hE30 => ?_
                clear hE29 a29
                refine pPure rfl hE30 (fun _ => by exact R.move hE30 rfl) rfl fun a31 hE31 => ?_
                clear hE30 a30
                refine pTake rfl hE31 (fun _ hW => by exact R.load hE31 sc_50 rfl hW (by rfl)) rfl hM5 fun a32 hE32 => ?_
                clear hE31 a31
                refine pOneS rfl fun C hC => callF hE32 (lowerRune_c _ (by omega) (by omega)) cb_35 rfl hM5 rfl  fun  a33 w6 hE33 hM6 => hC _ _ hM6 ?_
                clear hC C hE32 hM5 a32
                refine pOneS rfl fun C hC => lit1 hE33 hM6 4 el_50 rfl rfl rfl  fun b57 a34 w7 hE34 hM7 => hC _ _ hM7.drop ?_
                clear hC C hE33 hM6 a33
                refine pOne rfl rfl fun C hC => appendL (xs := (V.fault 21).attr) hE34 [lowerR 65533] el_50 rfl rfl hM7 rfl rfl rfl (by unfold maxLen; first | omega | (simp; done) | (simp; omega)) (by first | omega | (simp; done) | (simp; omega)) rfl fun A58 C58 a35 w8 hE35 hM8 => hC _ _ ?_
                clear hC C hE34 hM7 a34
                refine pPure rfl hE35 (fun _ => by exact R.nil hE35 rfl) rfl fun a36 hE36 => ?_
                clear hE35 a35
                refine pPure rfl hE36 (fun _ => by exact R.fieldAddr hE36 53 8 15 fb_53_8 rfl) rfl fun a37 hE37 => ?_
                clear hE36 a36
                refine pOne rfl rfl fun C hC => store hE37 hM8 sc_50 rfl rfl rfl rfl  fun  a38 w9 hE38 hM9 => hC _ _ ?_
                clear hC C hE37 hM8 a37
                try simp only [List.set_cons_zero, List.set_cons_succ, Nat.zero_add] at hM9
                refine pNil (hC0 _ _ ?_)
                clear hC0 C0
                refine hK17 _ _ ?_
                clear hK17 K17
                replace hE38 := hE38.keep (E' := [(0, _), (1, _), (5, _), (25, _), (32, _)]) ⟨rfl, rfl, rfl, rfl, rfl, trivial⟩
                refine wp_region_lit ?_
                refine one fun C hC => val hE38 (R.move hE38 rfl) rfl fun a39 hE39 => hC _ _ ?_
                clear hC C
                clear hE38 a38
                have hO3 : M.Ok ({ (V.fault 21) with attr := ((V.fault 21).attr) ++ [lowerR 65533] }) 138 := by have h1 := hO2.p; have h2 := hO2.n; have h3 := hO2.s; exact ⟨by (try dsimp only); omega, by (try dsimp only); omega, hO2.r, by (try simp only [M.sz, List.length_append, List.length_cons, List.length_nil] at h3 ⊢); omega⟩
                have hp3 := hO3.p
                have hn3 := hO3.n
                refine one fun C hC => callM hE39 (read_c b { (V.fault 21) with attr := ((V.fault 21).attr) ++ [lowerR 65533] } hO3.pos hO3.f) cb_14 rfl (machAt.closeT (T := 53) (R := 21) (K := 43) (L := 24) (A := 45) (V := none) (b := b) (S := { (V.fault 21) with attr := ((V.fault 21).attr) ++ [lowerR 65533] }) (F := star G F0) (by first | rfl | assumption | ((try dsimp only); (try simp only [M.read_st, M.fault_st, M.say_st, M.begin_st, M.flush_st, M.keep_st, M.leave_st, M.again_st, M.first_st]); first | rfl | assumption)) { x1 with aA := A58, aC := C58 } hk1 trivial (by (try dsimp only); (try simp only [List.length_nil, attrsOf_snoc, tagAt_true]); (try simp only [emp_star, star_emp]); exact hM9.cast (by ac_rfl))) rfl fun  a40 w10 hE40 hM10 => hC _ _ ?_
                clear hC C hE39 hM9 a39
                have hO4 := hO3.read
                have hp4 := hO4.p
                have hn4 := hO4.n
                refine one fun C hC => val hE40 (R.assign hE40 rfl) rfl fun a41 hE41 => hC _ _ ?_
                clear hC C
                clear hE40 a40
                replace hE41 := hE41.keep (E' := [(0, _), (1, _), (5, _), (25, _), (32, _)]) ⟨rfl, rfl, rfl, rfl, rfl, trivial⟩
                refine wpList_nil (hK1 _ _ ?_)
                have hm := hM10
                have h0 : r ≠ -1 := by omega
                rw [if_neg (by simp [ht1, ht2, ht3, ht4]), if_neg ht5] at hT
                have eA : V.attrOf r = { (V.fault 21) with attr := ((V.fault 21).attr) ++ [lowerR 65533] } := by unfold M.attrOf; rw [if_pos ht6]; rfl
                rw [← eA] at hm hE41
                have hF : M.Fwd V (V.attrOf r) := M.fwd_attrOf _ _
                have hQ2 : (V.attrOf r).Ok 142 := ((hOr h0).attrOf (by omega))
                have hFr := M.fwd_read (V.attrOf r)
                have hpk := hQ2.peek 0
                have hr2 := hr h0
                have hi2 := hF.i
                have hp2 := hF.p
                refine hK (n, (V.attrOf r).read, (V.attrOf r).peek 0) _ _ ⟨hE41.keep ⟨rfl, rfl, trivial⟩, hm, hT, hQ2.read.le (by omega), fun h1 => (hQ2.read_more h1).le (by omega), (hFr.s.trans hF.s).trans hsV, by (show 1 ≤ n); omega, fun h1 => by (show (V.attrOf r).read.inp.length - (V.attrOf r).read.pos + 2 ≤ n); rw [hFr.i, hF.i, M.read_pos h1]; have := peek_lt h1; rw [hF.i] at this; omega, hpk⟩ (Nat.lt_succ_self _)
              · intro hb6
                have ht6 := hb6
                try simp only [decide_eq_true_eq, decide_eq_false_iff_not, Bool.not_eq_true', Bool.not_eq_false', beq_iff_eq, Bool.and_eq_true, Bool.or_eq_true] at ht6
                refine wp_seq_k fun K18 hK18 => ?_
                refine wp_region_lit ?_
                refine one fun C hC => val hE23 (R.move hE23 rfl) rfl fun a24 hE24 => hC _ _ ?_
                clear hC C
                clear hE23 a23
                refine one fun C hC => val hE24 (R.eql hE24 rfl rfl) rfl fun a25 hE25 => hC _ _ ?_
                clear hC C
                clear hE24 a24
                refine one fun C hC => val hE25 (R.move hE25 rfl) rfl fun a26 hE26 => hC _ _ ?_
                clear hC C
                clear hE25 a25
                refine splitE hE26 (x := .tmp 40) rfl ?_ ?_
                · intro hb7
                  have ht7 := hb7
                  try simp only [decide_eq_true_eq, decide_eq_false_iff_not, Bool.not_eq_true', Bool.not_eq_false', beq_iff_eq, Bool.and_eq_true, Bool.or_eq_true] at ht7
                  refine oneOff hE26 rfl rfl hb7 rfl fun a27 hE27 => ?_
                  clear hE26 a26
                  refine oneOff hE27 rfl rfl hb7 rfl fun a28 hE28 => ?_
                  clear hE27 a27
                  refine one fun C hC => val hE28 (R.pickT hE28 rfl hb7 rfl) rfl fun a29 hE29 => hC _ _ ?_
                  clear hC C
                  clear hE28 a28
                  refine one fun C hC => val hE29 (R.move hE29 rfl) rfl fun a30 hE30 => hC _ _ ?_
                  clear hC C
                  clear hE29 a29
                  refine oneOff hE30 rfl rfl rfl rfl fun a31 hE31 => ?_
                  clear hE30 a30
                  refine oneOff hE31 rfl rfl rfl rfl fun a32 hE32 => ?_
                  clear hE31 a31
                  refine one fun C hC => val hE32 (R.pickT hE32 rfl rfl rfl) rfl fun a33 hE33 => hC _ _ ?_
                  clear hC C
                  clear hE32 a32
                  refine one fun C hC => val hE33 (R.assign hE33 rfl) rfl fun a34 hE34 => hC _ _ ?_
                  clear hC C
                  clear hE33 a33
                  refine wpList_nil (hK18 _ _ ?_)
                  clear hK18 K18
                  replace hE34 := hE34.keep (E' := [(0, _), (1, _), (5, _), (25, _), (32, _), (37, _)]) ⟨rfl, rfl, rfl, rfl, rfl, rfl, trivial⟩
                  refine condT hE34 rfl rfl ?_
                  refine wp_region_lit ?_
                  refine one fun C hC => val hE34 (R.move hE34 rfl) rfl fun a35 hE35 => hC _ _ ?_
                  clear hC C
                  clear hE34 a34
                  refine one fun C hC => callM hE35 (fault_c b V 18 hO1.f) cb_20 rfl hM2 rfl fun  a36 w3 hE36 hM3 => hC _ _ ?_
                  clear hC C hE35 hM2 a35
                  have hO2 := hO1.fault (x := 18) (d := 139) (by omega)
                  have hp2 := hO2.p
                  have hn2 := hO2.n
                  replace hE36 := hE36.keep (E' := [(0, _), (1, _), (5, _), (25, _), (32, _), (37, _)]) ⟨rfl, rfl, rfl, rfl, rfl, rfl, trivial⟩
                  refine wpList_nil (hK2 _ _ ?_)
                  refine wp_seq_k fun K19 hK19 => ?_
                  obtain ⟨x1, hk1, hV1, hM4⟩ := machAt.openT (by first | rfl | assumption | ((try dsimp only); (try simp only [M.read_st, M.fault_st, M.say_st, M.begin_st, M.flush_st, M.keep_st, M.leave_st, M.again_st, M.first_st]); first | rfl | assumption)) hM3
                  try dsimp only at hM4 hk1
                  clear hM3
                  have hZ1 := hO2.ls
                  try dsimp only at hZ1
                  refine planM [8, 11] [(0, 1), (1, 1), (2, 1), (3, 1), (5, 1), (4, 0), (6, 2), (7, 2), (8, 2), (9, 1), (10, 1), (11, 2)] mix (by kernel_rfl) hM4 (fun c a a2 w hd => hP c a a2 w hd) fun w5 hM5 C0 hC0 => ?_
                  clear hM4
                  refine pPure rfl hE36 (fun _ => by exact R.move hE36 rfl) rfl fun a37 hE37 => ?_
                  clear hE36 a36
                  refine pPure rfl hE37 (fun _ => by exact R.move hE37 rfl) rfl fun a38 hE38 => ?_
                  clear hE37 a37
                  refine pPure rfl hE38 (fun _ => by exact R.nil hE38 rfl) rfl fun a39 hE39 => ?_
                  clear hE38 a38
                  refine pPure rfl hE39 (fun _ => by exact R.fieldAddr hE39 53 8 15 fb_53_8 rfl) rfl fun a40 hE40 => ?_
                  clear hE39 a39
                  refine pPure rfl hE40 (fun _ => by exact R.move hE40 rfl) rfl fun a41 hE41 => ?_
                  clear hE40 a40
                  refine pTake rfl hE41 (fun _ hW => by exact R.load hE41 sc_50 rfl hW (by rfl)) rfl hM5 fun a42 hE42 => ?_
                  clear hE41 a41
                  refine pOneS rfl fun C hC => callF hE42 (lowerRune_c _ (by omega) (by omega)) cb_35 rfl hM5 rfl  fun  a43 w6 hE43 hM6 => hC _ _ hM6 ?_
                  clear hC C hE42 hM5 a42
                  refine pOneS rfl fun C hC => lit1 hE43 hM6 4 el_50 rfl rfl rfl  fun b57 a44 w7 hE44 hM7 => hC _ _ hM7.drop ?_
                  clear hC C hE43 hM6 a43
                  refine pOne rfl rfl fun C hC => appendL (xs := (V.fault 18).attr) hE44 [lowerR r] el_50 rfl rfl hM7 rfl rfl rfl (by unfold maxLen; first | omega | (simp; done) | (simp; omega)) (by first | omega | (simp; done) | (simp; omega)) rfl fun A58 C58 a45 w8 hE45 hM8 => hC _ _ ?_
                  clear hC C hE44 hM7 a44
                  refine pPure rfl hE45 (fun _ => by exact R.nil hE45 rfl) rfl fun a46 hE46 => ?_
                  clear hE45 a45
                  refine pPure rfl hE46 (fun _ => by exact R.fieldAddr hE46 53 8 15 fb_53_8 rfl) rfl fun a47 hE47 => ?_
                  clear hE46 a46
                  refine pOne rfl rfl fun C hC => store hE47 hM8 sc_50 rfl rfl rfl rfl  fun  a48 w9 hE48 hM9 => hC _ _ ?_
                  clear hC C hE47 hM8 a47
                  try simp only [List.set_cons_zero, List.set_cons_succ, Nat.zero_add] at hM9
                  refine pNil (hC0 _ _ ?_)
                  clear hC0 C0
                  refine hK19 _ _ ?_
                  clear hK19 K19
                  replace hE48 := hE48.keep (E' := [(0, _), (1, _), (5, _), (25, _), (32, _), (37, _)]) ⟨rfl, rfl, rfl, rfl, rfl, rfl, trivial⟩
                  refine wp_region_lit ?_
                  refine one fun C hC => val hE48 (R.move hE48 rfl) rfl fun a49 hE49 => hC _ _ ?_
                  clear hC C
                  clear hE48 a48
                  have hO3 : M.Ok ({ (V.fault 18) with attr := ((V.fault 18).attr) ++ [lowerR r] }) 138 := by have h1 := hO2.p; have h2 := hO2.n; have h3 := hO2.s; exact ⟨by (try dsimp only); omega, by (try dsimp only); omega, hO2.r, by (try simp only [M.sz, List.length_append, List.length_cons, List.length_nil] at h3 ⊢); omega⟩
                  have hp3 := hO3.p
                  have hn3 := hO3.n
                  refine one fun C hC => callM hE49 (read_c b { (V.fault 18) with attr := ((V.fault 18).attr) ++ [lowerR r] } hO3.pos hO3.f) cb_14 rfl (machAt.closeT (T := 53) (R := 21) (K := 43) (L := 24) (A := 45) (V := none) (b := b) (S := { (V.fault 18) with attr := ((V.fault 18).attr) ++ [lowerR r] }) (F := star G F0) (by first | rfl | assumption | ((try dsimp only); (try simp only [M.read_st, M.fault_st, M.say_st, M.begin_st, M.flush_st, M.keep_st, M.leave_st, M.again_st, M.first_st]); first | rfl | assumption)) { x1 with aA := A58, aC := C58 } hk1 trivial (by (try dsimp only); (try simp only [List.length_nil, attrsOf_snoc, tagAt_true]); (try simp only [emp_star, star_emp]); exact hM9.cast (by ac_rfl))) rfl fun  a50 w10 hE50 hM10 => hC _ _ ?_
                  clear hC C hE49 hM9 a49
                  have hO4 := hO3.read
                  have hp4 := hO4.p
                  have hn4 := hO4.n
                  refine one fun C hC => val hE50 (R.assign hE50 rfl) rfl fun a51 hE51 => hC _ _ ?_
                  clear hC C
                  clear hE50 a50
                  replace hE51 := hE51.keep (E' := [(0, _), (1, _), (5, _), (25, _), (32, _), (37, _)]) ⟨rfl, rfl, rfl, rfl, rfl, rfl, trivial⟩
                  refine wpList_nil (hK1 _ _ ?_)
                  have hm := hM10
                  have h0 : r ≠ -1 := by omega
                  rw [if_neg (by simp [ht1, ht2, ht3, ht4]), if_neg ht5] at hT
                  have eA : V.attrOf r = { (V.fault 18) with attr := ((V.fault 18).attr) ++ [lowerR r] } := by unfold M.attrOf; rw [if_neg ht6, if_pos (by omega)]; rfl
                  rw [← eA] at hm hE51
                  have hF : M.Fwd V (V.attrOf r) := M.fwd_attrOf _ _
                  have hQ2 : (V.attrOf r).Ok 142 := ((hOr h0).attrOf (by omega))
                  have hFr := M.fwd_read (V.attrOf r)
                  have hpk := hQ2.peek 0
                  have hr2 := hr h0
                  have hi2 := hF.i
                  have hp2 := hF.p
                  refine hK (n, (V.attrOf r).read, (V.attrOf r).peek 0) _ _ ⟨hE51.keep ⟨rfl, rfl, trivial⟩, hm, hT, hQ2.read.le (by omega), fun h1 => (hQ2.read_more h1).le (by omega), (hFr.s.trans hF.s).trans hsV, by (show 1 ≤ n); omega, fun h1 => by (show (V.attrOf r).read.inp.length - (V.attrOf r).read.pos + 2 ≤ n); rw [hFr.i, hF.i, M.read_pos h1]; have := peek_lt h1; rw [hF.i] at this; omega, hpk⟩ (Nat.lt_succ_self _)
                · intro hb7
                  have ht7 := hb7
                  try simp only [decide_eq_true_eq, decide_eq_false_iff_not, Bool.not_eq_true', Bool.not_eq_false', beq_iff_eq, Bool.and_eq_true, Bool.or_eq_true] at ht7
                  refine oneOn hE26 rfl rfl hb7 fun C hC => val hE26 (R.move hE26 rfl) rfl fun a27 hE27 => hC _ _ ?_
                  clear hC C
                  clear hE26 a26
                  refine oneOn hE27 rfl rfl hb7 fun C hC => val hE27 (R.eql hE27 rfl rfl) rfl fun a28 hE28 => hC _ _ ?_
                  clear hC C
                  clear hE27 a27
                  refine one fun C hC => val hE28 (R.pickF hE28 rfl hb7 rfl) rfl fun a29 hE29 => hC _ _ ?_
                  clear hC C
                  clear hE28 a28
                  refine one fun C hC => val hE29 (R.move hE29 rfl) rfl fun a30 hE30 => hC _ _ ?_
                  clear hC C
                  clear hE29 a29
                  refine splitE hE30 (x := .tmp 44) rfl ?_ ?_
                  · intro hb8
                    have ht8 := hb8
                    try simp only [decide_eq_true_eq, decide_eq_false_iff_not, Bool.not_eq_true', Bool.not_eq_false', beq_iff_eq, Bool.and_eq_true, Bool.or_eq_true] at ht8
                    refine oneOff hE30 rfl rfl hb8 rfl fun a31 hE31 => ?_
                    clear hE30 a30
                    refine oneOff hE31 rfl rfl hb8 rfl fun a32 hE32 => ?_
                    clear hE31 a31
                    refine one fun C hC => val hE32 (R.pickT hE32 rfl hb8 rfl) rfl fun a33 hE33 => hC _ _ ?_
                    clear hC C
                    clear hE32 a32
                    refine one fun C hC => val hE33 (R.assign hE33 rfl) rfl fun a34 hE34 => hC _ _ ?_
                    clear hC C
                    clear hE33 a33
                    refine wpList_nil (hK18 _ _ ?_)
                    clear hK18 K18
                    replace hE34 := hE34.keep (E' := [(0, _), (1, _), (5, _), (25, _), (32, _), (37, _)]) ⟨rfl, rfl, rfl, rfl, rfl, rfl, trivial⟩
                    refine condT hE34 rfl rfl ?_
                    refine wp_region_lit ?_
                    refine one fun C hC => val hE34 (R.move hE34 rfl) rfl fun a35 hE35 => hC _ _ ?_
                    clear hC C
                    clear hE34 a34
                    refine one fun C hC => callM hE35 (fault_c b V 18 hO1.f) cb_20 rfl hM2 rfl fun  a36 w3 hE36 hM3 => hC _ _ ?_
                    clear hC C hE35 hM2 a35
                    have hO2 := hO1.fault (x := 18) (d := 139) (by omega)
                    have hp2 := hO2.p
                    have hn2 := hO2.n
                    replace hE36 := hE36.keep (E' := [(0, _), (1, _), (5, _), (25, _), (32, _), (37, _)]) ⟨rfl, rfl, rfl, rfl, rfl, rfl, trivial⟩
                    refine wpList_nil (hK2 _ _ ?_)
                    refine wp_seq_k fun K20 hK20 => ?_
                    obtain ⟨x1, hk1, hV1, hM4⟩ := machAt.openT (by first | rfl | assumption | ((try dsimp only); (try simp only [M.read_st, M.fault_st, M.say_st, M.begin_st, M.flush_st, M.keep_st, M.leave_st, M.again_st, M.first_st]); first | rfl | assumption)) hM3
                    try dsimp only at hM4 hk1
                    clear hM3
                    have hZ1 := hO2.ls
                    try dsimp only at hZ1
                    refine planM [8, 11] [(0, 1), (1, 1), (2, 1), (3, 1), (5, 1), (4, 0), (6, 2), (7, 2), (8, 2), (9, 1), (10, 1), (11, 2)] mix (by kernel_rfl) hM4 (fun c a a2 w hd => hP c a a2 w hd) fun w5 hM5 C0 hC0 => ?_
                    clear hM4
                    refine pPure rfl hE36 (fun _ => by exact R.move hE36 rfl) rfl fun a37 hE37 => ?_
                    clear hE36 a36
                    refine pPure rfl hE37 (fun _ => by exact R.move hE37 rfl) rfl fun a38 hE38 => ?_
                    clear hE37 a37
                    refine pPure rfl hE38 (fun _ => by exact R.nil hE38 rfl) rfl fun a39 hE39 => ?_
                    clear hE38 a38
                    refine pPure rfl hE39 (fun _ => by exact R.fieldAddr hE39 53 8 15 fb_53_8 rfl) rfl fun a40 hE40 => ?_
                    clear hE39 a39
                    refine pPure rfl hE40 (fun _ => by exact R.move hE40 rfl) rfl fun a41 hE41 => ?_
                    clear hE40 a40
                    refine pTake rfl hE41 (fun _ hW => by exact R.load hE41 sc_50 rfl hW (by rfl)) rfl hM5 fun a42 hE42 => ?_
                    clear hE41 a41
                    refine pOneS rfl fun C hC => callF hE42 (lowerRune_c _ (by omega) (by omega)) cb_35 rfl hM5 rfl  fun  a43 w6 hE43 hM6 => hC _ _ hM6 ?_
                    clear hC C hE42 hM5 a42
                    refine pOneS rfl fun C hC => lit1 hE43 hM6 4 el_50 rfl rfl rfl  fun b57 a44 w7 hE44 hM7 => hC _ _ hM7.drop ?_
                    clear hC C hE43 hM6 a43
                    refine pOne rfl rfl fun C hC => appendL (xs := (V.fault 18).attr) hE44 [lowerR r] el_50 rfl rfl hM7 rfl rfl rfl (by unfold maxLen; first | omega | (simp; done) | (simp; omega)) (by first | omega | (simp; done) | (simp; omega)) rfl fun A58 C58 a45 w8 hE45 hM8 => hC _ _ ?_
                    clear hC C hE44 hM7 a44
                    refine pPure rfl hE45 (fun _ => by exact R.nil hE45 rfl) rfl fun a46 hE46 => ?_
                    clear hE45 a45
                    refine pPure rfl hE46 (fun _ => by exact R.fieldAddr hE46 53 8 15 fb_53_8 rfl) rfl fun a47 hE47 => ?_
                    clear hE46 a46
                    refine pOne rfl rfl fun C hC => store hE47 hM8 sc_50 rfl rfl rfl rfl  fun  a48 w9 hE48 hM9 => hC _ _ ?_
                    clear hC C hE47 hM8 a47
                    try simp only [List.set_cons_zero, List.set_cons_succ, Nat.zero_add] at hM9
                    refine pNil (hC0 _ _ ?_)
                    clear hC0 C0
                    refine hK20 _ _ ?_
                    clear hK20 K20
                    replace hE48 := hE48.keep (E' := [(0, _), (1, _), (5, _), (25, _), (32, _), (37, _)]) ⟨rfl, rfl, rfl, rfl, rfl, rfl, trivial⟩
                    refine wp_region_lit ?_
                    refine one fun C hC => val hE48 (R.move hE48 rfl) rfl fun a49 hE49 => hC _ _ ?_
                    clear hC C
                    clear hE48 a48
                    have hO3 : M.Ok ({ (V.fault 18) with attr := ((V.fault 18).attr) ++ [lowerR r] }) 138 := by have h1 := hO2.p; have h2 := hO2.n; have h3 := hO2.s; exact ⟨by (try dsimp only); omega, by (try dsimp only); omega, hO2.r, by (try simp only [M.sz, List.length_append, List.length_cons, List.length_nil] at h3 ⊢); omega⟩
                    have hp3 := hO3.p
                    have hn3 := hO3.n
                    refine one fun C hC => callM hE49 (read_c b { (V.fault 18) with attr := ((V.fault 18).attr) ++ [lowerR r] } hO3.pos hO3.f) cb_14 rfl (machAt.closeT (T := 53) (R := 21) (K := 43) (L := 24) (A := 45) (V := none) (b := b) (S := { (V.fault 18) with attr := ((V.fault 18).attr) ++ [lowerR r] }) (F := star G F0) (by first | rfl | assumption | ((try dsimp only); (try simp only [M.read_st, M.fault_st, M.say_st, M.begin_st, M.flush_st, M.keep_st, M.leave_st, M.again_st, M.first_st]); first | rfl | assumption)) { x1 with aA := A58, aC := C58 } hk1 trivial (by (try dsimp only); (try simp only [List.length_nil, attrsOf_snoc, tagAt_true]); (try simp only [emp_star, star_emp]); exact hM9.cast (by ac_rfl))) rfl fun  a50 w10 hE50 hM10 => hC _ _ ?_
                    clear hC C hE49 hM9 a49
                    have hO4 := hO3.read
                    have hp4 := hO4.p
                    have hn4 := hO4.n
                    refine one fun C hC => val hE50 (R.assign hE50 rfl) rfl fun a51 hE51 => hC _ _ ?_
                    clear hC C
                    clear hE50 a50
                    replace hE51 := hE51.keep (E' := [(0, _), (1, _), (5, _), (25, _), (32, _), (37, _)]) ⟨rfl, rfl, rfl, rfl, rfl, rfl, trivial⟩
                    refine wpList_nil (hK1 _ _ ?_)
                    have hm := hM10
                    have h0 : r ≠ -1 := by omega
                    rw [if_neg (by simp [ht1, ht2, ht3, ht4]), if_neg ht5] at hT
                    have eA : V.attrOf r = { (V.fault 18) with attr := ((V.fault 18).attr) ++ [lowerR r] } := by unfold M.attrOf; rw [if_neg ht6, if_pos (by omega)]; rfl
                    rw [← eA] at hm hE51
                    have hF : M.Fwd V (V.attrOf r) := M.fwd_attrOf _ _
                    have hQ2 : (V.attrOf r).Ok 142 := ((hOr h0).attrOf (by omega))
                    have hFr := M.fwd_read (V.attrOf r)
                    have hpk := hQ2.peek 0
                    have hr2 := hr h0
                    have hi2 := hF.i
                    have hp2 := hF.p
                    refine hK (n, (V.attrOf r).read, (V.attrOf r).peek 0) _ _ ⟨hE51.keep ⟨rfl, rfl, trivial⟩, hm, hT, hQ2.read.le (by omega), fun h1 => (hQ2.read_more h1).le (by omega), (hFr.s.trans hF.s).trans hsV, by (show 1 ≤ n); omega, fun h1 => by (show (V.attrOf r).read.inp.length - (V.attrOf r).read.pos + 2 ≤ n); rw [hFr.i, hF.i, M.read_pos h1]; have := peek_lt h1; rw [hF.i] at this; omega, hpk⟩ (Nat.lt_succ_self _)
                  · intro hb8
                    have ht8 := hb8
                    try simp only [decide_eq_true_eq, decide_eq_false_iff_not, Bool.not_eq_true', Bool.not_eq_false', beq_iff_eq, Bool.and_eq_true, Bool.or_eq_true] at ht8
                    refine oneOn hE30 rfl rfl hb8 fun C hC => val hE30 (R.move hE30 rfl) rfl fun a31 hE31 => hC _ _ ?_
                    clear hC C
                    clear hE30 a30
                    refine oneOn hE31 rfl rfl hb8 fun C hC => val hE31 (R.eql hE31 rfl rfl) rfl fun a32 hE32 => hC _ _ ?_
                    clear hC C
                    clear hE31 a31
                    refine one fun C hC => val hE32 (R.pickF hE32 rfl hb8 rfl) rfl fun a33 hE33 => hC _ _ ?_
                    clear hC C
                    clear hE32 a32
                    refine one fun C hC => val hE33 (R.assign hE33 rfl) rfl fun a34 hE34 => hC _ _ ?_
                    clear hC C
                    clear hE33 a33
                    refine wpList_nil (hK18 _ _ ?_)
                    clear hK18 K18
                    replace hE34 := hE34.keep (E' := [(0, _), (1, _), (5, _), (25, _), (32, _), (37, _)]) ⟨rfl, rfl, rfl, rfl, rfl, rfl, trivial⟩
                    refine condR hE34 rfl ?_ ?_
                    · intro hb9
                      have ht9 := hb9
                      try simp only [decide_eq_true_eq, decide_eq_false_iff_not, Bool.not_eq_true', Bool.not_eq_false', beq_iff_eq, Bool.and_eq_true, Bool.or_eq_true] at ht9
                      refine wp_region_lit ?_
                      refine one fun C hC => val hE34 (R.move hE34 rfl) rfl fun a35 hE35 => hC _ _ ?_
                      clear hC C
                      clear hE34 a34
                      refine one fun C hC => callM hE35 (fault_c b V 18 hO1.f) cb_20 rfl hM2 rfl fun  a36 w3 hE36 hM3 => hC _ _ ?_
                      clear hC C hE35 hM2 a35
                      have hO2 := hO1.fault (x := 18) (d := 139) (by omega)
                      have hp2 := hO2.p
                      have hn2 := hO2.n
                      replace hE36 := hE36.keep (E' := [(0, _), (1, _), (5, _), (25, _), (32, _), (37, _)]) ⟨rfl, rfl, rfl, rfl, rfl, rfl, trivial⟩
                      refine wpList_nil (hK2 _ _ ?_)
                      refine wp_seq_k fun K21 hK21 => ?_
                      obtain ⟨x1, hk1, hV1, hM4⟩ := machAt.openT (by first | rfl | assumption | ((try dsimp only); (try simp only [M.read_st, M.fault_st, M.say_st, M.begin_st, M.flush_st, M.keep_st, M.leave_st, M.again_st, M.first_st]); first | rfl | assumption)) hM3
                      try dsimp only at hM4 hk1
                      clear hM3
                      have hZ1 := hO2.ls
                      try dsimp only at hZ1
                      refine planM [8, 11] [(0, 1), (1, 1), (2, 1), (3, 1), (5, 1), (4, 0), (6, 2), (7, 2), (8, 2), (9, 1), (10, 1), (11, 2)] mix (by kernel_rfl) hM4 (fun c a a2 w hd => hP c a a2 w hd) fun w5 hM5 C0 hC0 => ?_
                      clear hM4
                      refine pPure rfl hE36 (fun _ => by exact R.move hE36 rfl) rfl fun a37 hE37 => ?_
                      clear hE36 a36
                      refine pPure rfl hE37 (fun _ => by exact R.move hE37 rfl) rfl fun a38 hE38 => ?_
                      clear hE37 a37
                      refine pPure rfl hE38 (fun _ => by exact R.nil hE38 rfl) rfl fun a39 hE39 => ?_
                      clear hE38 a38
                      refine pPure rfl hE39 (fun _ => by exact R.fieldAddr hE39 53 8 15 fb_53_8 rfl) rfl fun a40 hE40 => ?_
                      clear hE39 a39
                      refine pPure rfl hE40 (fun _ => by exact R.move hE40 rfl) rfl fun a41 hE41 => ?_
                      clear hE40 a40
                      refine pTake rfl hE41 (fun _ hW => by exact R.load hE41 sc_50 rfl hW (by rfl)) rfl hM5 fun a42 hE42 => ?_
                      clear hE41 a41
                      refine pOneS rfl fun C hC => callF hE42 (lowerRune_c _ (by omega) (by omega)) cb_35 rfl hM5 rfl  fun  a43 w6 hE43 hM6 => hC _ _ hM6 ?_
                      clear hC C hE42 hM5 a42
                      refine pOneS rfl fun C hC => lit1 hE43 hM6 4 el_50 rfl rfl rfl  fun b57 a44 w7 hE44 hM7 => hC _ _ hM7.drop ?_
                      clear hC C hE43 hM6 a43
                      refine pOne rfl rfl fun C hC => appendL (xs := (V.fault 18).attr) hE44 [lowerR r] el_50 rfl rfl hM7 rfl rfl rfl (by unfold maxLen; first | omega | (simp; done) | (simp; omega)) (by first | omega | (simp; done) | (simp; omega)) rfl fun A58 C58 a45 w8 hE45 hM8 => hC _ _ ?_
                      clear hC C hE44 hM7 a44
                      refine pPure rfl hE45 (fun _ => by exact R.nil hE45 rfl) rfl fun a46 hE46 => ?_
                      clear hE45 a45
                      refine pPure rfl hE46 (fun _ => by exact R.fieldAddr hE46 53 8 15 fb_53_8 rfl) rfl fun a47 hE47 => ?_
                      clear hE46 a46
                      refine pOne rfl rfl fun C hC => store hE47 hM8 sc_50 rfl rfl rfl rfl  fun  a48 w9 hE48 hM9 => hC _ _ ?_
                      clear hC C hE47 hM8 a47
                      try simp only [List.set_cons_zero, List.set_cons_succ, Nat.zero_add] at hM9
                      refine pNil (hC0 _ _ ?_)
                      clear hC0 C0
                      refine hK21 _ _ ?_
                      clear hK21 K21
                      replace hE48 := hE48.keep (E' := [(0, _), (1, _), (5, _), (25, _), (32, _), (37, _)]) ⟨rfl, rfl, rfl, rfl, rfl, rfl, trivial⟩
                      refine wp_region_lit ?_
                      refine one fun C hC => val hE48 (R.move hE48 rfl) rfl fun a49 hE49 => hC _ _ ?_
                      clear hC C
                      clear hE48 a48
                      have hO3 : M.Ok ({ (V.fault 18) with attr := ((V.fault 18).attr) ++ [lowerR r] }) 138 := by have h1 := hO2.p; have h2 := hO2.n; have h3 := hO2.s; exact ⟨by (try dsimp only); omega, by (try dsimp only); omega, hO2.r, by (try simp only [M.sz, List.length_append, List.length_cons, List.length_nil] at h3 ⊢); omega⟩
                      have hp3 := hO3.p
                      have hn3 := hO3.n
                      refine one fun C hC => callM hE49 (read_c b { (V.fault 18) with attr := ((V.fault 18).attr) ++ [lowerR r] } hO3.pos hO3.f) cb_14 rfl (machAt.closeT (T := 53) (R := 21) (K := 43) (L := 24) (A := 45) (V := none) (b := b) (S := { (V.fault 18) with attr := ((V.fault 18).attr) ++ [lowerR r] }) (F := star G F0) (by first | rfl | assumption | ((try dsimp only); (try simp only [M.read_st, M.fault_st, M.say_st, M.begin_st, M.flush_st, M.keep_st, M.leave_st, M.again_st, M.first_st]); first | rfl | assumption)) { x1 with aA := A58, aC := C58 } hk1 trivial (by (try dsimp only); (try simp only [List.length_nil, attrsOf_snoc, tagAt_true]); (try simp only [emp_star, star_emp]); exact hM9.cast (by ac_rfl))) rfl fun  a50 w10 hE50 hM10 => hC _ _ ?_
                      clear hC C hE49 hM9 a49
                      have hO4 := hO3.read
                      have hp4 := hO4.p
                      have hn4 := hO4.n
                      refine one fun C hC => val hE50 (R.assign hE50 rfl) rfl fun a51 hE51 => hC _ _ ?_
                      clear hC C
                      clear hE50 a50
                      replace hE51 := hE51.keep (E' := [(0, _), (1, _), (5, _), (25, _), (32, _), (37, _)]) ⟨rfl, rfl, rfl, rfl, rfl, rfl, trivial⟩
                      refine wpList_nil (hK1 _ _ ?_)
                      have hm := hM10
                      have h0 : r ≠ -1 := by omega
                      rw [if_neg (by simp [ht1, ht2, ht3, ht4]), if_neg ht5] at hT
                      have eA : V.attrOf r = { (V.fault 18) with attr := ((V.fault 18).attr) ++ [lowerR r] } := by unfold M.attrOf; rw [if_neg ht6, if_pos (by omega)]; rfl
                      rw [← eA] at hm hE51
                      have hF : M.Fwd V (V.attrOf r) := M.fwd_attrOf _ _
                      have hQ2 : (V.attrOf r).Ok 142 := ((hOr h0).attrOf (by omega))
                      have hFr := M.fwd_read (V.attrOf r)
                      have hpk := hQ2.peek 0
                      have hr2 := hr h0
                      have hi2 := hF.i
                      have hp2 := hF.p
                      refine hK (n, (V.attrOf r).read, (V.attrOf r).peek 0) _ _ ⟨hE51.keep ⟨rfl, rfl, trivial⟩, hm, hT, hQ2.read.le (by omega), fun h1 => (hQ2.read_more h1).le (by omega), (hFr.s.trans hF.s).trans hsV, by (show 1 ≤ n); omega, fun h1 => by (show (V.attrOf r).read.inp.length - (V.attrOf r).read.pos + 2 ≤ n); rw [hFr.i, hF.i, M.read_pos h1]; have := peek_lt h1; rw [hF.i] at this; omega, hpk⟩ (Nat.lt_succ_self _)
                    · intro hb9
                      have ht9 := hb9
                      try simp only [decide_eq_true_eq, decide_eq_false_iff_not, Bool.not_eq_true', Bool.not_eq_false', beq_iff_eq, Bool.and_eq_true, Bool.or_eq_true] at ht9
                      refine wp_skip (hK2 _ _ ?_)
                      refine wp_seq_k fun K22 hK22 => ?_
                      obtain ⟨x1, hk1, hV1, hM3⟩ := machAt.openT (by first | rfl | assumption | ((try dsimp only); (try simp only [M.read_st, M.fault_st, M.say_st, M.begin_st, M.flush_st, M.keep_st, M.leave_st, M.again_st, M.first_st]); first | rfl | assumption)) hM2
                      try dsimp only at hM3 hk1
                      clear hM2
                      have hZ1 := hO1.ls
                      try dsimp only at hZ1
                      refine planM [8, 11] [(0, 1), (1, 1), (2, 1), (3, 1), (5, 1), (4, 0), (6, 2), (7, 2), (8, 2), (9, 1), (10, 1), (11, 2)] mix (by kernel_rfl) hM3 (fun c a a2 w hd => hP c a a2 w hd) fun w4 hM4 C0 hC0 => ?_
                      clear hM3
                      refine pPure rfl hE34 (fun _ => by exact R.move hE34 rfl) rfl fun a35 hE35 => ?_
                      clear hE34 a34
                      refine pPure rfl hE35 (fun _ => by exact R.move hE35 rfl) rfl fun a36 hE36 => ?_
                      clear hE35 a35
                      refine pPure rfl hE36 (fun _ => by exact R.nil hE36 rfl) rfl fun a37 hE37 => ?_
                      clear hE36 a36
                      refine pPure rfl hE37 (fun _ => by exact R.fieldAddr hE37 53 8 15 fb_53_8 rfl) rfl fun a38 hE38 => ?_
                      clear hE37 a37
                      refine pPure rfl hE38 (fun _ => by exact R.move hE38 rfl) rfl fun a39 hE39 => ?_
                      clear hE38 a38
                      refine pTake rfl hE39 (fun _ hW => by exact R.load hE39 sc_50 rfl hW (by rfl)) rfl hM4 fun a40 hE40 => ?_
                      clear hE39 a39
                      refine pOneS rfl fun C hC => callF hE40 (lowerRune_c _ (by omega) (by omega)) cb_35 rfl hM4 rfl  fun  a41 w5 hE41 hM5 => hC _ _ hM5 ?_
                      clear hC C hE40 hM4 a40
                      refine pOneS rfl fun C hC => lit1 hE41 hM5 4 el_50 rfl rfl rfl  fun b57 a42 w6 hE42 hM6 => hC _ _ hM6.drop ?_
                      clear hC C hE41 hM5 a41
                      refine pOne rfl rfl fun C hC => appendL (xs := V.attr) hE42 [lowerR r] el_50 rfl rfl hM6 rfl rfl rfl (by unfold maxLen; first | omega | (simp; done) | (simp; omega)) (by first | omega | (simp; done) | (simp; omega)) rfl fun A58 C58 a43 w7 hE43 hM7 => hC _ _ ?_
                      clear hC C hE42 hM6 a42
                      refine pPure rfl hE43 (fun _ => by exact R.nil hE43 rfl) rfl fun a44 hE44 => ?_
                      clear hE43 a43
                      refine pPure rfl hE44 (fun _ => by exact R.fieldAddr hE44 53 8 15 fb_53_8 rfl) rfl fun a45 hE45 => ?_
                      clear hE44 a44
                      refine pOne rfl rfl fun C hC => store hE45 hM7 sc_50 rfl rfl rfl rfl  fun  a46 w8 hE46 hM8 => hC _ _ ?_
                      clear hC C hE45 hM7 a45
                      try simp only [List.set_cons_zero, List.set_cons_succ, Nat.zero_add] at hM8
                      refine pNil (hC0 _ _ ?_)
                      clear hC0 C0
                      refine hK22 _ _ ?_
                      clear hK22 K22
                      replace hE46 := hE46.keep (E' := [(0, _), (1, _), (5, _), (25, _), (32, _), (37, _)]) ⟨rfl, rfl, rfl, rfl, rfl, rfl, trivial⟩
                      refine wp_region_lit ?_
                      refine one fun C hC => val hE46 (R.move hE46 rfl) rfl fun a47 hE47 => hC _ _ ?_
                      clear hC C
                      clear hE46 a46
                      have hO2 : M.Ok ({ V with attr := V.attr ++ [lowerR r] }) 139 := by have h1 := hO1.p; have h2 := hO1.n; have h3 := hO1.s; exact ⟨by (try dsimp only); omega, by (try dsimp only); omega, hO1.r, by (try simp only [M.sz, List.length_append, List.length_cons, List.length_nil] at h3 ⊢); omega⟩
                      have hp2 := hO2.p
                      have hn2 := hO2.n
                      refine one fun C hC => callM hE47 (read_c b { V with attr := V.attr ++ [lowerR r] } hO2.pos hO2.f) cb_14 rfl (machAt.closeT (T := 53) (R := 21) (K := 43) (L := 24) (A := 45) (V := none) (b := b) (S := { V with attr := V.attr ++ [lowerR r] }) (F := star G F0) (by first | rfl | assumption | ((try dsimp only); (try simp only [M.read_st, M.fault_st, M.say_st, M.begin_st, M.flush_st, M.keep_st, M.leave_st, M.again_st, M.first_st]); first | rfl | assumption)) { x1 with aA := A58, aC := C58 } hk1 trivial (by (try dsimp only); (try simp only [List.length_nil, attrsOf_snoc, tagAt_true]); (try simp only [emp_star, star_emp]); exact hM8.cast (by ac_rfl))) rfl fun  a48 w9 hE48 hM9 => hC _ _ ?_
                      clear hC C hE47 hM8 a47
                      have hO3 := hO2.read
                      have hp3 := hO3.p
                      have hn3 := hO3.n
                      refine one fun C hC => val hE48 (R.assign hE48 rfl) rfl fun a49 hE49 => hC _ _ ?_
                      clear hC C
                      clear hE48 a48
                      replace hE49 := hE49.keep (E' := [(0, _), (1, _), (5, _), (25, _), (32, _), (37, _)]) ⟨rfl, rfl, rfl, rfl, rfl, rfl, trivial⟩
                      refine wpList_nil (hK1 _ _ ?_)
                      have hm := hM9
                      have h0 : r ≠ -1 := by omega
                      rw [if_neg (by simp [ht1, ht2, ht3, ht4]), if_neg ht5] at hT
                      have eA : V.attrOf r = { V with attr := V.attr ++ [lowerR r] } := by unfold M.attrOf; rw [if_neg ht6, if_neg (by omega)]; rfl
                      rw [← eA] at hm hE49
                      have hF : M.Fwd V (V.attrOf r) := M.fwd_attrOf _ _
                      have hQ2 : (V.attrOf r).Ok 142 := ((hOr h0).attrOf (by omega))
                      have hFr := M.fwd_read (V.attrOf r)
                      have hpk := hQ2.peek 0
                      have hr2 := hr h0
                      have hi2 := hF.i
                      have hp2 := hF.p
                      refine hK (n, (V.attrOf r).read, (V.attrOf r).peek 0) _ _ ⟨hE49.keep ⟨rfl, rfl, trivial⟩, hm, hT, hQ2.read.le (by omega), fun h1 => (hQ2.read_more h1).le (by omega), (hFr.s.trans hF.s).trans hsV, by (show 1 ≤ n); omega, fun h1 => by (show (V.attrOf r).read.inp.length - (V.attrOf r).read.pos + 2 ≤ n); rw [hFr.i, hF.i, M.read_pos h1]; have := peek_lt h1; rw [hF.i] at this; omega, hpk⟩ (Nat.lt_succ_self _)

end

end Go.Sv
