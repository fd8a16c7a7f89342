import Derived.Test.YthaalghnpfpjmaaDoorProg
import Derived.Test.YthaalghnpfpjmaaDoorMach8
import Derived.Test.YthaalghnpfpjmaaDoorRefs5
set_option linter.all false
set_option linter.unusedVariables false
set_option linter.unusedSimpArgs false
set_option maxRecDepth 100000
namespace Go.Sv
open Go.RowKit Go.Proofs
attribute [local irreducible] row pts star blk emp fact any attrsOf machAt tagAt

namespace FMach9
theorem bd_47 : ∀ w, (Instr.build 47 [].toArray).run Tryd.prog w = .ok (.agg [].toArray) w := by
  intros
  exact run_build _ 47 _ _ (by kernel_rfl)
theorem cb_14 : callB Tryd.prog 14 = true := by kernel_rfl
theorem cb_15 : callB Tryd.prog 15 = true := by kernel_rfl
theorem cb_16 : callB Tryd.prog 16 = true := by kernel_rfl
theorem cb_17 : callB Tryd.prog 17 = true := by kernel_rfl
theorem cb_18 : callB Tryd.prog 18 = true := by kernel_rfl
theorem cb_19 : callB Tryd.prog 19 = true := by kernel_rfl
theorem cb_20 : callB Tryd.prog 20 = true := by kernel_rfl
theorem cb_21 : callB Tryd.prog 21 = true := by kernel_rfl
theorem cb_22 : callB Tryd.prog 22 = true := by kernel_rfl
theorem cb_23 : callB Tryd.prog 23 = true := by kernel_rfl
theorem cb_24 : callB Tryd.prog 24 = true := by kernel_rfl
theorem cb_25 : callB Tryd.prog 25 = true := by kernel_rfl
theorem co_47 : concB Tryd.prog 47 = true := by kernel_rfl
theorem el_50 : elemB Tryd.prog 50 21 1 4 = true := by kernel_rfl
theorem fb_53_1 : fieldB Tryd.prog 53 1 1 = true := by kernel_rfl
theorem fb_53_5 : fieldB Tryd.prog 53 5 5 = true := by kernel_rfl
theorem fb_53_7 : fieldB Tryd.prog 53 7 14 = true := by kernel_rfl
theorem mix : Tryd.prog.follows .mixedOrders = true := by kernel_rfl
theorem sc_3 : scalarB Tryd.prog 3 = true := by kernel_rfl
theorem sc_50 : scalarB Tryd.prog 50 = true := by kernel_rfl
theorem sc_9 : scalarB Tryd.prog 9 = true := by kernel_rfl
theorem sr_9_50 : strRunesB Tryd.prog 9 50 21 = true := by kernel_rfl
theorem st_9 : stringB Tryd.prog 9 = true := by kernel_rfl
end FMach9
open FMach9

theorem let33 : letterB 33 = false := by decide
theorem let63 : letterB 63 = false := by decide
theorem letE : letterB (-1) = false := by decide
theorem let62 : letterB 62 = false := by decide
theorem let47 : letterB 47 = false := by decide

theorem rc_ascii {S : M} (h : RC S) : ascii S.rcdata ∧ S.rcdata.size ≤ 1000 := by
  have key : ∀ l : List UInt8, S.rcdata.data.toList = l → (∀ x ∈ l, x.toNat < 128) → l.length ≤ 1000 → ascii S.rcdata ∧ S.rcdata.size ≤ 1000 := by
    intro l hl ha hn
    have hs : S.rcdata.size = l.length := by rw [← hl]; simp
    refine ⟨fun j hj => ?_, by omega⟩
    rw [get!_list S.rcdata j hj]
    exact ha _ (by rw [← hl]; exact List.getElem_mem _)
  rcases h with h | h
  · exact key [] h (by simp) (by simp)
  · rw [show inSet 2 S.rcdata = inRcdata S.rcdata from rfl] at h
    unfold inRcdata isAny at h
    simp only [List.any_cons, List.any_nil, Bool.or_false, Bool.or_eq_true, beq_iff_eq] at h
    rcases h with h | h
    · exact key _ h.symm (by decide) (by decide)
    · exact key _ h.symm (by decide) (by decide)

section
variable (G : HProp) (hIn : ∀ (n : ByteArray) (k : Int), k = 2 ∨ k = 3 → Fm Tryd.prog 70 [.string n, .int .i64 k] G (.bool (inSet k n)) G)
variable (hRef : ∀ (b : Nat) (S : M) (a : Bool) (V : Option (Option Addr × Nat)), S.Ok 20 → Fx Tryd.prog 17 [.pointer (some ⟨b, 0, none⟩), .bool a] (star (mach V b S) G) (fun q : Option Addr × Nat => .slice q.1 (S.reference a).1.length q.2) (fun q => star (mach V b (S.reference a).2) (star (row 21 1 rune q.1 q.2 (S.reference a).1) G)))
variable (hRo : ∀ (S : M) (a : Bool) (c d : Nat), S.Ok c → d + 8 ≤ c → (S.reference a).2.Ok (d + (S.reference a).1.length)) (hRp : ∀ (S : M) (a : Bool), 0 < (S.reference a).1.length)
variable (hOdd : ∀ r : Int, -1 ≤ r → r ≤ 1114111 → Fn Tryd.prog 82 [.string (ByteArray.mk #[34, 39, 60, 61, 96]), .int .i32 r] (.bool (M.oddB r)))

set_option maxHeartbeats 8000000 in
include hIn hRef hRo hRp hOdd in
theorem run_c (b : Nat) (S : M) (hR : ROk (4 * S.inp.length + 8) 0 S) (hO : S.Ok 200) : Fo Tryd.prog rej 11 [.pointer (some ⟨b, 0, none⟩)] (star (mach none b S) G) (S.run) (fun y => (.tuple #[])) (fun y => star (mach none b y) G) G := by
  intro β w0 F0 hM0
  replace hM0 := hM0.cast (star_assoc _ _ _)
  obtain ⟨x, hk, hV, hM1⟩ := machAt.open_ hM0
  clear hM0
  rename Mem _ _ _ => hM0
  refine enterO Tryd.func11 (by rfl) 133 rfl rfl fun a0 Q hE0 hQ hN hP hX => ?_
  have hp0 := hO.p
  have hn0 := hO.n
  have hs0 := hO.s
  simp only [M.sz] at hs0
  refine scopeL (σ := Nat × M) (fun l p a w => ROk p.1 l p.2 ∧ Env 133 [] a [(0, .pointer (some ⟨b, 0, none⟩))] ∧ Mem β w (star (mach none b p.2) (star G F0)) ∧ M.runN p.1 l p.2 = S.run) (fun p => p.1) (fun _ => rfl) ?_ ?_ ?_
  · intro KG K hK
    refine wp_region_lit ?_
    refine one fun C hC => val hE0 (R.assign hE0 rfl) rfl fun a1 hE1 => hC _ _ ?_
    clear hC C
    clear hE0 a0
    refine wpList_nil (hK (4 * S.inp.length + 8, S) _ _ ⟨hR, hE1.keep ⟨rfl, trivial⟩, (machAt.close (T := 53) (R := 21) (K := 43) (L := 24) (A := 45) (V := none) (b := b) (S := S) (F := star G F0) x hk trivial (by (try dsimp only); (try simp only [List.length_nil, attrsOf_snoc, tagAt_true]); (try simp only [emp_star, star_emp]); exact hM0.cast (by ac_rfl))), rfl⟩)
  · rintro ⟨n, V⟩ a50 w50 ⟨hR, hE50, hM50, hT⟩ K hK
    dsimp only at hR hE50 hM50 hT
    obtain ⟨n, rfl⟩ : ∃ n', n = n' + 1 := ⟨n - 1, by have := hR.f; omega⟩
    unfold M.runN at hT
    have hO50 := hR.o
    have hp50 := hO50.p
    have hn50 := hO50.n
    have hpk := hO50.peek 0
    have hasV := rc_ascii hR.c
    have hasR := rc_ascii (fwd_fact V.fwd_read hR.c)
    have hasc := hasR
    refine wp_seq_k fun K0 hK0 => ?_
    refine wp_seq_k fun K1 hK1 => ?_
    refine wp_region_lit ?_
    refine one fun C hC => val hE50 (R.move hE50 rfl) rfl fun a51 hE51 => hC _ _ ?_
    clear hC C
    clear hE50 a50
    refine one fun C hC => callM hE51 (read_c b V hO50.pos hO50.f) cb_14 rfl hM50 rfl fun  a52 w51 hE52 hM51 => hC _ _ ?_
    clear hC C hE51 hM50 a51
    have hO51 := hO50.read
    have hp51 := hO51.p
    have hn51 := hO51.n
    refine one fun C hC => val hE52 (R.assign hE52 rfl) rfl fun a53 hE53 => hC _ _ ?_
    clear hC C
    clear hE52 a52
    refine wpList_nil (hK1 _ _ ?_)
    clear hK1 K1
    replace hE53 := hE53.keep (E' := [(0, _), (2, _)]) ⟨rfl, rfl, trivial⟩
    refine wp_block ?_
    refine wp_seq_k fun K2 hK2 => ?_
    refine wp_block ?_
    refine wp_seq_k fun K3 hK3 => ?_
    refine wp_block ?_
    refine wp_seq_k fun K4 hK4 => ?_
    refine wp_block ?_
    refine wp_seq_k fun K5 hK5 => ?_
    refine wp_block ?_
    refine wp_seq_k fun K6 hK6 => ?_
    refine wp_block ?_
    refine wp_seq_k fun K7 hK7 => ?_
    refine wp_block ?_
    refine wp_seq_k fun K8 hK8 => ?_
    refine wp_seq_k fun K9 hK9 => ?_
    refine wp_seq_k fun K10 hK10 => ?_
    refine wp_region_lit ?_
    refine one fun C hC => val hE53 (R.move hE53 rfl) rfl fun a54 hE54 => hC _ _ ?_
    clear hC C
    clear hE53 a53
    refine one fun C hC => val hE54 (R.eql hE54 rfl rfl) rfl fun a55 hE55 => hC _ _ ?_
    clear hC C
    clear hE54 a54
    refine one fun C hC => val hE55 (R.assign hE55 rfl) rfl fun a56 hE56 => hC _ _ ?_
    clear hC C
    clear hE55 a55
    refine wpList_nil (hK10 _ _ ?_)
    clear hK10 K10
    replace hE56 := hE56.keep (E' := [(0, _), (2, _), (5, _)]) ⟨rfl, rfl, rfl, trivial⟩
    refine condR hE56 rfl ?_ ?_
    · intro hb1
      have ht1 := hb1
      try simp only [decide_eq_true_eq, decide_eq_false_iff_not, Bool.not_eq_true', Bool.not_eq_false', beq_iff_eq, Bool.and_eq_true, Bool.or_eq_true] at ht1
      refine wp_exit (exitThen (exitThen (exitIn ?_)))
      refine hK7 _ _ ?_
      refine wp_seq_k fun K11 hK11 => ?_
      refine wp_seq_k fun K12 hK12 => ?_
      refine wp_region_lit ?_
      refine one fun C hC => val hE56 (R.move hE56 rfl) rfl fun a57 hE57 => hC _ _ ?_
      clear hC C
      clear hE56 a56
      refine one fun C hC => callM hE57 (flush_c b V.read hO51.t) cb_15 rfl hM51 rfl fun  a58 w52 hE58 hM52 => hC _ _ ?_
      clear hC C hE57 hM51 a57
      have hO52 := hO51.flush
      have hp52 := hO52.p
      have hn52 := hO52.n
      refine wpList_nil (hK12 _ _ ?_)
      clear hK12 K12
      replace hE58 := hE58.keep (E' := [(0, _), (2, _), (5, _)]) ⟨rfl, rfl, rfl, trivial⟩
      refine wp_ret (hQ _ _ ?_)
      have hm := hM52
      refine back0 hE58 rfl (Mem.doneO (V.read.flush) ?_ rfl ?_)
      · rw [← hT]; have hstep : V.stepR 0 = some (9, V.read.flush) := (by simp [M.stepR, ht1]); rw [hstep]; rfl
      exact hm.cast (by ac_rfl)
    · intro hb1
      have ht1 := hb1
      try simp only [decide_eq_true_eq, decide_eq_false_iff_not, Bool.not_eq_true', Bool.not_eq_false', beq_iff_eq, Bool.and_eq_true, Bool.or_eq_true] at ht1
      refine wp_skip (hK9 _ _ ?_)
      refine wp_seq_k fun K13 hK13 => ?_
      refine wp_seq_k fun K14 hK14 => ?_
      refine wp_region_lit ?_
      refine one fun C hC => val hE56 (R.move hE56 rfl) rfl fun a57 hE57 => hC _ _ ?_
      clear hC C
      clear hE56 a56
      refine one fun C hC => val hE57 (R.eql hE57 rfl rfl) rfl fun a58 hE58 => hC _ _ ?_
      clear hC C
      clear hE57 a57
      refine one fun C hC => val hE58 (R.assign hE58 rfl) rfl fun a59 hE59 => hC _ _ ?_
      clear hC C
      clear hE58 a58
      refine wpList_nil (hK14 _ _ ?_)
      clear hK14 K14
      replace hE59 := hE59.keep (E' := [(0, _), (2, _), (5, _), (8, _)]) ⟨rfl, rfl, rfl, rfl, trivial⟩
      refine condR hE59 rfl ?_ ?_
      · intro hb2
        have ht2 := hb2
        try simp only [decide_eq_true_eq, decide_eq_false_iff_not, Bool.not_eq_true', Bool.not_eq_false', beq_iff_eq, Bool.and_eq_true, Bool.or_eq_true] at ht2
        refine wp_exit (exitThen (exitThen (exitOut rfl ?_)))
        refine exitThen (exitIn ?_)
        refine hK6 _ _ ?_
        refine wp_seq_k fun K15 hK15 => ?_
        refine wp_region_lit ?_
        refine one fun C hC => val hE59 (R.move hE59 rfl) rfl fun a60 hE60 => hC _ _ ?_
        clear hC C
        clear hE59 a59
        refine one fun C hC => val hE60 (R.move hE60 rfl) rfl fun a61 hE61 => hC _ _ ?_
        clear hC C
        clear hE60 a60
        refine one fun C hC => callX hE61 (hRef b V.read false none (hO51.le (by omega))) cb_17 rfl (hM51.cast (show (star (mach none b V.read) (star G F0)) = (star (star (mach none b V.read) G) F0) from by ac_rfl)) rfl fun q a62 w52 hE62 hM52 => hC _ _ ?_
        clear hC C hE61 hM51 a61
        replace hM52 := hM52.cast (show _ = (star (mach none b ((V.read.reference false).2)) (star (row 21 1 rune q.1 q.2 ((V.read.reference false).1)) (star G F0))) from by ac_rfl)
        have hO52 := hRo V.read false _ 192 hO51 (by omega)
        have hp52 := hO52.p
        have hn52 := hO52.n
        refine one fun C hC => callM hE62 (say_row b ((V.read.reference false).2) ((V.read.reference false).1) _ _ (hRp _ _) (hO52.le (by omega))) cb_16 rfl ((hM52.cast (show _ = (star (mach none b ((V.read.reference false).2)) (star (row 21 1 rune q.1 q.2 ((V.read.reference false).1)) (star G F0))) from by ac_rfl)).cast (star_assoc _ _ _).symm) rfl fun  a63 w53 hE63 hM53 => hC _ _ ?_
        clear hC C hE62 hM52 a62
        have hO53 := hO52.say (l := ((V.read.reference false).1)) (d := 192) (by omega)
        have hp53 := hO53.p
        have hn53 := hO53.n
        refine wpList_nil (hK15 _ _ ?_)
        clear hK15 K15
        replace hE63 := hE63.keep (E' := [(0, _), (2, _), (5, _), (8, _)]) ⟨rfl, rfl, rfl, rfl, trivial⟩
        refine wp_exit (exitOut rfl ?_)
        refine exitThen (exitOut rfl ?_)
        refine exitThen (exitOut rfl ?_)
        refine exitThen (exitOut rfl ?_)
        refine exitThen (exitIn ?_)
        refine hK0 _ _ ?_
        refine wp_seq_k fun K16 hK16 => ?_
        refine wp_goto (gotoThen (gotoTo ?_))
        have hm := hM53
        have hstep : V.stepR 0 = some (0, (((V.read.reference false).2).say ((V.read.reference false).1))) := by simp [M.stepR, let33, let63, letE, let62, let47, ht1, ht2]
        rw [hstep] at hT
        exact hK 0 (n, (((V.read.reference false).2).say ((V.read.reference false).1))) _ _ ⟨(step_rok hRo hR hstep).resolve_left (by simp), hE63.keep ⟨rfl, trivial⟩, hm, hT⟩ (Nat.lt_succ_self _)
      · intro hb2
        have ht2 := hb2
        try simp only [decide_eq_true_eq, decide_eq_false_iff_not, Bool.not_eq_true', Bool.not_eq_false', beq_iff_eq, Bool.and_eq_true, Bool.or_eq_true] at ht2
        refine wp_skip (hK13 _ _ ?_)
        refine wp_seq_k fun K17 hK17 => ?_
        refine wp_seq_k fun K18 hK18 => ?_
        refine wp_region_lit ?_
        refine one fun C hC => val hE59 (R.move hE59 rfl) rfl fun a60 hE60 => hC _ _ ?_
        clear hC C
        clear hE59 a59
        refine one fun C hC => val hE60 (R.eql hE60 rfl rfl) rfl fun a61 hE61 => hC _ _ ?_
        clear hC C
        clear hE60 a60
        refine one fun C hC => val hE61 (R.move hE61 rfl) rfl fun a62 hE62 => hC _ _ ?_
        clear hC C
        clear hE61 a61
        refine splitE hE62 (x := .tmp 14) rfl ?_ ?_
        · intro hb3
          have ht3 := hb3
          try simp only [decide_eq_true_eq, decide_eq_false_iff_not, Bool.not_eq_true', Bool.not_eq_false', beq_iff_eq, Bool.and_eq_true, Bool.or_eq_true] at ht3
          refine oneOn hE62 rfl rfl hb3 fun C hC => val hE62 (R.move hE62 rfl) rfl fun a63 hE63 => hC _ _ ?_
          clear hC C
          clear hE62 a62
          refine oneOn hE63 rfl rfl hb3 fun C hC => val hE63 (R.nil hE63 rfl) rfl fun a64 hE64 => hC _ _ ?_
          clear hC C
          clear hE63 a63
          refine oneOn hE64 rfl rfl hb3 fun C hC => val hE64 (R.fieldAddr hE64 53 5 5 fb_53_5 rfl) rfl fun a65 hE65 => hC _ _ ?_
          clear hC C
          clear hE64 a64
          obtain ⟨x1, hk1, hV1, hM52⟩ := machAt.open_ hM51
          try dsimp only at hM52 hk1
          clear hM51
          have hZ1 := hO51.ls
          try dsimp only at hZ1
          refine oneOn hE65 rfl rfl hb3 fun C hC => val hE65 (R.load hE65 sc_9 rfl hM52 (by rfl)) rfl fun a66 hE66 => hC _ _ ?_
          clear hC C
          clear hE65 a65
          refine oneOn hE66 rfl rfl hb3 fun C hC => val hE66 (R.sneq hE66 rfl rfl) rfl fun a67 hE67 => hC _ _ ?_
          clear hC C
          clear hE66 a66
          refine one fun C hC => val hE67 (R.pickT hE67 rfl hb3 rfl) rfl fun a68 hE68 => hC _ _ ?_
          clear hC C
          clear hE67 a67
          refine one fun C hC => val hE68 (R.assign hE68 rfl) rfl fun a69 hE69 => hC _ _ ?_
          clear hC C
          clear hE68 a68
          refine wpList_nil (hK18 _ _ ?_)
          clear hK18 K18
          replace hE69 := hE69.keep (E' := [(0, _), (2, _), (5, _), (8, _), (11, _)]) ⟨rfl, rfl, rfl, rfl, rfl, trivial⟩
          refine condR hE69 rfl ?_ ?_
          · intro hb4
            have ht4 := hb4
            try simp only [decide_eq_true_eq, decide_eq_false_iff_not, Bool.not_eq_true', Bool.not_eq_false', beq_iff_eq, Bool.and_eq_true, Bool.or_eq_true] at ht4
            refine wp_exit (exitThen (exitThen (exitOut rfl ?_)))
            refine exitThen (exitOut rfl ?_)
            refine exitThen (exitIn ?_)
            refine hK5 _ _ ?_
            refine wp_seq_k fun K19 hK19 => ?_
            refine wp_seq_k fun K20 hK20 => ?_
            refine wp_seq_k fun K21 hK21 => ?_
            refine wp_region_lit ?_
            refine one fun C hC => val hE69 (R.move hE69 rfl) rfl fun a70 hE70 => hC _ _ ?_
            clear hC C
            clear hE69 a69
            refine one fun C hC => callM hE70 (fits_c b V.read hasR.1 hasR.2 (hO51.le (by omega))) cb_18 rfl (machAt.close (T := 53) (R := 21) (K := 43) (L := 24) (A := 45) (V := none) (b := b) (S := V.read) (F := star G F0) x1 hk1 trivial (by (try dsimp only); (try simp only [List.length_nil, attrsOf_snoc, tagAt_true]); (try simp only [emp_star, star_emp]); exact hM52.cast (by ac_rfl))) rfl fun  a71 w53 hE71 hM53 => hC _ _ ?_
            clear hC C hE70 hM52 a70
            refine one fun C hC => val hE71 (R.not hE71 rfl) rfl fun a72 hE72 => hC _ _ ?_
            clear hC C
            clear hE71 a71
            refine wpList_nil (hK21 _ _ ?_)
            clear hK21 K21
            replace hE72 := hE72.keep (E' := [(0, _), (2, _), (5, _), (8, _), (11, _), (35, _)]) ⟨rfl, rfl, rfl, rfl, rfl, rfl, trivial⟩
            refine condR hE72 rfl ?_ ?_
            · intro hb5
              have ht5 := hb5
              try simp only [decide_eq_true_eq, decide_eq_false_iff_not, Bool.not_eq_true', Bool.not_eq_false', beq_iff_eq, Bool.and_eq_true, Bool.or_eq_true] at ht5
              refine wp_seq_k fun K22 hK22 => ?_
              refine wp_region_lit ?_
              refine one fun C hC => val hE72 (R.move hE72 rfl) rfl fun a73 hE73 => hC _ _ ?_
              clear hC C
              clear hE72 a72
              refine one fun C hC => val hE73 (R.move hE73 rfl) rfl fun a74 hE74 => hC _ _ ?_
              clear hC C
              clear hE73 a73
              refine one fun C hC => lit1 hE74 hM53 4 el_50 rfl rfl rfl  fun b38 a75 w54 hE75 hM54 => hC _ _ ?_
              clear hC C hE74 hM53 a74
              refine one fun C hC => callM hE75 (say_lit b V.read (V.peek 0) _ (hO51.le (by omega))) cb_16 rfl ((hM54.cast (show _ = (star (mach none b V.read) (star (pts b38 21 [.int .i32 (V.peek 0)]) (star G F0))) from by ac_rfl)).cast (star_assoc _ _ _).symm) rfl fun  a76 w55 hE76 hM55 => hC _ _ ?_
              clear hC C hE75 hM54 a75
              have hO52 := hO51.say (l := [V.peek 0]) (d := 199) (by (try simp only [List.length_cons, List.length_nil]); omega)
              have hp52 := hO52.p
              have hn52 := hO52.n
              refine wpList_nil (hK22 _ _ ?_)
              clear hK22 K22
              replace hE76 := hE76.keep (E' := [(0, _), (2, _), (5, _), (8, _), (11, _), (35, _)]) ⟨rfl, rfl, rfl, rfl, rfl, rfl, trivial⟩
              refine wp_goto (gotoThen (gotoThen (gotoBlock (gotoThen (gotoBlock (gotoThen (gotoBlock (gotoThen (gotoBlock (gotoThen (gotoTo ?_)))))))))))
              have hm := hM55
              have hstep : V.stepR 0 = some (0, (V.read.say [V.peek 0])) := by have hk : (V.read.rcdata.data.toList == []) = false := ht4; have hne : ¬ V.read.rcdata.data.toList = [] := (by intro h; rw [h] at hk; cases hk); simp only [M.stepR]; rw [if_neg ht1, if_neg ht2, if_pos ht3, if_neg hne, if_neg (by rw [ht5]; simp), ht3]
              rw [hstep] at hT
              exact hK 0 (n, (V.read.say [V.peek 0])) _ _ ⟨(step_rok hRo hR hstep).resolve_left (by simp), hE76.keep ⟨rfl, trivial⟩, hm, hT⟩ (Nat.lt_succ_self _)
            · intro hb5
              have ht5 := hb5
              try simp only [decide_eq_true_eq, decide_eq_false_iff_not, Bool.not_eq_true', Bool.not_eq_false', beq_iff_eq, Bool.and_eq_true, Bool.or_eq_true] at ht5
              refine wp_skip (hK20 _ _ ?_)
              refine wp_seq_k fun K23 hK23 => ?_
              obtain ⟨x2, hk2, hV2, hM54⟩ := machAt.open_ hM53
              try dsimp only at hM54 hk2
              clear hM53
              have hZ2 := hO51.ls
              try dsimp only at hZ2
              have hroom := fits_room (S := V.read) (by first | exact ht5 | simpa using ht5)
              refine planM [13] [(0, 1), (1, 1), (2, 1), (4, 1), (5, 1), (6, 1), (3, 0), (7, 0), (8, 1), (9, 1), (10, 1), (11, 1), (12, 1), (13, 2)] mix (by kernel_rfl) hM54 (fun c a a2 w hd => hP c a a2 w hd) fun w55 hM55 C0 hC0 => ?_
              clear hM54
              refine pPure rfl hE72 (fun _ => by exact R.move hE72 rfl) rfl fun a73 hE73 => ?_
              clear hE72 a72
              refine pPure rfl hE73 (fun _ => by exact R.nil hE73 rfl) rfl fun a74 hE74 => ?_
              clear hE73 a73
              refine pPure rfl hE74 (fun _ => by exact R.fieldAddr hE74 53 1 1 fb_53_1 rfl) rfl fun a75 hE75 => ?_
              clear hE74 a74
              refine pPure rfl hE75 (fun _ => by exact R.move hE75 rfl) rfl fun a76 hE76 => ?_
              clear hE75 a75
              refine pPure rfl hE76 (fun _ => by exact R.nil hE76 rfl) rfl fun a77 hE77 => ?_
              clear hE76 a76
              refine pPure rfl hE77 (fun _ => by exact R.fieldAddr hE77 53 5 5 fb_53_5 rfl) rfl fun a78 hE78 => ?_
              clear hE77 a77
              refine pTake rfl hE78 (fun _ hW => by exact R.load hE78 sc_3 rfl hW (by rfl)) rfl hM55 fun a79 hE79 => ?_
              clear hE78 a78
              refine pTake rfl hE79 (fun _ hW => by exact R.load hE79 sc_9 rfl hW (by rfl)) rfl hM55 fun a80 hE80 => ?_
              clear hE79 a79
              refine pPure rfl hE80 (fun _ => by exact R.lenString hE80 st_9 rfl) rfl fun a81 hE81 => ?_
              clear hE80 a80
              refine pPure rfl hE81 (fun _ => by exact R.add64 hE81 rfl rfl (by omega) (by omega)) rfl fun a82 hE82 => ?_
              clear hE81 a81
              refine pPure rfl hE82 (fun _ => by exact R.add64 hE82 rfl rfl (by omega) (by omega)) rfl fun a83 hE83 => ?_
              clear hE82 a82
              refine pPure rfl hE83 (fun _ => by exact R.nil hE83 rfl) rfl fun a84 hE84 => ?_
              clear hE83 a83
              refine pPure rfl hE84 (fun _ => by exact R.fieldAddr hE84 53 1 1 fb_53_1 rfl) rfl fun a85 hE85 => ?_
              clear hE84 a84
              refine pOne rfl rfl fun C hC => store hE85 hM55 sc_3 rfl rfl rfl rfl  fun  a86 w56 hE86 hM56 => hC _ _ ?_
              clear hC C hE85 hM55 a85
              try simp only [List.set_cons_zero, List.set_cons_succ, Nat.zero_add] at hM56
              have epos : ((V.read.pos : Int) + (1 + (V.read.rcdata.size : Int))) = ((V.read.pos + (1 + V.read.rcdata.size) : Nat) : Int) := by omega
              rw [epos] at hM56
              refine pNil (hC0 _ _ ?_)
              clear hC0 C0
              refine hK23 _ _ ?_
              clear hK23 K23
              replace hE86 := hE86.keep (E' := [(0, _), (2, _), (5, _), (8, _), (11, _), (35, _)]) ⟨rfl, rfl, rfl, rfl, rfl, rfl, trivial⟩
              refine wp_seq_k fun K24 hK24 => ?_
              refine wp_region_lit ?_
              refine one fun C hC => val hE86 (R.move hE86 rfl) rfl fun a87 hE87 => hC _ _ ?_
              clear hC C
              clear hE86 a86
              have hO52 : M.Ok ({ V.read with pos := V.read.pos + (1 + V.read.rcdata.size) }) 200 := by have h1 := hO51.p; have h2 := hO51.n; have h3 := hO51.s; exact ⟨by (try dsimp only); omega, by (try dsimp only); omega, hO51.r, by (try simp only [M.sz, List.length_append, List.length_cons, List.length_nil] at h3 ⊢); omega⟩
              have hp52 := hO52.p
              have hn52 := hO52.n
              refine one fun C hC => callM hE87 (begin_c b { V.read with pos := V.read.pos + (1 + V.read.rcdata.size) } 2) cb_19 rfl (machAt.close (T := 53) (R := 21) (K := 43) (L := 24) (A := 45) (V := none) (b := b) (S := { V.read with pos := V.read.pos + (1 + V.read.rcdata.size) }) (F := star G F0) x2 hk2 trivial (by (try dsimp only); (try simp only [List.length_nil, attrsOf_snoc, tagAt_true]); (try simp only [emp_star, star_emp]); exact hM56.cast (by ac_rfl))) rfl fun  a88 w57 hE88 hM57 => hC _ _ ?_
              clear hC C hE87 hM56 a87
              have hO53 := hO52.begin (k := 2)
              have hp53 := hO53.p
              have hn53 := hO53.n
              refine wpList_nil (hK24 _ _ ?_)
              clear hK24 K24
              replace hE88 := hE88.keep (E' := [(0, _), (2, _), (5, _), (8, _), (11, _), (35, _)]) ⟨rfl, rfl, rfl, rfl, rfl, rfl, trivial⟩
              refine wp_seq_k fun K25 hK25 => ?_
              refine wp_region_lit ?_
              refine one fun C hC => val hE88 (R.move hE88 rfl) rfl fun a89 hE89 => hC _ _ ?_
              clear hC C
              clear hE88 a88
              refine one fun C hC => val hE89 (R.move hE89 rfl) rfl fun a90 hE90 => hC _ _ ?_
              clear hC C
              clear hE89 a89
              refine one fun C hC => val hE90 (R.nil hE90 rfl) rfl fun a91 hE91 => hC _ _ ?_
              clear hC C
              clear hE90 a90
              refine one fun C hC => val hE91 (R.fieldAddr hE91 53 5 5 fb_53_5 rfl) rfl fun a92 hE92 => hC _ _ ?_
              clear hC C
              clear hE91 a91
              obtain ⟨x3, hk3, hV3, hM58⟩ := machAt.open_ hM57
              try dsimp only at hM58 hk3
              clear hM57
              have hZ3 := hO53.ls
              try dsimp only at hZ3
              refine one fun C hC => val hE92 (R.load hE92 sc_9 rfl hM58 (by rfl)) rfl fun a93 hE93 => hC _ _ ?_
              clear hC C
              clear hE92 a92
              refine one fun C hC => strRunes hE93 hM58 21 sr_9_50 rfl hasc.1 hasc.2 rfl  fun A60 C60 a94 w59 hE94 hM59 => hC _ _ ?_
              clear hC C hE93 hM58 a93
              refine one fun C hC => val hE94 (R.nil hE94 rfl) rfl fun a95 hE95 => hC _ _ ?_
              clear hC C
              clear hE94 a94
              refine one fun C hC => val hE95 (R.fieldAddr hE95 53 7 14 fb_53_7 rfl) rfl fun a96 hE96 => hC _ _ ?_
              clear hC C
              clear hE95 a95
              refine one fun C hC => store hE96 hM59 sc_50 rfl rfl rfl rfl  fun  a97 w60 hE97 hM60 => hC _ _ ?_
              clear hC C hE96 hM59 a96
              try simp only [List.set_cons_zero, List.set_cons_succ, Nat.zero_add] at hM60
              have hM61 := hM60.cut (row 21 1 rune x3.nA x3.nC (({ V.read with pos := V.read.pos + (1 + V.read.rcdata.size) }.begin 2).name))
              clear hM60
              refine wpList_nil (hK25 _ _ ?_)
              clear hK25 K25
              replace hE97 := hE97.keep (E' := [(0, _), (2, _), (5, _), (8, _), (11, _), (35, _)]) ⟨rfl, rfl, rfl, rfl, rfl, rfl, trivial⟩
              refine wp_goto (gotoThen (gotoBlock (gotoThen (gotoBlock (gotoThen (gotoBlock (gotoThen (gotoBlock (gotoThen (gotoTo ?_))))))))))
              have hM62 : Mem β _ (star (mach none b V.read.closing) (star G F0)) := (machAt.close (T := 53) (R := 21) (K := 43) (L := 24) (A := 45) (V := none) (b := b) (S := { ({ V.read with pos := V.read.pos + (1 + V.read.rcdata.size) }.begin 2) with name := bytesInts (({ V.read with pos := V.read.pos + (1 + V.read.rcdata.size) }.begin 2).rcdata) }) (F := star G F0) { x3 with nA := A60, nC := C60 } hk3 trivial (by (try dsimp only); (try simp only [List.length_nil, attrsOf_snoc, tagAt_true]); (try simp only [emp_star, star_emp]); exact hM61.cast (by ac_rfl)))
              clear hM61
              have hm := hM62
              have hstep : V.stepR 0 = some (1, V.read.closing) := by have hk : (V.read.rcdata.data.toList == []) = false := ht4; have hne : ¬ V.read.rcdata.data.toList = [] := (by intro h; rw [h] at hk; cases hk); simp only [M.stepR]; rw [if_neg ht1, if_neg ht2, if_pos ht3, if_neg hne, if_pos ht5]
              rw [hstep] at hT
              exact hK 1 (n, V.read.closing) _ _ ⟨(step_rok hRo hR hstep).resolve_left (by simp), hE97.keep ⟨rfl, trivial⟩, hm, hT⟩ (Nat.lt_succ_self _)
          · intro hb4
            have ht4 := hb4
            try simp only [decide_eq_true_eq, decide_eq_false_iff_not, Bool.not_eq_true', Bool.not_eq_false', beq_iff_eq, Bool.and_eq_true, Bool.or_eq_true] at ht4
            refine wp_skip (hK17 _ _ ?_)
            refine wp_seq_k fun K26 hK26 => ?_
            refine wp_seq_k fun K27 hK27 => ?_
            refine wp_region_lit ?_
            refine one fun C hC => val hE69 (R.move hE69 rfl) rfl fun a70 hE70 => hC _ _ ?_
            clear hC C
            clear hE69 a69
            refine one fun C hC => val hE70 (R.eql hE70 rfl rfl) rfl fun a71 hE71 => hC _ _ ?_
            clear hC C
            clear hE70 a70
            refine one fun C hC => val hE71 (R.assign hE71 rfl) rfl fun a72 hE72 => hC _ _ ?_
            clear hC C
            clear hE71 a71
            refine wpList_nil (hK27 _ _ ?_)
            clear hK27 K27
            replace hE72 := hE72.keep (E' := [(0, _), (2, _), (5, _), (8, _), (11, _), (21, _)]) ⟨rfl, rfl, rfl, rfl, rfl, rfl, trivial⟩
            refine condR hE72 rfl ?_ ?_
            · intro hb5
              have ht5 := hb5
              try simp only [decide_eq_true_eq, decide_eq_false_iff_not, Bool.not_eq_true', Bool.not_eq_false', beq_iff_eq, Bool.and_eq_true, Bool.or_eq_true] at ht5
              refine wp_exit (exitThen (exitThen (exitOut rfl ?_)))
              refine exitThen (exitOut rfl ?_)
              refine exitThen (exitOut rfl ?_)
              refine exitThen (exitIn ?_)
              refine hK4 _ _ ?_
              refine wp_seq_k fun K28 hK28 => ?_
              refine wp_goto (gotoThen (gotoBlock (gotoThen (gotoBlock (gotoThen (gotoBlock (gotoThen (gotoTo ?_))))))))
              have hm := (machAt.close (T := 53) (R := 21) (K := 43) (L := 24) (A := 45) (V := none) (b := b) (S := V.read) (F := star G F0) x1 hk1 trivial (by (try dsimp only); (try simp only [List.length_nil, attrsOf_snoc, tagAt_true]); (try simp only [emp_star, star_emp]); exact hM52.cast (by ac_rfl)))
              have hstep : V.stepR 0 = some (2, V.read) := by simp [M.stepR, let33, let63, letE, let62, let47, ht1, ht2, ht3, ht4, ht5]
              rw [hstep] at hT
              exact hK 2 (n, V.read) _ _ ⟨(step_rok hRo hR hstep).resolve_left (by simp), hE72.keep ⟨rfl, trivial⟩, hm, hT⟩ (Nat.lt_succ_self _)
            · intro hb5
              have ht5 := hb5
              try simp only [decide_eq_true_eq, decide_eq_false_iff_not, Bool.not_eq_true', Bool.not_eq_false', beq_iff_eq, Bool.and_eq_true, Bool.or_eq_true] at ht5
              refine wp_skip (hK26 _ _ ?_)
              refine wp_seq_k fun K29 hK29 => ?_
              refine wp_region_lit ?_
              refine one fun C hC => val hE72 (R.move hE72 rfl) rfl fun a73 hE73 => hC _ _ ?_
              clear hC C
              clear hE72 a72
              refine one fun C hC => val hE73 (R.eql hE73 rfl rfl) rfl fun a74 hE74 => hC _ _ ?_
              clear hC C
              clear hE73 a73
              refine one fun C hC => val hE74 (R.assign hE74 rfl) rfl fun a75 hE75 => hC _ _ ?_
              clear hC C
              clear hE74 a74
              refine wpList_nil (hK29 _ _ ?_)
              clear hK29 K29
              replace hE75 := hE75.keep (E' := [(0, _), (2, _), (5, _), (8, _), (11, _), (21, _), (24, _)]) ⟨rfl, rfl, rfl, rfl, rfl, rfl, rfl, trivial⟩
              refine condR hE75 rfl ?_ ?_
              · intro hb6
                have ht6 := hb6
                try simp only [decide_eq_true_eq, decide_eq_false_iff_not, Bool.not_eq_true', Bool.not_eq_false', beq_iff_eq, Bool.and_eq_true, Bool.or_eq_true] at ht6
                refine wp_exit (exitThen (exitOut rfl ?_))
                refine exitThen (exitOut rfl ?_)
                refine exitThen (exitOut rfl ?_)
                refine exitThen (exitOut rfl ?_)
                refine exitThen (exitIn ?_)
                refine hK3 _ _ ?_
                refine wp_seq_k fun K30 hK30 => ?_
                refine wp_region_lit ?_
                refine one fun C hC => val hE75 (R.move hE75 rfl) rfl fun a76 hE76 => hC _ _ ?_
                clear hC C
                clear hE75 a75
                refine one fun C hC => callM hE76 (fault_c b V.read 21 hO51.f) cb_20 rfl (machAt.close (T := 53) (R := 21) (K := 43) (L := 24) (A := 45) (V := none) (b := b) (S := V.read) (F := star G F0) x1 hk1 trivial (by (try dsimp only); (try simp only [List.length_nil, attrsOf_snoc, tagAt_true]); (try simp only [emp_star, star_emp]); exact hM52.cast (by ac_rfl))) rfl fun  a77 w53 hE77 hM53 => hC _ _ ?_
                clear hC C hE76 hM52 a76
                have hO52 := hO51.fault (x := 21) (d := 199) (by omega)
                have hp52 := hO52.p
                have hn52 := hO52.n
                refine wpList_nil (hK30 _ _ ?_)
                clear hK30 K30
                replace hE77 := hE77.keep (E' := [(0, _), (2, _), (5, _), (8, _), (11, _), (21, _), (24, _)]) ⟨rfl, rfl, rfl, rfl, rfl, rfl, rfl, trivial⟩
                refine wp_seq_k fun K31 hK31 => ?_
                refine wp_region_lit ?_
                refine one fun C hC => val hE77 (R.move hE77 rfl) rfl fun a78 hE78 => hC _ _ ?_
                clear hC C
                clear hE77 a77
                refine one fun C hC => val hE78 (R.nil hE78 rfl) rfl fun a79 hE79 => hC _ _ ?_
                clear hC C
                clear hE78 a78
                refine one fun C hC => val hE79 (R.fieldAddr hE79 53 5 5 fb_53_5 rfl) rfl fun a80 hE80 => hC _ _ ?_
                clear hC C
                clear hE79 a79
                obtain ⟨x2, hk2, hV2, hM54⟩ := machAt.open_ hM53
                try dsimp only at hM54 hk2
                clear hM53
                have hZ2 := hO52.ls
                try dsimp only at hZ2
                refine one fun C hC => val hE80 (R.load hE80 sc_9 rfl hM54 (by rfl)) rfl fun a81 hE81 => hC _ _ ?_
                clear hC C
                clear hE80 a80
                refine one fun C hC => val hE81 (R.sneq hE81 rfl rfl) rfl fun a82 hE82 => hC _ _ ?_
                clear hC C
                clear hE81 a81
                refine wpList_nil (hK31 _ _ ?_)
                clear hK31 K31
                replace hE82 := hE82.keep (E' := [(0, _), (2, _), (5, _), (8, _), (11, _), (21, _), (24, _), (69, _)]) ⟨rfl, rfl, rfl, rfl, rfl, rfl, rfl, rfl, trivial⟩
                refine condR hE82 rfl ?_ ?_
                · intro hb7
                  have ht7 := hb7
                  try simp only [decide_eq_true_eq, decide_eq_false_iff_not, Bool.not_eq_true', Bool.not_eq_false', beq_iff_eq, Bool.and_eq_true, Bool.or_eq_true] at ht7
                  refine wp_region_lit ?_
                  refine one fun C hC => val hE82 (R.assign hE82 rfl) rfl fun a83 hE83 => hC _ _ ?_
                  clear hC C
                  clear hE82 a82
                  replace hE83 := hE83.keep (E' := [(0, _), (2, _), (5, _), (8, _), (11, _), (21, _), (24, _), (69, _)]) ⟨rfl, rfl, rfl, rfl, rfl, rfl, rfl, rfl, trivial⟩
                  refine wpList_nil (hK2 _ _ ?_)
                  refine wp_seq_k fun K32 hK32 => ?_
                  refine wp_region_lit ?_
                  refine one fun C hC => val hE83 (R.move hE83 rfl) rfl fun a84 hE84 => hC _ _ ?_
                  clear hC C
                  clear hE83 a83
                  refine one fun C hC => val hE84 (R.move hE84 rfl) rfl fun a85 hE85 => hC _ _ ?_
                  clear hC C
                  clear hE84 a84
                  refine one fun C hC => lit1 hE85 hM54 4 el_50 rfl rfl rfl  fun b72 a86 w55 hE86 hM55 => hC _ _ ?_
                  clear hC C hE85 hM54 a85
                  refine one fun C hC => callM hE86 (say_lit b (V.read.fault 21) 65533 _ (hO52.le (by omega))) cb_16 rfl ((machAt.close (T := 53) (R := 21) (K := 43) (L := 24) (A := 45) (V := none) (b := b) (S := (V.read.fault 21)) (F := star (pts b72 21 [.int .i32 65533]) (star G F0)) x2 hk2 trivial (by (try dsimp only); (try simp only [List.length_nil, attrsOf_snoc, tagAt_true]); (try simp only [emp_star, star_emp]); exact hM55.cast (by ac_rfl))).cast (star_assoc _ _ _).symm) rfl fun  a87 w56 hE87 hM56 => hC _ _ ?_
                  clear hC C hE86 hM55 a86
                  have hO53 := hO52.say (l := [65533]) (d := 198) (by (try simp only [List.length_cons, List.length_nil]); omega)
                  have hp53 := hO53.p
                  have hn53 := hO53.n
                  refine wpList_nil (hK32 _ _ ?_)
                  clear hK32 K32
                  replace hE87 := hE87.keep (E' := [(0, _), (2, _), (5, _), (8, _), (11, _), (21, _), (24, _), (69, _)]) ⟨rfl, rfl, rfl, rfl, rfl, rfl, rfl, rfl, trivial⟩
                  refine wp_exit (exitIn ?_)
                  refine hK0 _ _ ?_
                  refine wp_seq_k fun K33 hK33 => ?_
                  refine wp_goto (gotoThen (gotoTo ?_))
                  have hm := hM56
                  have hstep : V.stepR 0 = some (0, ((V.read.fault 21).say [65533])) := by exact absurd ht3 ht5
                  rw [hstep] at hT
                  exact hK 0 (n, ((V.read.fault 21).say [65533])) _ _ ⟨(step_rok hRo hR hstep).resolve_left (by simp), hE87.keep ⟨rfl, trivial⟩, hm, hT⟩ (Nat.lt_succ_self _)
                · intro hb7
                  have ht7 := hb7
                  try simp only [decide_eq_true_eq, decide_eq_false_iff_not, Bool.not_eq_true', Bool.not_eq_false', beq_iff_eq, Bool.and_eq_true, Bool.or_eq_true] at ht7
                  refine wp_skip (hK2 _ _ ?_)
                  refine wp_seq_k fun K34 hK34 => ?_
                  refine wp_region_lit ?_
                  refine one fun C hC => val hE82 (R.move hE82 rfl) rfl fun a83 hE83 => hC _ _ ?_
                  clear hC C
                  clear hE82 a82
                  refine one fun C hC => val hE83 (R.move hE83 rfl) rfl fun a84 hE84 => hC _ _ ?_
                  clear hC C
                  clear hE83 a83
                  refine one fun C hC => lit1 hE84 hM54 4 el_50 rfl rfl rfl  fun b72 a85 w55 hE85 hM55 => hC _ _ ?_
                  clear hC C hE84 hM54 a84
                  refine one fun C hC => callM hE85 (say_lit b (V.read.fault 21) (V.peek 0) _ (hO52.le (by omega))) cb_16 rfl ((machAt.close (T := 53) (R := 21) (K := 43) (L := 24) (A := 45) (V := none) (b := b) (S := (V.read.fault 21)) (F := star (pts b72 21 [.int .i32 (V.peek 0)]) (star G F0)) x2 hk2 trivial (by (try dsimp only); (try simp only [List.length_nil, attrsOf_snoc, tagAt_true]); (try simp only [emp_star, star_emp]); exact hM55.cast (by ac_rfl))).cast (star_assoc _ _ _).symm) rfl fun  a86 w56 hE86 hM56 => hC _ _ ?_
                  clear hC C hE85 hM55 a85
                  have hO53 := hO52.say (l := [V.peek 0]) (d := 198) (by (try simp only [List.length_cons, List.length_nil]); omega)
                  have hp53 := hO53.p
                  have hn53 := hO53.n
                  refine wpList_nil (hK34 _ _ ?_)
                  clear hK34 K34
                  replace hE86 := hE86.keep (E' := [(0, _), (2, _), (5, _), (8, _), (11, _), (21, _), (24, _), (69, _)]) ⟨rfl, rfl, rfl, rfl, rfl, rfl, rfl, rfl, trivial⟩
                  refine wp_exit (exitIn ?_)
                  refine hK0 _ _ ?_
                  refine wp_seq_k fun K35 hK35 => ?_
                  refine wp_goto (gotoThen (gotoTo ?_))
                  have hm := hM56
                  have hstep : V.stepR 0 = some (0, ((V.read.fault 21).say [V.peek 0])) := by exact absurd ht3 ht5
                  rw [hstep] at hT
                  exact hK 0 (n, ((V.read.fault 21).say [V.peek 0])) _ _ ⟨(step_rok hRo hR hstep).resolve_left (by simp), hE86.keep ⟨rfl, trivial⟩, hm, hT⟩ (Nat.lt_succ_self _)
              · intro hb6
                have ht6 := hb6
                try simp only [decide_eq_true_eq, decide_eq_false_iff_not, Bool.not_eq_true', Bool.not_eq_false', beq_iff_eq, Bool.and_eq_true, Bool.or_eq_true] at ht6
                refine wp_skip (hK8 _ _ ?_)
                refine wp_exit (exitOut rfl ?_)
                refine exitThen (exitOut rfl ?_)
                refine exitThen (exitOut rfl ?_)
                refine exitThen (exitOut rfl ?_)
                refine exitThen (exitOut rfl ?_)
                refine exitThen (exitIn ?_)
                refine hK2 _ _ ?_
                refine wp_seq_k fun K36 hK36 => ?_
                refine wp_region_lit ?_
                refine one fun C hC => val hE75 (R.move hE75 rfl) rfl fun a76 hE76 => hC _ _ ?_
                clear hC C
                clear hE75 a75
                refine one fun C hC => val hE76 (R.move hE76 rfl) rfl fun a77 hE77 => hC _ _ ?_
                clear hC C
                clear hE76 a76
                refine one fun C hC => lit1 hE77 hM52 4 el_50 rfl rfl rfl  fun b72 a78 w53 hE78 hM53 => hC _ _ ?_
                clear hC C hE77 hM52 a77
                refine one fun C hC => callM hE78 (say_lit b V.read (V.peek 0) _ (hO51.le (by omega))) cb_16 rfl ((machAt.close (T := 53) (R := 21) (K := 43) (L := 24) (A := 45) (V := none) (b := b) (S := V.read) (F := star (pts b72 21 [.int .i32 (V.peek 0)]) (star G F0)) x1 hk1 trivial (by (try dsimp only); (try simp only [List.length_nil, attrsOf_snoc, tagAt_true]); (try simp only [emp_star, star_emp]); exact hM53.cast (by ac_rfl))).cast (star_assoc _ _ _).symm) rfl fun  a79 w54 hE79 hM54 => hC _ _ ?_
                clear hC C hE78 hM53 a78
                have hO52 := hO51.say (l := [V.peek 0]) (d := 199) (by (try simp only [List.length_cons, List.length_nil]); omega)
                have hp52 := hO52.p
                have hn52 := hO52.n
                refine wpList_nil (hK36 _ _ ?_)
                clear hK36 K36
                replace hE79 := hE79.keep (E' := [(0, _), (2, _), (5, _), (8, _), (11, _), (21, _), (24, _)]) ⟨rfl, rfl, rfl, rfl, rfl, rfl, rfl, trivial⟩
                refine wp_exit (exitIn ?_)
                refine hK0 _ _ ?_
                refine wp_seq_k fun K37 hK37 => ?_
                refine wp_goto (gotoThen (gotoTo ?_))
                have hm := hM54
                have hstep : V.stepR 0 = some (0, (V.read.say [V.peek 0])) := by exact absurd ht3 ht5
                rw [hstep] at hT
                exact hK 0 (n, (V.read.say [V.peek 0])) _ _ ⟨(step_rok hRo hR hstep).resolve_left (by simp), hE79.keep ⟨rfl, trivial⟩, hm, hT⟩ (Nat.lt_succ_self _)
        · intro hb3
          have ht3 := hb3
          try simp only [decide_eq_true_eq, decide_eq_false_iff_not, Bool.not_eq_true', Bool.not_eq_false', beq_iff_eq, Bool.and_eq_true, Bool.or_eq_true] at ht3
          refine oneOff hE62 rfl rfl hb3 rfl fun a63 hE63 => ?_
          clear hE62 a62
          refine oneOff hE63 rfl rfl hb3 rfl fun a64 hE64 => ?_
          clear hE63 a63
          refine oneOff hE64 rfl rfl hb3 rfl fun a65 hE65 => ?_
          clear hE64 a64
          refine oneOff hE65 rfl rfl hb3 rfl fun a66 hE66 => ?_
          clear hE65 a65
          refine oneOff hE66 rfl rfl hb3 rfl fun a67 hE67 => ?_
          clear hE66 a66
          refine one fun C hC => val hE67 (R.pickF hE67 rfl hb3 rfl) rfl fun a68 hE68 => hC _ _ ?_
          clear hC C
          clear hE67 a67
          refine one fun C hC => val hE68 (R.assign hE68 rfl) rfl fun a69 hE69 => hC _ _ ?_
          clear hC C
          clear hE68 a68
          refine wpList_nil (hK18 _ _ ?_)
          clear hK18 K18
          replace hE69 := hE69.keep (E' := [(0, _), (2, _), (5, _), (8, _), (11, _)]) ⟨rfl, rfl, rfl, rfl, rfl, trivial⟩
          refine condF hE69 rfl rfl ?_
          refine wp_skip (hK17 _ _ ?_)
          refine wp_seq_k fun K38 hK38 => ?_
          refine wp_seq_k fun K39 hK39 => ?_
          refine wp_region_lit ?_
          refine one fun C hC => val hE69 (R.move hE69 rfl) rfl fun a70 hE70 => hC _ _ ?_
          clear hC C
          clear hE69 a69
          refine one fun C hC => val hE70 (R.eql hE70 rfl rfl) rfl fun a71 hE71 => hC _ _ ?_
          clear hC C
          clear hE70 a70
          refine one fun C hC => val hE71 (R.assign hE71 rfl) rfl fun a72 hE72 => hC _ _ ?_
          clear hC C
          clear hE71 a71
          refine wpList_nil (hK39 _ _ ?_)
          clear hK39 K39
          replace hE72 := hE72.keep (E' := [(0, _), (2, _), (5, _), (8, _), (11, _), (21, _)]) ⟨rfl, rfl, rfl, rfl, rfl, rfl, trivial⟩
          refine condR hE72 rfl ?_ ?_
          · intro hb4
            have ht4 := hb4
            try simp only [decide_eq_true_eq, decide_eq_false_iff_not, Bool.not_eq_true', Bool.not_eq_false', beq_iff_eq, Bool.and_eq_true, Bool.or_eq_true] at ht4
            refine wp_exit (exitThen (exitThen (exitOut rfl ?_)))
            refine exitThen (exitOut rfl ?_)
            refine exitThen (exitOut rfl ?_)
            refine exitThen (exitIn ?_)
            refine hK4 _ _ ?_
            refine wp_seq_k fun K40 hK40 => ?_
            refine wp_goto (gotoThen (gotoBlock (gotoThen (gotoBlock (gotoThen (gotoBlock (gotoThen (gotoTo ?_))))))))
            have hm := hM51
            have hstep : V.stepR 0 = some (2, V.read) := by exact absurd ht4 ht3
            rw [hstep] at hT
            exact hK 2 (n, V.read) _ _ ⟨(step_rok hRo hR hstep).resolve_left (by simp), hE72.keep ⟨rfl, trivial⟩, hm, hT⟩ (Nat.lt_succ_self _)
          · intro hb4
            have ht4 := hb4
            try simp only [decide_eq_true_eq, decide_eq_false_iff_not, Bool.not_eq_true', Bool.not_eq_false', beq_iff_eq, Bool.and_eq_true, Bool.or_eq_true] at ht4
            refine wp_skip (hK38 _ _ ?_)
            refine wp_seq_k fun K41 hK41 => ?_
            refine wp_region_lit ?_
            refine one fun C hC => val hE72 (R.move hE72 rfl) rfl fun a73 hE73 => hC _ _ ?_
            clear hC C
            clear hE72 a72
            refine one fun C hC => val hE73 (R.eql hE73 rfl rfl) rfl fun a74 hE74 => hC _ _ ?_
            clear hC C
            clear hE73 a73
            refine one fun C hC => val hE74 (R.assign hE74 rfl) rfl fun a75 hE75 => hC _ _ ?_
            clear hC C
            clear hE74 a74
            refine wpList_nil (hK41 _ _ ?_)
            clear hK41 K41
            replace hE75 := hE75.keep (E' := [(0, _), (2, _), (5, _), (8, _), (11, _), (21, _), (24, _)]) ⟨rfl, rfl, rfl, rfl, rfl, rfl, rfl, trivial⟩
            refine condR hE75 rfl ?_ ?_
            · intro hb5
              have ht5 := hb5
              try simp only [decide_eq_true_eq, decide_eq_false_iff_not, Bool.not_eq_true', Bool.not_eq_false', beq_iff_eq, Bool.and_eq_true, Bool.or_eq_true] at ht5
              refine wp_exit (exitThen (exitOut rfl ?_))
              refine exitThen (exitOut rfl ?_)
              refine exitThen (exitOut rfl ?_)
              refine exitThen (exitOut rfl ?_)
              refine exitThen (exitIn ?_)
              refine hK3 _ _ ?_
              refine wp_seq_k fun K42 hK42 => ?_
              refine wp_region_lit ?_
              refine one fun C hC => val hE75 (R.move hE75 rfl) rfl fun a76 hE76 => hC _ _ ?_
              clear hC C
              clear hE75 a75
              refine one fun C hC => callM hE76 (fault_c b V.read 21 hO51.f) cb_20 rfl hM51 rfl fun  a77 w52 hE77 hM52 => hC _ _ ?_
              clear hC C hE76 hM51 a76
              have hO52 := hO51.fault (x := 21) (d := 199) (by omega)
              have hp52 := hO52.p
              have hn52 := hO52.n
              refine wpList_nil (hK42 _ _ ?_)
              clear hK42 K42
              replace hE77 := hE77.keep (E' := [(0, _), (2, _), (5, _), (8, _), (11, _), (21, _), (24, _)]) ⟨rfl, rfl, rfl, rfl, rfl, rfl, rfl, trivial⟩
              refine wp_seq_k fun K43 hK43 => ?_
              refine wp_region_lit ?_
              refine one fun C hC => val hE77 (R.move hE77 rfl) rfl fun a78 hE78 => hC _ _ ?_
              clear hC C
              clear hE77 a77
              refine one fun C hC => val hE78 (R.nil hE78 rfl) rfl fun a79 hE79 => hC _ _ ?_
              clear hC C
              clear hE78 a78
              refine one fun C hC => val hE79 (R.fieldAddr hE79 53 5 5 fb_53_5 rfl) rfl fun a80 hE80 => hC _ _ ?_
              clear hC C
              clear hE79 a79
              obtain ⟨x1, hk1, hV1, hM53⟩ := machAt.open_ hM52
              try dsimp only at hM53 hk1
              clear hM52
              have hZ1 := hO52.ls
              try dsimp only at hZ1
              refine one fun C hC => val hE80 (R.load hE80 sc_9 rfl hM53 (by rfl)) rfl fun a81 hE81 => hC _ _ ?_
              clear hC C
              clear hE80 a80
              refine one fun C hC => val hE81 (R.sneq hE81 rfl rfl) rfl fun a82 hE82 => hC _ _ ?_
              clear hC C
              clear hE81 a81
              refine wpList_nil (hK43 _ _ ?_)
              clear hK43 K43
              replace hE82 := hE82.keep (E' := [(0, _), (2, _), (5, _), (8, _), (11, _), (21, _), (24, _), (69, _)]) ⟨rfl, rfl, rfl, rfl, rfl, rfl, rfl, rfl, trivial⟩
              refine condR hE82 rfl ?_ ?_
              · intro hb6
                have ht6 := hb6
                try simp only [decide_eq_true_eq, decide_eq_false_iff_not, Bool.not_eq_true', Bool.not_eq_false', beq_iff_eq, Bool.and_eq_true, Bool.or_eq_true] at ht6
                refine wp_region_lit ?_
                refine one fun C hC => val hE82 (R.assign hE82 rfl) rfl fun a83 hE83 => hC _ _ ?_
                clear hC C
                clear hE82 a82
                replace hE83 := hE83.keep (E' := [(0, _), (2, _), (5, _), (8, _), (11, _), (21, _), (24, _), (69, _)]) ⟨rfl, rfl, rfl, rfl, rfl, rfl, rfl, rfl, trivial⟩
                refine wpList_nil (hK2 _ _ ?_)
                refine wp_seq_k fun K44 hK44 => ?_
                refine wp_region_lit ?_
                refine one fun C hC => val hE83 (R.move hE83 rfl) rfl fun a84 hE84 => hC _ _ ?_
                clear hC C
                clear hE83 a83
                refine one fun C hC => val hE84 (R.move hE84 rfl) rfl fun a85 hE85 => hC _ _ ?_
                clear hC C
                clear hE84 a84
                refine one fun C hC => lit1 hE85 hM53 4 el_50 rfl rfl rfl  fun b72 a86 w54 hE86 hM54 => hC _ _ ?_
                clear hC C hE85 hM53 a85
                refine one fun C hC => callM hE86 (say_lit b (V.read.fault 21) 65533 _ (hO52.le (by omega))) cb_16 rfl ((machAt.close (T := 53) (R := 21) (K := 43) (L := 24) (A := 45) (V := none) (b := b) (S := (V.read.fault 21)) (F := star (pts b72 21 [.int .i32 65533]) (star G F0)) x1 hk1 trivial (by (try dsimp only); (try simp only [List.length_nil, attrsOf_snoc, tagAt_true]); (try simp only [emp_star, star_emp]); exact hM54.cast (by ac_rfl))).cast (star_assoc _ _ _).symm) rfl fun  a87 w55 hE87 hM55 => hC _ _ ?_
                clear hC C hE86 hM54 a86
                have hO53 := hO52.say (l := [65533]) (d := 198) (by (try simp only [List.length_cons, List.length_nil]); omega)
                have hp53 := hO53.p
                have hn53 := hO53.n
                refine wpList_nil (hK44 _ _ ?_)
                clear hK44 K44
                replace hE87 := hE87.keep (E' := [(0, _), (2, _), (5, _), (8, _), (11, _), (21, _), (24, _), (69, _)]) ⟨rfl, rfl, rfl, rfl, rfl, rfl, rfl, rfl, trivial⟩
                refine wp_exit (exitIn ?_)
                refine hK0 _ _ ?_
                refine wp_seq_k fun K45 hK45 => ?_
                refine wp_goto (gotoThen (gotoTo ?_))
                have hm := hM55
                have hstep : V.stepR 0 = some (0, ((V.read.fault 21).say [65533])) := by have hk : (V.read.rcdata.data.toList == []) = false := ht6; have hne : ¬ V.read.rcdata.data.toList = [] := (by intro h; rw [h] at hk; cases hk); simp only [M.stepR]; rw [if_neg ht1, if_neg ht2, if_neg (by omega), if_pos (by omega)]; unfold M.nul; rw [if_neg hne]
                rw [hstep] at hT
                exact hK 0 (n, ((V.read.fault 21).say [65533])) _ _ ⟨(step_rok hRo hR hstep).resolve_left (by simp), hE87.keep ⟨rfl, trivial⟩, hm, hT⟩ (Nat.lt_succ_self _)
              · intro hb6
                have ht6 := hb6
                try simp only [decide_eq_true_eq, decide_eq_false_iff_not, Bool.not_eq_true', Bool.not_eq_false', beq_iff_eq, Bool.and_eq_true, Bool.or_eq_true] at ht6
                refine wp_skip (hK2 _ _ ?_)
                refine wp_seq_k fun K46 hK46 => ?_
                refine wp_region_lit ?_
                refine one fun C hC => val hE82 (R.move hE82 rfl) rfl fun a83 hE83 => hC _ _ ?_
                clear hC C
                clear hE82 a82
                refine one fun C hC => val hE83 (R.move hE83 rfl) rfl fun a84 hE84 => hC _ _ ?_
                clear hC C
                clear hE83 a83
                refine one fun C hC => lit1 hE84 hM53 4 el_50 rfl rfl rfl  fun b72 a85 w54 hE85 hM54 => hC _ _ ?_
                clear hC C hE84 hM53 a84
                refine one fun C hC => callM hE85 (say_lit b (V.read.fault 21) (V.peek 0) _ (hO52.le (by omega))) cb_16 rfl ((machAt.close (T := 53) (R := 21) (K := 43) (L := 24) (A := 45) (V := none) (b := b) (S := (V.read.fault 21)) (F := star (pts b72 21 [.int .i32 (V.peek 0)]) (star G F0)) x1 hk1 trivial (by (try dsimp only); (try simp only [List.length_nil, attrsOf_snoc, tagAt_true]); (try simp only [emp_star, star_emp]); exact hM54.cast (by ac_rfl))).cast (star_assoc _ _ _).symm) rfl fun  a86 w55 hE86 hM55 => hC _ _ ?_
                clear hC C hE85 hM54 a85
                have hO53 := hO52.say (l := [V.peek 0]) (d := 198) (by (try simp only [List.length_cons, List.length_nil]); omega)
                have hp53 := hO53.p
                have hn53 := hO53.n
                refine wpList_nil (hK46 _ _ ?_)
                clear hK46 K46
                replace hE86 := hE86.keep (E' := [(0, _), (2, _), (5, _), (8, _), (11, _), (21, _), (24, _), (69, _)]) ⟨rfl, rfl, rfl, rfl, rfl, rfl, rfl, rfl, trivial⟩
                refine wp_exit (exitIn ?_)
                refine hK0 _ _ ?_
                refine wp_seq_k fun K47 hK47 => ?_
                refine wp_goto (gotoThen (gotoTo ?_))
                have hm := hM55
                have hstep : V.stepR 0 = some (0, ((V.read.fault 21).say [V.peek 0])) := by have hk : V.read.rcdata.data.toList = [] := ht6; simp only [M.stepR]; rw [if_neg ht1, if_neg ht2, if_neg (by omega), if_pos (by omega)]; unfold M.nul; rw [if_pos hk, show V.peek 0 = 0 by omega]
                rw [hstep] at hT
                exact hK 0 (n, ((V.read.fault 21).say [V.peek 0])) _ _ ⟨(step_rok hRo hR hstep).resolve_left (by simp), hE86.keep ⟨rfl, trivial⟩, hm, hT⟩ (Nat.lt_succ_self _)
            · intro hb5
              have ht5 := hb5
              try simp only [decide_eq_true_eq, decide_eq_false_iff_not, Bool.not_eq_true', Bool.not_eq_false', beq_iff_eq, Bool.and_eq_true, Bool.or_eq_true] at ht5
              refine wp_skip (hK8 _ _ ?_)
              refine wp_exit (exitOut rfl ?_)
              refine exitThen (exitOut rfl ?_)
              refine exitThen (exitOut rfl ?_)
              refine exitThen (exitOut rfl ?_)
              refine exitThen (exitOut rfl ?_)
              refine exitThen (exitIn ?_)
              refine hK2 _ _ ?_
              refine wp_seq_k fun K48 hK48 => ?_
              refine wp_region_lit ?_
              refine one fun C hC => val hE75 (R.move hE75 rfl) rfl fun a76 hE76 => hC _ _ ?_
              clear hC C
              clear hE75 a75
              refine one fun C hC => val hE76 (R.move hE76 rfl) rfl fun a77 hE77 => hC _ _ ?_
              clear hC C
              clear hE76 a76
              refine one fun C hC => lit1 hE77 hM51 4 el_50 rfl rfl rfl  fun b72 a78 w52 hE78 hM52 => hC _ _ ?_
              clear hC C hE77 hM51 a77
              refine one fun C hC => callM hE78 (say_lit b V.read (V.peek 0) _ (hO51.le (by omega))) cb_16 rfl ((hM52.cast (show _ = (star (mach none b V.read) (star (pts b72 21 [.int .i32 (V.peek 0)]) (star G F0))) from by ac_rfl)).cast (star_assoc _ _ _).symm) rfl fun  a79 w53 hE79 hM53 => hC _ _ ?_
              clear hC C hE78 hM52 a78
              have hO52 := hO51.say (l := [V.peek 0]) (d := 199) (by (try simp only [List.length_cons, List.length_nil]); omega)
              have hp52 := hO52.p
              have hn52 := hO52.n
              refine wpList_nil (hK48 _ _ ?_)
              clear hK48 K48
              replace hE79 := hE79.keep (E' := [(0, _), (2, _), (5, _), (8, _), (11, _), (21, _), (24, _)]) ⟨rfl, rfl, rfl, rfl, rfl, rfl, rfl, trivial⟩
              refine wp_exit (exitIn ?_)
              refine hK0 _ _ ?_
              refine wp_seq_k fun K49 hK49 => ?_
              refine wp_goto (gotoThen (gotoTo ?_))
              have hm := hM53
              have hstep : V.stepR 0 = some (0, (V.read.say [V.peek 0])) := by simp [M.stepR, let33, let63, letE, let62, let47, ht1, ht2, ht3, ht4, ht5]
              rw [hstep] at hT
              exact hK 0 (n, (V.read.say [V.peek 0])) _ _ ⟨(step_rok hRo hR hstep).resolve_left (by simp), hE79.keep ⟨rfl, trivial⟩, hm, hT⟩ (Nat.lt_succ_self _)
  · rintro l ⟨n, V⟩ a50 w50 hl ⟨hR, hE50, hM50, hT⟩
    dsimp only at hR hE50 hM50 hT
    rcases hR.k with rfl | rfl | rfl | rfl
    · exact absurd rfl hl
    · refine ⟨_, rfl, fun K hK => ?_⟩
      obtain ⟨n, rfl⟩ : ∃ n', n = n' + 1 := ⟨n - 1, by have := hR.f; omega⟩
      unfold M.runN at hT
      have hO50 := hR.o2 (by omega)
      have hp50 := hO50.p
      have hn50 := hO50.n
      have hpk := hO50.peek 0
      have hasV := rc_ascii hR.c
      have hasR := rc_ascii (fwd_fact V.fwd_read hR.c)
      have hasc := hasR
      have hsV := hR.st rfl
      refine wp_seq_k fun K50 hK50 => ?_
      refine wp_skip (hK50 _ _ ?_)
      refine wp_seq_k fun K51 hK51 => ?_
      refine wp_region_lit ?_
      refine one fun C hC => val hE50 (R.move hE50 rfl) rfl fun a51 hE51 => hC _ _ ?_
      clear hC C
      clear hE50 a50
      refine one fun C hC => val hE51 (R.move hE51 rfl) rfl fun a52 hE52 => hC _ _ ?_
      clear hC C
      clear hE51 a51
      refine one fun C hC => callO hE52 (tagName_c G hIn b V (by first | rfl | assumption | ((try dsimp only); (try simp only [M.read_st, M.fault_st, M.say_st, M.begin_st, M.flush_st, M.keep_st, M.leave_st, M.again_st, M.first_st]); first | rfl | assumption)) (hO50.le (by omega))) cb_25 rfl (hM50.cast (show (star (mach none b V) (star G F0)) = (star (star (mach none b V) G) F0) from by ac_rfl)) rfl ?_ ?_
      · intro hy1 w51 hM51
        exact hX _ _ hE52.defers (by rw [← hT]; have hstep : V.stepR 1 = none := (by show (V.tagged.map fun z => (if z.1 then 0 else 9, z.2)) = _; unfold M.tagged; rw [hy1]; rfl); rw [hstep]; rfl) hM51
      intro y1 hy1 a53 w51 hE53 hM51
      refine hC _ _ ?_
      clear hC C hE52 hM50 a52
      replace hM51 := hM51.cast (star_assoc _ _ _)
      refine one fun C hC => callO hE53 (attributes_c G hIn hRef hRo hRp hOdd b y1.2 y1.1 (tag_aok hRo hR hy1).1.zero ((tag_aok hRo hR hy1).1.o.le (by omega))) cb_24 rfl (hM51.cast (show (star (mach none b y1.2) (star G F0)) = (star (star (mach none b y1.2) G) F0) from by ac_rfl)) rfl ?_ ?_
      · intro hy2 w52 hM52
        exact hX _ _ hE53.defers (by rw [← hT]; have hstep : V.stepR 1 = none := (by show (V.tagged.map fun z => (if z.1 then 0 else 9, z.2)) = _; unfold M.tagged; rw [hy1]; show ((M.attributes y1.2 y1.1).map _) = _; rw [hy2]; rfl); rw [hstep]; rfl) hM52
      intro y2 hy2 a54 w52 hE54 hM52
      refine hC _ _ ?_
      clear hC C hE53 hM51 a53
      replace hM52 := hM52.cast (star_assoc _ _ _)
      refine wpList_nil (hK51 _ _ ?_)
      clear hK51 K51
      replace hE54 := hE54.keep (E' := [(0, _), (132, _)]) ⟨rfl, rfl, trivial⟩
      refine condR hE54 rfl ?_ ?_
      · intro hb1
        have ht1 := hb1
        try simp only [decide_eq_true_eq, decide_eq_false_iff_not, Bool.not_eq_true', Bool.not_eq_false', beq_iff_eq, Bool.and_eq_true, Bool.or_eq_true] at ht1
        refine wp_goto (gotoTo ?_)
        have hm := hM52
        have hstep : V.stepR 1 = some (0, y2.2) := by show (V.tagged.map fun z => (if z.1 then 0 else 9, z.2)) = _; unfold M.tagged; rw [hy1]; show ((M.attributes y1.2 y1.1).map _) = _; rw [hy2]; simp [ht1]
        rw [hstep] at hT
        exact hK 0 (n, y2.2) _ _ ⟨(step_rok hRo hR hstep).resolve_left (by simp), hE54.keep ⟨rfl, trivial⟩, hm, hT⟩ (Nat.lt_succ_self _)
      · intro hb1
        have ht1 := hb1
        try simp only [decide_eq_true_eq, decide_eq_false_iff_not, Bool.not_eq_true', Bool.not_eq_false', beq_iff_eq, Bool.and_eq_true, Bool.or_eq_true] at ht1
        refine wp_skip (hN _ _ ?_)
        have hm := hM52
        refine back0 hE54 rfl (Mem.doneO (y2.2) ?_ rfl ?_)
        · rw [← hT]; have hstep : V.stepR 1 = some (9, y2.2) := (by show (V.tagged.map fun z => (if z.1 then 0 else 9, z.2)) = _; unfold M.tagged; rw [hy1]; show ((M.attributes y1.2 y1.1).map _) = _; rw [hy2]; simp [ht1]); rw [hstep]; rfl
        exact hm.cast (by ac_rfl)
    · refine ⟨_, rfl, fun K hK => ?_⟩
      obtain ⟨n, rfl⟩ : ∃ n', n = n' + 1 := ⟨n - 1, by have := hR.f; omega⟩
      unfold M.runN at hT
      have hO50 := hR.o2 (by omega)
      have hp50 := hO50.p
      have hn50 := hO50.n
      have hpk := hO50.peek 0
      have hasV := rc_ascii hR.c
      have hasR := rc_ascii (fwd_fact V.fwd_read hR.c)
      have hasc := hasR
      refine wp_seq_k fun K52 hK52 => ?_
      refine wp_skip (hK52 _ _ ?_)
      refine wp_seq_k fun K53 hK53 => ?_
      refine wp_seq_k fun K54 hK54 => ?_
      refine wp_region_lit ?_
      refine one fun C hC => val hE50 (R.move hE50 rfl) rfl fun a51 hE51 => hC _ _ ?_
      clear hC C
      clear hE50 a50
      refine one fun C hC => callM hE51 (peek_k b V 0 0 (by omega) (by omega) hO50.pos) cb_21 rfl hM50 rfl fun  a52 w51 hE52 hM51 => hC _ _ ?_
      clear hC C hE51 hM50 a51
      refine one fun C hC => val hE52 (R.assign hE52 rfl) rfl fun a53 hE53 => hC _ _ ?_
      clear hC C
      clear hE52 a52
      refine wpList_nil (hK54 _ _ ?_)
      clear hK54 K54
      replace hE53 := hE53.keep (E' := [(0, _), (2, _)]) ⟨rfl, rfl, trivial⟩
      refine wp_block ?_
      refine wp_seq_k fun K55 hK55 => ?_
      refine wp_region_lit ?_
      refine one fun C hC => val hE53 (R.move hE53 rfl) rfl fun a54 hE54 => hC _ _ ?_
      clear hC C
      clear hE53 a53
      refine one fun C hC => val hE54 (R.eql hE54 rfl rfl) rfl fun a55 hE55 => hC _ _ ?_
      clear hC C
      clear hE54 a54
      refine one fun C hC => val hE55 (R.assign hE55 rfl) rfl fun a56 hE56 => hC _ _ ?_
      clear hC C
      clear hE55 a55
      refine wpList_nil (hK55 _ _ ?_)
      clear hK55 K55
      replace hE56 := hE56.keep (E' := [(0, _), (2, _), (78, _)]) ⟨rfl, rfl, rfl, trivial⟩
      refine condR hE56 rfl ?_ ?_
      · intro hb1
        have ht1 := hb1
        try simp only [decide_eq_true_eq, decide_eq_false_iff_not, Bool.not_eq_true', Bool.not_eq_false', beq_iff_eq, Bool.and_eq_true, Bool.or_eq_true] at ht1
        refine wp_seq_k fun K56 hK56 => ?_
        refine wp_region_lit ?_
        refine one fun C hC => val hE56 (R.move hE56 rfl) rfl fun a57 hE57 => hC _ _ ?_
        clear hC C
        clear hE56 a56
        refine one fun C hC => callM hE57 (read_c b V hO50.pos hO50.f) cb_14 rfl hM51 rfl fun  a58 w52 hE58 hM52 => hC _ _ ?_
        clear hC C hE57 hM51 a57
        have hO51 := hO50.read
        have hp51 := hO51.p
        have hn51 := hO51.n
        refine wpList_nil (hK56 _ _ ?_)
        clear hK56 K56
        replace hE58 := hE58.keep (E' := [(0, _), (2, _), (78, _)]) ⟨rfl, rfl, rfl, trivial⟩
        refine wp_goto (gotoBlock (gotoThen (gotoTo ?_)))
        have hm := hM52
        have hstep : V.stepR 2 = some (3, V.read) := by simp [M.stepR, let33, let63, letE, let62, let47, ht1]
        rw [hstep] at hT
        exact hK 3 (n, V.read) _ _ ⟨(step_rok hRo hR hstep).resolve_left (by simp), hE58.keep ⟨rfl, trivial⟩, hm, hT⟩ (Nat.lt_succ_self _)
      · intro hb1
        have ht1 := hb1
        try simp only [decide_eq_true_eq, decide_eq_false_iff_not, Bool.not_eq_true', Bool.not_eq_false', beq_iff_eq, Bool.and_eq_true, Bool.or_eq_true] at ht1
        refine wp_seq_k fun K57 hK57 => ?_
        refine wp_region_lit ?_
        refine one fun C hC => val hE56 (R.move hE56 rfl) rfl fun a57 hE57 => hC _ _ ?_
        clear hC C
        clear hE56 a56
        refine one fun C hC => callF hE57 (letter_c _) cb_22 rfl hM51 rfl  fun  a58 w52 hE58 hM52 => hC _ _ ?_
        clear hC C hE57 hM51 a57
        refine one fun C hC => val hE58 (R.assign hE58 rfl) rfl fun a59 hE59 => hC _ _ ?_
        clear hC C
        clear hE58 a58
        refine wpList_nil (hK57 _ _ ?_)
        clear hK57 K57
        replace hE59 := hE59.keep (E' := [(0, _), (2, _), (78, _), (83, _)]) ⟨rfl, rfl, rfl, rfl, trivial⟩
        refine condR hE59 rfl ?_ ?_
        · intro hb2
          have ht2 := hb2
          try simp only [decide_eq_true_eq, decide_eq_false_iff_not, Bool.not_eq_true', Bool.not_eq_false', beq_iff_eq, Bool.and_eq_true, Bool.or_eq_true] at ht2
          refine wp_seq_k fun K58 hK58 => ?_
          refine wp_region_lit ?_
          refine one fun C hC => val hE59 (R.move hE59 rfl) rfl fun a60 hE60 => hC _ _ ?_
          clear hC C
          clear hE59 a59
          refine one fun C hC => callM hE60 (begin_c b V 1) cb_19 rfl hM52 rfl fun  a61 w53 hE61 hM53 => hC _ _ ?_
          clear hC C hE60 hM52 a60
          have hO51 := hO50.begin (k := 1)
          have hp51 := hO51.p
          have hn51 := hO51.n
          refine wpList_nil (hK58 _ _ ?_)
          clear hK58 K58
          replace hE61 := hE61.keep (E' := [(0, _), (2, _), (78, _), (83, _)]) ⟨rfl, rfl, rfl, rfl, trivial⟩
          refine wp_goto (gotoBlock (gotoThen (gotoTo ?_)))
          have hm := hM53
          have hstep : V.stepR 2 = some (1, (V.begin 1)) := by simp [M.stepR, let33, let63, letE, let62, let47, ht1, ht2]
          rw [hstep] at hT
          exact hK 1 (n, (V.begin 1)) _ _ ⟨(step_rok hRo hR hstep).resolve_left (by simp), hE61.keep ⟨rfl, trivial⟩, hm, hT⟩ (Nat.lt_succ_self _)
        · intro hb2
          have ht2 := hb2
          try simp only [decide_eq_true_eq, decide_eq_false_iff_not, Bool.not_eq_true', Bool.not_eq_false', beq_iff_eq, Bool.and_eq_true, Bool.or_eq_true] at ht2
          refine wp_seq_k fun K59 hK59 => ?_
          refine wp_region_lit ?_
          refine one fun C hC => val hE59 (R.move hE59 rfl) rfl fun a60 hE60 => hC _ _ ?_
          clear hC C
          clear hE59 a59
          refine one fun C hC => val hE60 (R.eql hE60 rfl rfl) rfl fun a61 hE61 => hC _ _ ?_
          clear hC C
          clear hE60 a60
          refine one fun C hC => val hE61 (R.move hE61 rfl) rfl fun a62 hE62 => hC _ _ ?_
          clear hC C
          clear hE61 a61
          refine splitE hE62 (x := .tmp 91) rfl ?_ ?_
          · intro hb3
            have ht3 := hb3
            try simp only [decide_eq_true_eq, decide_eq_false_iff_not, Bool.not_eq_true', Bool.not_eq_false', beq_iff_eq, Bool.and_eq_true, Bool.or_eq_true] at ht3
            refine oneOff hE62 rfl rfl hb3 rfl fun a63 hE63 => ?_
            clear hE62 a62
            refine oneOff hE63 rfl rfl hb3 rfl fun a64 hE64 => ?_
            clear hE63 a63
            refine one fun C hC => val hE64 (R.pickT hE64 rfl hb3 rfl) rfl fun a65 hE65 => hC _ _ ?_
            clear hC C
            clear hE64 a64
            refine one fun C hC => val hE65 (R.assign hE65 rfl) rfl fun a66 hE66 => hC _ _ ?_
            clear hC C
            clear hE65 a65
            refine wpList_nil (hK59 _ _ ?_)
            clear hK59 K59
            replace hE66 := hE66.keep (E' := [(0, _), (2, _), (78, _), (83, _), (88, _)]) ⟨rfl, rfl, rfl, rfl, rfl, trivial⟩
            refine condT hE66 rfl rfl ?_
            refine wp_region_lit ?_
            refine one fun C hC => val hE66 (R.build hE66 rfl (bd_47)) rfl fun a67 hE67 => hC _ _ ?_
            clear hC C
            clear hE66 a66
            refine one fun C hC => val hE67 (R.mkIface hE67 co_47 rfl) rfl fun a68 hE68 => hC _ _ ?_
            clear hC C
            clear hE67 a67
            refine one fun C hC => panics hE68 rfl ?_
            have hm := hM52
            exact hX _ _ hE68.defers (by rw [← hT]; have hstep : V.stepR 2 = none := (by simp [M.stepR, let33, let63, letE, let62, let47, ht1, ht2, ht3]); rw [hstep]; rfl) hm.drop
          · intro hb3
            have ht3 := hb3
            try simp only [decide_eq_true_eq, decide_eq_false_iff_not, Bool.not_eq_true', Bool.not_eq_false', beq_iff_eq, Bool.and_eq_true, Bool.or_eq_true] at ht3
            refine oneOn hE62 rfl rfl hb3 fun C hC => val hE62 (R.move hE62 rfl) rfl fun a63 hE63 => hC _ _ ?_
            clear hC C
            clear hE62 a62
            refine oneOn hE63 rfl rfl hb3 fun C hC => val hE63 (R.eql hE63 rfl rfl) rfl fun a64 hE64 => hC _ _ ?_
            clear hC C
            clear hE63 a63
            refine one fun C hC => val hE64 (R.pickF hE64 rfl hb3 rfl) rfl fun a65 hE65 => hC _ _ ?_
            clear hC C
            clear hE64 a64
            refine one fun C hC => val hE65 (R.assign hE65 rfl) rfl fun a66 hE66 => hC _ _ ?_
            clear hC C
            clear hE65 a65
            refine wpList_nil (hK59 _ _ ?_)
            clear hK59 K59
            replace hE66 := hE66.keep (E' := [(0, _), (2, _), (78, _), (83, _), (88, _)]) ⟨rfl, rfl, rfl, rfl, rfl, trivial⟩
            refine condR hE66 rfl ?_ ?_
            · intro hb4
              have ht4 := hb4
              try simp only [decide_eq_true_eq, decide_eq_false_iff_not, Bool.not_eq_true', Bool.not_eq_false', beq_iff_eq, Bool.and_eq_true, Bool.or_eq_true] at ht4
              refine wp_region_lit ?_
              refine one fun C hC => val hE66 (R.build hE66 rfl (bd_47)) rfl fun a67 hE67 => hC _ _ ?_
              clear hC C
              clear hE66 a66
              refine one fun C hC => val hE67 (R.mkIface hE67 co_47 rfl) rfl fun a68 hE68 => hC _ _ ?_
              clear hC C
              clear hE67 a67
              refine one fun C hC => panics hE68 rfl ?_
              have hm := hM52
              exact hX _ _ hE68.defers (by rw [← hT]; have hstep : V.stepR 2 = none := (by simp [M.stepR, let33, let63, letE, let62, let47, ht1, ht2, ht3, ht4]); rw [hstep]; rfl) hm.drop
            · intro hb4
              have ht4 := hb4
              try simp only [decide_eq_true_eq, decide_eq_false_iff_not, Bool.not_eq_true', Bool.not_eq_false', beq_iff_eq, Bool.and_eq_true, Bool.or_eq_true] at ht4
              refine wp_seq_k fun K60 hK60 => ?_
              refine wp_region_lit ?_
              refine one fun C hC => val hE66 (R.move hE66 rfl) rfl fun a67 hE67 => hC _ _ ?_
              clear hC C
              clear hE66 a66
              refine one fun C hC => val hE67 (R.eql hE67 rfl rfl) rfl fun a68 hE68 => hC _ _ ?_
              clear hC C
              clear hE67 a67
              refine one fun C hC => val hE68 (R.assign hE68 rfl) rfl fun a69 hE69 => hC _ _ ?_
              clear hC C
              clear hE68 a68
              refine wpList_nil (hK60 _ _ ?_)
              clear hK60 K60
              replace hE69 := hE69.keep (E' := [(0, _), (2, _), (78, _), (83, _), (88, _), (97, _)]) ⟨rfl, rfl, rfl, rfl, rfl, rfl, trivial⟩
              refine condR hE69 rfl ?_ ?_
              · intro hb5
                have ht5 := hb5
                try simp only [decide_eq_true_eq, decide_eq_false_iff_not, Bool.not_eq_true', Bool.not_eq_false', beq_iff_eq, Bool.and_eq_true, Bool.or_eq_true] at ht5
                refine wp_seq_k fun K61 hK61 => ?_
                refine wp_region_lit ?_
                refine one fun C hC => val hE69 (R.move hE69 rfl) rfl fun a70 hE70 => hC _ _ ?_
                clear hC C
                clear hE69 a69
                refine one fun C hC => callM hE70 (fault_c b V 7 hO50.f) cb_20 rfl hM52 rfl fun  a71 w53 hE71 hM53 => hC _ _ ?_
                clear hC C hE70 hM52 a70
                have hO51 := hO50.fault (x := 7) (d := 239) (by omega)
                have hp51 := hO51.p
                have hn51 := hO51.n
                refine wpList_nil (hK61 _ _ ?_)
                clear hK61 K61
                replace hE71 := hE71.keep (E' := [(0, _), (2, _), (78, _), (83, _), (88, _), (97, _)]) ⟨rfl, rfl, rfl, rfl, rfl, rfl, trivial⟩
                refine wp_region_lit ?_
                refine one fun C hC => val hE71 (R.move hE71 rfl) rfl fun a72 hE72 => hC _ _ ?_
                clear hC C
                clear hE71 a71
                refine one fun C hC => lit1 hE72 hM53 4 el_50 rfl rfl rfl  fun b103 a73 w54 hE73 hM54 => hC _ _ ?_
                clear hC C hE72 hM53 a72
                refine one fun C hC => callM hE73 (say_lit b (V.fault 7) 60 _ (hO51.le (by omega))) cb_16 rfl ((hM54.cast (show _ = (star (mach none b (V.fault 7)) (star (pts b103 21 [.int .i32 60]) (star G F0))) from by ac_rfl)).cast (star_assoc _ _ _).symm) rfl fun  a74 w55 hE74 hM55 => hC _ _ ?_
                clear hC C hE73 hM54 a73
                have hO52 := hO51.say (l := [60]) (d := 238) (by (try simp only [List.length_cons, List.length_nil]); omega)
                have hp52 := hO52.p
                have hn52 := hO52.n
                replace hE74 := hE74.keep (E' := [(0, _), (2, _), (78, _), (83, _), (88, _), (97, _)]) ⟨rfl, rfl, rfl, rfl, rfl, rfl, trivial⟩
                refine wpList_nil (hK53 _ _ ?_)
                refine wp_seq_k fun K62 hK62 => ?_
                refine wp_goto (gotoThen (gotoTo ?_))
                have hm := hM55
                have hstep : V.stepR 2 = some (0, ((V.fault 7).say [60])) := by simp [M.stepR, let33, let63, letE, let62, let47, ht1, ht2, ht3, ht4, ht5]
                rw [hstep] at hT
                exact hK 0 (n, ((V.fault 7).say [60])) _ _ ⟨(step_rok hRo hR hstep).resolve_left (by simp), hE74.keep ⟨rfl, trivial⟩, hm, hT⟩ (Nat.lt_succ_self _)
              · intro hb5
                have ht5 := hb5
                try simp only [decide_eq_true_eq, decide_eq_false_iff_not, Bool.not_eq_true', Bool.not_eq_false', beq_iff_eq, Bool.and_eq_true, Bool.or_eq_true] at ht5
                refine wp_region_lit ?_
                refine one fun C hC => val hE69 (R.move hE69 rfl) rfl fun a70 hE70 => hC _ _ ?_
                clear hC C
                clear hE69 a69
                refine one fun C hC => callM hE70 (first_c b V 60 ht5 (hO50.le (by omega))) cb_23 rfl hM52 rfl fun  a71 w53 hE71 hM53 => hC _ _ ?_
                clear hC C hE70 hM52 a70
                have hO51 := hO50.first (r := 60) ht5 (d := 236) (by omega)
                have hp51 := hO51.p
                have hn51 := hO51.n
                replace hE71 := hE71.keep (E' := [(0, _), (2, _), (78, _), (83, _), (88, _), (97, _)]) ⟨rfl, rfl, rfl, rfl, rfl, rfl, trivial⟩
                refine wpList_nil (hK53 _ _ ?_)
                refine wp_seq_k fun K63 hK63 => ?_
                refine wp_goto (gotoThen (gotoTo ?_))
                have hm := hM53
                have hstep : V.stepR 2 = some (0, (V.first 60)) := by simp [M.stepR, let33, let63, letE, let62, let47, ht1, ht2, ht3, ht4, ht5]
                rw [hstep] at hT
                exact hK 0 (n, (V.first 60)) _ _ ⟨(step_rok hRo hR hstep).resolve_left (by simp), hE71.keep ⟨rfl, trivial⟩, hm, hT⟩ (Nat.lt_succ_self _)
    · refine ⟨_, rfl, fun K hK => ?_⟩
      obtain ⟨n, rfl⟩ : ∃ n', n = n' + 1 := ⟨n - 1, by have := hR.f; omega⟩
      unfold M.runN at hT
      have hO50 := hR.o2 (by omega)
      have hp50 := hO50.p
      have hn50 := hO50.n
      have hpk := hO50.peek 0
      have hasV := rc_ascii hR.c
      have hasR := rc_ascii (fwd_fact V.fwd_read hR.c)
      have hasc := hasR
      refine wp_seq_k fun K64 hK64 => ?_
      refine wp_skip (hK64 _ _ ?_)
      refine wp_seq_k fun K65 hK65 => ?_
      refine wp_seq_k fun K66 hK66 => ?_
      refine wp_region_lit ?_
      refine one fun C hC => val hE50 (R.move hE50 rfl) rfl fun a51 hE51 => hC _ _ ?_
      clear hC C
      clear hE50 a50
      refine one fun C hC => callM hE51 (peek_k b V 0 0 (by omega) (by omega) hO50.pos) cb_21 rfl hM50 rfl fun  a52 w51 hE52 hM51 => hC _ _ ?_
      clear hC C hE51 hM50 a51
      refine one fun C hC => val hE52 (R.assign hE52 rfl) rfl fun a53 hE53 => hC _ _ ?_
      clear hC C
      clear hE52 a52
      refine wpList_nil (hK66 _ _ ?_)
      clear hK66 K66
      replace hE53 := hE53.keep (E' := [(0, _), (2, _)]) ⟨rfl, rfl, trivial⟩
      refine wp_block ?_
      refine wp_seq_k fun K67 hK67 => ?_
      refine wp_region_lit ?_
      refine one fun C hC => val hE53 (R.move hE53 rfl) rfl fun a54 hE54 => hC _ _ ?_
      clear hC C
      clear hE53 a53
      refine one fun C hC => callF hE54 (letter_c _) cb_22 rfl hM51 rfl  fun  a55 w52 hE55 hM52 => hC _ _ ?_
      clear hC C hE54 hM51 a54
      refine one fun C hC => val hE55 (R.assign hE55 rfl) rfl fun a56 hE56 => hC _ _ ?_
      clear hC C
      clear hE55 a55
      refine wpList_nil (hK67 _ _ ?_)
      clear hK67 K67
      replace hE56 := hE56.keep (E' := [(0, _), (2, _), (109, _)]) ⟨rfl, rfl, rfl, trivial⟩
      refine condR hE56 rfl ?_ ?_
      · intro hb1
        have ht1 := hb1
        try simp only [decide_eq_true_eq, decide_eq_false_iff_not, Bool.not_eq_true', Bool.not_eq_false', beq_iff_eq, Bool.and_eq_true, Bool.or_eq_true] at ht1
        refine wp_seq_k fun K68 hK68 => ?_
        refine wp_region_lit ?_
        refine one fun C hC => val hE56 (R.move hE56 rfl) rfl fun a57 hE57 => hC _ _ ?_
        clear hC C
        clear hE56 a56
        refine one fun C hC => callM hE57 (begin_c b V 2) cb_19 rfl hM52 rfl fun  a58 w53 hE58 hM53 => hC _ _ ?_
        clear hC C hE57 hM52 a57
        have hO51 := hO50.begin (k := 2)
        have hp51 := hO51.p
        have hn51 := hO51.n
        refine wpList_nil (hK68 _ _ ?_)
        clear hK68 K68
        replace hE58 := hE58.keep (E' := [(0, _), (2, _), (109, _)]) ⟨rfl, rfl, rfl, trivial⟩
        refine wp_goto (gotoBlock (gotoThen (gotoTo ?_)))
        have hm := hM53
        have hstep : V.stepR 3 = some (1, (V.begin 2)) := by simp [M.stepR, let33, let63, letE, let62, let47, ht1]
        rw [hstep] at hT
        exact hK 1 (n, (V.begin 2)) _ _ ⟨(step_rok hRo hR hstep).resolve_left (by simp), hE58.keep ⟨rfl, trivial⟩, hm, hT⟩ (Nat.lt_succ_self _)
      · intro hb1
        have ht1 := hb1
        try simp only [decide_eq_true_eq, decide_eq_false_iff_not, Bool.not_eq_true', Bool.not_eq_false', beq_iff_eq, Bool.and_eq_true, Bool.or_eq_true] at ht1
        refine wp_seq_k fun K69 hK69 => ?_
        refine wp_region_lit ?_
        refine one fun C hC => val hE56 (R.move hE56 rfl) rfl fun a57 hE57 => hC _ _ ?_
        clear hC C
        clear hE56 a56
        refine one fun C hC => val hE57 (R.eql hE57 rfl rfl) rfl fun a58 hE58 => hC _ _ ?_
        clear hC C
        clear hE57 a57
        refine one fun C hC => val hE58 (R.assign hE58 rfl) rfl fun a59 hE59 => hC _ _ ?_
        clear hC C
        clear hE58 a58
        refine wpList_nil (hK69 _ _ ?_)
        clear hK69 K69
        replace hE59 := hE59.keep (E' := [(0, _), (2, _), (109, _), (114, _)]) ⟨rfl, rfl, rfl, rfl, trivial⟩
        refine condR hE59 rfl ?_ ?_
        · intro hb2
          have ht2 := hb2
          try simp only [decide_eq_true_eq, decide_eq_false_iff_not, Bool.not_eq_true', Bool.not_eq_false', beq_iff_eq, Bool.and_eq_true, Bool.or_eq_true] at ht2
          refine wp_seq_k fun K70 hK70 => ?_
          refine wp_region_lit ?_
          refine one fun C hC => val hE59 (R.move hE59 rfl) rfl fun a60 hE60 => hC _ _ ?_
          clear hC C
          clear hE59 a59
          refine one fun C hC => callM hE60 (read_c b V hO50.pos hO50.f) cb_14 rfl hM52 rfl fun  a61 w53 hE61 hM53 => hC _ _ ?_
          clear hC C hE60 hM52 a60
          have hO51 := hO50.read
          have hp51 := hO51.p
          have hn51 := hO51.n
          refine wpList_nil (hK70 _ _ ?_)
          clear hK70 K70
          replace hE61 := hE61.keep (E' := [(0, _), (2, _), (109, _), (114, _)]) ⟨rfl, rfl, rfl, rfl, trivial⟩
          refine wp_region_lit ?_
          refine one fun C hC => val hE61 (R.move hE61 rfl) rfl fun a62 hE62 => hC _ _ ?_
          clear hC C
          clear hE61 a61
          refine one fun C hC => callM hE62 (fault_c b V.read 11 hO51.f) cb_20 rfl hM53 rfl fun  a63 w54 hE63 hM54 => hC _ _ ?_
          clear hC C hE62 hM53 a62
          have hO52 := hO51.fault (x := 11) (d := 239) (by omega)
          have hp52 := hO52.p
          have hn52 := hO52.n
          replace hE63 := hE63.keep (E' := [(0, _), (2, _), (109, _), (114, _)]) ⟨rfl, rfl, rfl, rfl, trivial⟩
          refine wpList_nil (hK65 _ _ ?_)
          refine wp_seq_k fun K71 hK71 => ?_
          refine wp_goto (gotoThen (gotoTo ?_))
          have hm := hM54
          have hstep : V.stepR 3 = some (0, (V.read.fault 11)) := by simp [M.stepR, let33, let63, letE, let62, let47, ht1, ht2]
          rw [hstep] at hT
          exact hK 0 (n, (V.read.fault 11)) _ _ ⟨(step_rok hRo hR hstep).resolve_left (by simp), hE63.keep ⟨rfl, trivial⟩, hm, hT⟩ (Nat.lt_succ_self _)
        · intro hb2
          have ht2 := hb2
          try simp only [decide_eq_true_eq, decide_eq_false_iff_not, Bool.not_eq_true', Bool.not_eq_false', beq_iff_eq, Bool.and_eq_true, Bool.or_eq_true] at ht2
          refine wp_seq_k fun K72 hK72 => ?_
          refine wp_region_lit ?_
          refine one fun C hC => val hE59 (R.move hE59 rfl) rfl fun a60 hE60 => hC _ _ ?_
          clear hC C
          clear hE59 a59
          refine one fun C hC => val hE60 (R.eql hE60 rfl rfl) rfl fun a61 hE61 => hC _ _ ?_
          clear hC C
          clear hE60 a60
          refine one fun C hC => val hE61 (R.assign hE61 rfl) rfl fun a62 hE62 => hC _ _ ?_
          clear hC C
          clear hE61 a61
          refine wpList_nil (hK72 _ _ ?_)
          clear hK72 K72
          replace hE62 := hE62.keep (E' := [(0, _), (2, _), (109, _), (114, _), (121, _)]) ⟨rfl, rfl, rfl, rfl, rfl, trivial⟩
          refine condR hE62 rfl ?_ ?_
          · intro hb3
            have ht3 := hb3
            try simp only [decide_eq_true_eq, decide_eq_false_iff_not, Bool.not_eq_true', Bool.not_eq_false', beq_iff_eq, Bool.and_eq_true, Bool.or_eq_true] at ht3
            refine wp_seq_k fun K73 hK73 => ?_
            refine wp_region_lit ?_
            refine one fun C hC => val hE62 (R.move hE62 rfl) rfl fun a63 hE63 => hC _ _ ?_
            clear hC C
            clear hE62 a62
            refine one fun C hC => callM hE63 (fault_c b V 7 hO50.f) cb_20 rfl hM52 rfl fun  a64 w53 hE64 hM53 => hC _ _ ?_
            clear hC C hE63 hM52 a63
            have hO51 := hO50.fault (x := 7) (d := 239) (by omega)
            have hp51 := hO51.p
            have hn51 := hO51.n
            refine wpList_nil (hK73 _ _ ?_)
            clear hK73 K73
            replace hE64 := hE64.keep (E' := [(0, _), (2, _), (109, _), (114, _), (121, _)]) ⟨rfl, rfl, rfl, rfl, rfl, trivial⟩
            refine wp_region_lit ?_
            refine one fun C hC => val hE64 (R.move hE64 rfl) rfl fun a65 hE65 => hC _ _ ?_
            clear hC C
            clear hE64 a64
            refine one fun C hC => lit2 hE65 hM53 4 el_50 rfl rfl rfl rfl rfl  fun b127 a66 w54 hE66 hM54 => hC _ _ ?_
            clear hC C hE65 hM53 a65
            refine one fun C hC => callM hE66 (say_lit2 b (V.fault 7) 60 47 _ (hO51.le (by omega))) cb_16 rfl ((hM54.cast (show _ = (star (mach none b (V.fault 7)) (star (pts b127 21 [.int .i32 60, .int .i32 47]) (star G F0))) from by ac_rfl)).cast (star_assoc _ _ _).symm) rfl fun  a67 w55 hE67 hM55 => hC _ _ ?_
            clear hC C hE66 hM54 a66
            have hO52 := hO51.say (l := [60, 47]) (d := 237) (by (try simp only [List.length_cons, List.length_nil]); omega)
            have hp52 := hO52.p
            have hn52 := hO52.n
            replace hE67 := hE67.keep (E' := [(0, _), (2, _), (109, _), (114, _), (121, _)]) ⟨rfl, rfl, rfl, rfl, rfl, trivial⟩
            refine wpList_nil (hK65 _ _ ?_)
            refine wp_seq_k fun K74 hK74 => ?_
            refine wp_goto (gotoThen (gotoTo ?_))
            have hm := hM55
            have hstep : V.stepR 3 = some (0, ((V.fault 7).say [60, 47])) := by simp [M.stepR, let33, let63, letE, let62, let47, ht1, ht2, ht3]
            rw [hstep] at hT
            exact hK 0 (n, ((V.fault 7).say [60, 47])) _ _ ⟨(step_rok hRo hR hstep).resolve_left (by simp), hE67.keep ⟨rfl, trivial⟩, hm, hT⟩ (Nat.lt_succ_self _)
          · intro hb3
            have ht3 := hb3
            try simp only [decide_eq_true_eq, decide_eq_false_iff_not, Bool.not_eq_true', Bool.not_eq_false', beq_iff_eq, Bool.and_eq_true, Bool.or_eq_true] at ht3
            refine wp_region_lit ?_
            refine one fun C hC => val hE62 (R.build hE62 rfl (bd_47)) rfl fun a63 hE63 => hC _ _ ?_
            clear hC C
            clear hE62 a62
            refine one fun C hC => val hE63 (R.mkIface hE63 co_47 rfl) rfl fun a64 hE64 => hC _ _ ?_
            clear hC C
            clear hE63 a63
            refine one fun C hC => panics hE64 rfl ?_
            have hm := hM52
            exact hX _ _ hE64.defers (by rw [← hT]; have hstep : V.stepR 3 = none := (by simp [M.stepR, let33, let63, letE, let62, let47, ht1, ht2, ht3]); rw [hstep]; rfl) hm.drop

end

end Go.Sv
