import Derived.Test.YthaalghnpfpjmaaDoorProg
import Derived.Test.YthaalghnpfpjmaaDoorRefs
set_option linter.all false
set_option linter.unusedVariables false
set_option linter.unusedSimpArgs false
set_option maxRecDepth 100000
namespace Go.Sv
open Go.RowKit Go.Proofs
attribute [local irreducible] row pts star blk emp fact any attrsOf machAt tagAt

namespace FMach5
theorem cb_14 : callB Tryd.prog 14 = true := by kernel_rfl
theorem cb_20 : callB Tryd.prog 20 = true := by kernel_rfl
theorem cb_36 : callB Tryd.prog 36 = true := by kernel_rfl
theorem cb_38 : callB Tryd.prog 38 = true := by kernel_rfl
theorem cb_39 : callB Tryd.prog 39 = true := by kernel_rfl
theorem cb_82 : callB Tryd.prog 82 = true := by kernel_rfl
theorem el_50 : elemB Tryd.prog 50 21 1 4 = true := by kernel_rfl
theorem fb_53_9 : fieldB Tryd.prog 53 9 16 = true := by kernel_rfl
theorem mix : Tryd.prog.follows .mixedOrders = true := by kernel_rfl
theorem sc_50 : scalarB Tryd.prog 50 = true := by kernel_rfl
end FMach5
open FMach5

theorem M.value_read (S : M) : S.read.value = S.value := by unfold M.read; (repeat' split) <;> rfl
theorem M.value_digitsN : ∀ (k : Nat) (S : M) (b n : Int), (M.digitsN k S b n).2.value = S.value
  | 0, _, _, _ => rfl
  | k + 1, S, b, n => by unfold M.digitsN; split; exact (M.value_digitsN k _ _ _).trans S.value_read; rfl
theorem M.value_semi (S : M) : S.semi.value = S.value := by unfold M.semi; split; exact S.value_read; rfl
theorem M.value_numEnd (n : Int) (S : M) : (M.numEnd n S).2.value = S.value := by unfold M.numEnd; (repeat' split) <;> rfl
theorem M.value_numBody (b : Int) (o : List Int) (S : M) : (M.numBody b o S).2.value = S.value := by
  unfold M.numBody; split
  · rfl
  · rw [M.value_numEnd, M.value_semi]; exact M.value_digitsN _ _ _ _
theorem M.value_numeric (S : M) : S.numeric.2.value = S.value := by
  unfold M.numeric; split
  · rw [M.value_numBody, M.value_read, M.value_read]
  · rw [M.value_numBody, M.value_read]
theorem M.value_wordsN : ∀ (k : Nat) (S : M) (o : List Int), (M.wordsN k S o).2.value = S.value
  | 0, _, _ => rfl
  | k + 1, S, o => by unfold M.wordsN; split; exact (M.value_wordsN k _ _).trans S.value_read; rfl
theorem M.value_reference (S : M) (a : Bool) : (S.reference a).2.value = S.value := by
  unfold M.reference; (repeat' split)
  · exact S.value_numeric
  · refine Eq.trans ?_ (M.value_wordsN (S.inp.length + 1) S [38]); unfold M.unknown; split <;> rfl
  · unfold M.named1; simp only []; (repeat' split) <;> rfl
  · rfl
theorem refcell {β : Base} {w : World} {b : Nat} {S T : M} {v : Option Addr × Nat} {F : HProp} (hv : T.value = S.value) (hM : Mem β w (star (mach (some v) b T) F)) : w.cell? ⟨b, 16, none⟩ = some (.slice v.1 S.value.length v.2) := by
  obtain ⟨x, hk, ⟨e1, e2⟩, hM⟩ := machAt.open_ hM
  rw [e1, e2, hv] at hM
  exact Mem.at hM 16 rfl
section
variable (G : HProp) (hIn : ∀ (n : ByteArray) (k : Int), k = 2 ∨ k = 3 → Fm Tryd.prog 70 [.string n, .int .i64 k] G (.bool (inSet k n)) G)
variable (hRef : ∀ (b : Nat) (S : M) (a : Bool) (V : Option (Option Addr × Nat)), S.Ok 20 → Fx Tryd.prog 17 [.pointer (some ⟨b, 0, none⟩), .bool a] (star (mach V b S) G) (fun q : Option Addr × Nat => .slice q.1 (S.reference a).1.length q.2) (fun q => star (mach V b (S.reference a).2) (star (row 21 1 rune q.1 q.2 (S.reference a).1) G)))
variable (hRo : ∀ (S : M) (a : Bool) (c d : Nat), S.Ok c → d + 8 ≤ c → (S.reference a).2.Ok (d + (S.reference a).1.length)) (hRp : ∀ (S : M) (a : Bool), 0 < (S.reference a).1.length)
variable (hOdd : ∀ r : Int, -1 ≤ r → r ≤ 1114111 → Fn Tryd.prog 82 [.string (ByteArray.mk #[34, 39, 60, 61, 96]), .int .i32 r] (.bool (M.oddB r)))

set_option maxHeartbeats 2000000 in
include hIn hRef hRo hRp in
theorem quoted_c (b : Nat) (S : M) (hs : S.stale = false) (q : Int) (h0q : 0 ≤ q) (hO : S.Ok 40) : Fo Tryd.prog rej 71 [.pointer (some ⟨b, 0, none⟩), .int .i32 q] (star (mach none b S) G) (S.quoted q) (fun y => (.int .i64 y.1)) (fun y => star (mach none b y.2) G) G := by
  intro β w0 F0 hM0
  replace hM0 := hM0.cast (star_assoc _ _ _)
  obtain ⟨x, hk, hV, hM1⟩ := machAt.openT hs hM0
  clear hM0
  rename Mem _ _ _ => hM0
  refine enterO Tryd.func71 (by rfl) 66 rfl rfl fun a0 Q hE0 hQ hN hP hX => ?_
  have hp0 := hO.p
  have hn0 := hO.n
  have hs0 := hO.s
  simp only [M.sz] at hs0
  refine wp_seq_k fun K0 hK0 => ?_
  refine wp_region_lit ?_
  refine one fun C hC => val hE0 (R.assign hE0 rfl) rfl fun a1 hE1 => hC _ _ ?_
  clear hC C
  clear hE0 a0
  refine wpList_nil (hK0 _ _ ?_)
  clear hK0 K0
  replace hE1 := hE1.keep (E' := [(0, _), (1, _), (4, _)]) ⟨rfl, rfl, rfl, trivial⟩
  refine wp_block ?_
  refine loopR (σ := Nat × M) (fun p a w => Env 66 [] a [(0, .pointer (some ⟨b, 0, none⟩)), (1, .int .i32 q)] ∧ Mem β w (star (mach none b p.2) (star G F0)) ∧ (M.quotedN p.1 p.2 q = S.quoted q) ∧ p.2.Ok 20 ∧ p.2.stale = false ∧ p.2.inp.length - p.2.pos < p.1) (fun p => p.1) ((S).inp.length + 2, S) ?_ ?_
  · refine ⟨hE1.keep ⟨rfl, rfl, trivial⟩, (machAt.closeT (T := 53) (R := 21) (K := 43) (L := 24) (A := 45) (V := none) (b := b) (S := S) (F := star G F0) (by first | rfl | assumption | ((try dsimp only); (try simp only [M.read_st, M.fault_st, M.say_st, M.begin_st, M.flush_st, M.keep_st, M.leave_st, M.again_st, M.first_st]); first | rfl | assumption)) x hk trivial (by (try dsimp only); (try simp only [List.length_nil, attrsOf_snoc, tagAt_true]); (try simp only [emp_star, star_emp]); exact hM0.cast (by ac_rfl))), rfl, hO.le (by omega), (by first | rfl | assumption | ((try dsimp only); (try simp only [M.read_st, M.fault_st, M.say_st, M.begin_st, M.flush_st, M.keep_st, M.leave_st, M.again_st, M.first_st]); first | rfl | assumption)), by (try dsimp only); omega⟩
  · clear hE1 hM0 a1
    rintro ⟨n, V⟩ a2 w1 ⟨hE2, hM1, hT, hO1, hsV, hr⟩ K hK
    dsimp only at hE2 hM1 hT hO1 hsV hr
    obtain ⟨n, rfl⟩ : ∃ n', n = n' + 1 := ⟨n - 1, by omega⟩
    have hp1 := hO1.p
    have hn1 := hO1.n
    have hpk := hO1.peek 0
    unfold M.quotedN at hT
    have hK1 : ∀ a w, K a w → K a w := fun _ _ h => h
    refine wp_block ?_
    refine wp_seq_k fun K2 hK2 => ?_
    refine wp_region_lit ?_
    refine one fun C hC => val hE2 (R.move hE2 rfl) rfl fun a3 hE3 => hC _ _ ?_
    clear hC C
    clear hE2 a2
    refine one fun C hC => callM hE3 (read_c b V hO1.pos hO1.f) cb_14 rfl hM1 rfl fun  a4 w2 hE4 hM2 => hC _ _ ?_
    clear hC C hE3 hM1 a3
    have hO2 := hO1.read
    have hp2 := hO2.p
    have hn2 := hO2.n
    refine one fun C hC => val hE4 (R.assign hE4 rfl) rfl fun a5 hE5 => hC _ _ ?_
    clear hC C
    clear hE4 a4
    refine wpList_nil (hK2 _ _ ?_)
    clear hK2 K2
    replace hE5 := hE5.keep (E' := [(0, _), (1, _), (5, _)]) ⟨rfl, rfl, rfl, trivial⟩
    refine wp_block ?_
    refine wp_seq_k fun K3 hK3 => ?_
    refine wp_region_lit ?_
    refine one fun C hC => val hE5 (R.move hE5 rfl) rfl fun a6 hE6 => hC _ _ ?_
    clear hC C
    clear hE5 a5
    refine one fun C hC => val hE6 (R.move hE6 rfl) rfl fun a7 hE7 => hC _ _ ?_
    clear hC C
    clear hE6 a6
    refine one fun C hC => val hE7 (R.eql hE7 rfl rfl) rfl fun a8 hE8 => hC _ _ ?_
    clear hC C
    clear hE7 a7
    refine one fun C hC => val hE8 (R.assign hE8 rfl) rfl fun a9 hE9 => hC _ _ ?_
    clear hC C
    clear hE8 a8
    refine wpList_nil (hK3 _ _ ?_)
    clear hK3 K3
    replace hE9 := hE9.keep (E' := [(0, _), (1, _), (5, _), (19, _)]) ⟨rfl, rfl, rfl, rfl, trivial⟩
    refine condR hE9 rfl ?_ ?_
    · intro hb1
      have ht1 := hb1
      try simp only [decide_eq_true_eq, decide_eq_false_iff_not, Bool.not_eq_true', Bool.not_eq_false', beq_iff_eq, Bool.and_eq_true, Bool.or_eq_true] at ht1
      refine wp_seq_k fun K4 hK4 => ?_
      refine wp_region_lit ?_
      refine one fun C hC => val hE9 (R.move hE9 rfl) rfl fun a10 hE10 => hC _ _ ?_
      clear hC C
      clear hE9 a9
      refine one fun C hC => callM hE10 (read_c b V.read hO2.pos hO2.f) cb_14 rfl hM2 rfl fun  a11 w3 hE11 hM3 => hC _ _ ?_
      clear hC C hE10 hM2 a10
      have hO3 := hO2.read
      have hp3 := hO3.p
      have hn3 := hO3.n
      refine one fun C hC => val hE11 (R.assign hE11 rfl) rfl fun a12 hE12 => hC _ _ ?_
      clear hC C
      clear hE11 a11
      refine wpList_nil (hK4 _ _ ?_)
      clear hK4 K4
      replace hE12 := hE12.keep (E' := [(0, _), (1, _), (5, _), (19, _)]) ⟨rfl, rfl, rfl, rfl, trivial⟩
      refine wp_seq_k fun K5 hK5 => ?_
      refine wp_seq_k fun K6 hK6 => ?_
      refine wp_region_lit ?_
      refine one fun C hC => val hE12 (R.move hE12 rfl) rfl fun a13 hE13 => hC _ _ ?_
      clear hC C
      clear hE12 a12
      refine one fun C hC => val hE13 (R.move hE13 rfl) rfl fun a14 hE14 => hC _ _ ?_
      clear hC C
      clear hE13 a13
      refine one fun C hC => callO hE14 (edge_c G hIn b V.read.read (by first | rfl | assumption | ((try dsimp only); (try simp only [M.read_st, M.fault_st, M.say_st, M.begin_st, M.flush_st, M.keep_st, M.leave_st, M.again_st, M.first_st]); first | rfl | assumption)) (V.read.peek 0) (hO3.le (by omega))) cb_39 rfl (hM3.cast (show (star (mach none b V.read.read) (star G F0)) = (star (star (mach none b V.read.read) G) F0) from by ac_rfl)) rfl ?_ ?_
      · intro hy1 w4 hM4
        exact hX _ _ hE14.defers (by rw [← hT, if_pos ht1, hy1]; rfl) hM4
      intro y1 hy1 a15 w4 hE15 hM4
      refine hC _ _ ?_
      clear hC C hE14 hM3 a14
      replace hM4 := hM4.cast (star_assoc _ _ _)
      have hO4 := hO3.edge hy1 (d := 16) (by omega)
      have hp4 := hO4.p
      have hn4 := hO4.n
      refine one fun C hC => val hE15 (R.assign hE15 rfl) rfl fun a16 hE16 => hC _ _ ?_
      clear hC C
      clear hE15 a15
      refine wpList_nil (hK6 _ _ ?_)
      clear hK6 K6
      replace hE16 := hE16.keep (E' := [(0, _), (1, _), (5, _), (6, _), (19, _)]) ⟨rfl, rfl, rfl, rfl, rfl, trivial⟩
      refine wp_seq_k fun K7 hK7 => ?_
      refine wp_region_lit ?_
      refine one fun C hC => val hE16 (R.move hE16 rfl) rfl fun a17 hE17 => hC _ _ ?_
      clear hC C
      clear hE16 a16
      refine one fun C hC => val hE17 (R.neq hE17 rfl rfl) rfl fun a18 hE18 => hC _ _ ?_
      clear hC C
      clear hE17 a17
      refine wpList_nil (hK7 _ _ ?_)
      clear hK7 K7
      replace hE18 := hE18.keep (E' := [(0, _), (1, _), (5, _), (6, _), (19, _), (29, _)]) ⟨rfl, rfl, rfl, rfl, rfl, rfl, trivial⟩
      refine condR hE18 rfl ?_ ?_
      · intro hb2
        have ht2 := hb2
        try simp only [decide_eq_true_eq, decide_eq_false_iff_not, Bool.not_eq_true', Bool.not_eq_false', beq_iff_eq, Bool.and_eq_true, Bool.or_eq_true] at ht2
        refine wp_seq_k fun K8 hK8 => ?_
        refine wp_region_lit ?_
        refine one fun C hC => val hE18 (R.move hE18 rfl) rfl fun a19 hE19 => hC _ _ ?_
        clear hC C
        clear hE18 a18
        refine one fun C hC => val hE19 (R.assign hE19 rfl) rfl fun a20 hE20 => hC _ _ ?_
        clear hC C
        clear hE19 a19
        refine wpList_nil (hK8 _ _ ?_)
        clear hK8 K8
        replace hE20 := hE20.keep (E' := [(0, _), (1, _), (4, _), (5, _), (6, _), (19, _), (29, _)]) ⟨rfl, rfl, rfl, rfl, rfl, rfl, rfl, trivial⟩
        refine wp_ret (hQ _ _ ?_)
        have hm := hM4
        refine back1 hE20 rfl rfl (Mem.doneO (y1.1, y1.2) ?_ rfl ?_)
        · rw [← hT, if_pos ht1, hy1]; simp [ht1, ht2, hy1]
        exact hm.cast (by ac_rfl)
      · intro hb2
        have ht2 := hb2
        try simp only [decide_eq_true_eq, decide_eq_false_iff_not, Bool.not_eq_true', Bool.not_eq_false', beq_iff_eq, Bool.and_eq_true, Bool.or_eq_true] at ht2
        refine wp_skip (hK5 _ _ ?_)
        refine wp_seq_k fun K9 hK9 => ?_
        refine wp_region_lit ?_
        refine one fun C hC => val hE18 (R.move hE18 rfl) rfl fun a19 hE19 => hC _ _ ?_
        clear hC C
        clear hE18 a18
        refine one fun C hC => callM hE19 (fault_c b y1.2 13 hO4.f) cb_20 rfl hM4 rfl fun  a20 w5 hE20 hM5 => hC _ _ ?_
        clear hC C hE19 hM4 a19
        have hO5 := hO4.fault (x := 13) (d := 15) (by omega)
        have hp5 := hO5.p
        have hn5 := hO5.n
        refine wpList_nil (hK9 _ _ ?_)
        clear hK9 K9
        replace hE20 := hE20.keep (E' := [(0, _), (1, _), (5, _), (6, _), (19, _), (29, _)]) ⟨rfl, rfl, rfl, rfl, rfl, rfl, trivial⟩
        refine wp_seq_k fun K10 hK10 => ?_
        refine wp_region_lit ?_
        refine one fun C hC => val hE20 (R.assign hE20 rfl) rfl fun a21 hE21 => hC _ _ ?_
        clear hC C
        clear hE20 a20
        refine wpList_nil (hK10 _ _ ?_)
        clear hK10 K10
        replace hE21 := hE21.keep (E' := [(0, _), (1, _), (4, _), (5, _), (6, _), (19, _), (29, _)]) ⟨rfl, rfl, rfl, rfl, rfl, rfl, rfl, trivial⟩
        refine wp_ret (hQ _ _ ?_)
        have hm := hM5
        refine back1 hE21 rfl rfl (Mem.doneO (2, (y1.2.fault 13)) ?_ rfl ?_)
        · rw [← hT, if_pos ht1, hy1]; simp [ht1, ht2, hy1]
        exact hm.cast (by ac_rfl)
    · intro hb1
      have ht1 := hb1
      try simp only [decide_eq_true_eq, decide_eq_false_iff_not, Bool.not_eq_true', Bool.not_eq_false', beq_iff_eq, Bool.and_eq_true, Bool.or_eq_true] at ht1
      refine wp_seq_k fun K11 hK11 => ?_
      refine wp_region_lit ?_
      refine one fun C hC => val hE9 (R.move hE9 rfl) rfl fun a10 hE10 => hC _ _ ?_
      clear hC C
      clear hE9 a9
      refine one fun C hC => val hE10 (R.eql hE10 rfl rfl) rfl fun a11 hE11 => hC _ _ ?_
      clear hC C
      clear hE10 a10
      refine one fun C hC => val hE11 (R.assign hE11 rfl) rfl fun a12 hE12 => hC _ _ ?_
      clear hC C
      clear hE11 a11
      refine wpList_nil (hK11 _ _ ?_)
      clear hK11 K11
      replace hE12 := hE12.keep (E' := [(0, _), (1, _), (5, _), (19, _), (33, _)]) ⟨rfl, rfl, rfl, rfl, rfl, trivial⟩
      refine condR hE12 rfl ?_ ?_
      · intro hb2
        have ht2 := hb2
        try simp only [decide_eq_true_eq, decide_eq_false_iff_not, Bool.not_eq_true', Bool.not_eq_false', beq_iff_eq, Bool.and_eq_true, Bool.or_eq_true] at ht2
        obtain ⟨x1, hk1, hV1, hM3⟩ := machAt.openT (by first | rfl | assumption | ((try dsimp only); (try simp only [M.read_st, M.fault_st, M.say_st, M.begin_st, M.flush_st, M.keep_st, M.leave_st, M.again_st, M.first_st]); first | rfl | assumption)) hM2
        try dsimp only at hM3 hk1
        clear hM2
        have hZ1 := hO2.ls
        try dsimp only at hZ1
        refine planR [7, 10] [(0, 1), (1, 1), (2, 1), (3, 1), (4, 0), (5, 1), (6, 2), (7, 2), (8, 1), (9, 1), (10, 2)] mix (by kernel_rfl) hM3 (fun w2 => w2.cell? ⟨b, 16, none⟩ = some (.slice x1.vA V.read.value.length x1.vC)) (fun c a a2 w hd => hP c a a2 w hd) fun w4 hM4 C0 hC0 => ?_
        clear hM3
        refine pPure rfl hE12 (fun _ => by exact R.move hE12 rfl) rfl fun a13 hE13 => ?_
        clear hE12 a12
        refine pPure rfl hE13 (fun _ => by exact R.move hE13 rfl) rfl fun a14 hE14 => ?_
        clear hE13 a13
        refine pPure rfl hE14 (fun _ => by exact R.nil hE14 rfl) rfl fun a15 hE15 => ?_
        clear hE14 a14
        refine pPure rfl hE15 (fun _ => by exact R.fieldAddr hE15 53 9 16 fb_53_9 rfl) rfl fun a16 hE16 => ?_
        clear hE15 a15
        have hcell := hM4.at (b := b) 16 rfl
        refine pTake rfl hE16 (fun _ hW => by exact R.loadCell hE16 sc_50 rfl hW) rfl hcell fun a17 hE17 => ?_
        clear hE16 a16 hcell
        refine pPure rfl hE17 (fun _ => by exact R.move hE17 rfl) rfl fun a18 hE18 => ?_
        clear hE17 a17
        have hcl : Mem β w4 (star (mach (some (x1.vA, x1.vC)) b V.read) (star G F0)) := machAt.closeT (by first | rfl | assumption | ((try dsimp only); (try simp only [M.read_st, M.fault_st, M.say_st, M.begin_st, M.flush_st, M.keep_st, M.leave_st, M.again_st, M.first_st]); first | rfl | assumption)) x1 hk1 ⟨rfl, rfl⟩ (by (try dsimp only); exact hM4.cast (by ac_rfl))
        refine pOneS rfl fun C hC => callX hE18 (hRef b V.read true (some (x1.vA, x1.vC)) (hO2.le (by omega))) cb_38 rfl (hcl.cast (star_assoc _ _ _).symm) rfl fun q a19 w5 hE19 hM5 => hC _ _ ?_ ?_
        · exact refcell (M.value_reference _ _) (hM5.cast (by ac_rfl) : Mem β w5 (star (mach (some (x1.vA, x1.vC)) b (V.read.reference true).2) (star (row 21 1 rune q.1 q.2 (V.read.reference true).1) (star G F0))))
        clear hC C hcl hE18 hM4 a18
        obtain ⟨x2, hk2, hV2, hM6⟩ := machAt.open_ (hM5.cast (by ac_rfl) : Mem β w5 (star (mach (some (x1.vA, x1.vC)) b (V.read.reference true).2) (star (row 21 1 rune q.1 q.2 (V.read.reference true).1) (star G F0))))
        rw [hV2.1, hV2.2] at hM6
        dsimp only at hM6
        have hval := M.value_reference V.read true
        have hlen := hO2.ls
        have hrl := (hRo V.read true _ 12 hO2 (by omega)).ls
        have hrs := (hRo V.read true _ 12 hO2 (by omega)).vl
        have hrp := hRp V.read true
        refine pOne rfl rfl fun C hC => appendR (xs := (V.read.reference true).2.value) (ys := (V.read.reference true).1) hE19 el_50 rfl rfl hM6 (by rw [hval]) rfl hrp (by unfold maxLen; omega) (by omega) rfl fun A7 C7 a20 w7 hE20 hM7 => hC _ _ ?_
        clear hC C hE19 hM6 a19
        refine pPure rfl hE20 (fun _ => by exact R.nil hE20 rfl) rfl fun a21 hE21 => ?_
        clear hE20 a20
        refine pPure rfl hE21 (fun _ => by exact R.fieldAddr hE21 53 9 16 fb_53_9 rfl) rfl fun a22 hE22 => ?_
        clear hE21 a21
        refine pOne rfl rfl fun C hC => store hE22 hM7 sc_50 rfl rfl rfl rfl fun a23 w8 hE23 hM8 => hC _ _ ?_
        clear hC C hE22 hM7 a22
        simp only [List.set_cons_zero, List.set_cons_succ, Nat.zero_add] at hM8
        replace hM8 := hM8.cut (row 21 1 rune q.1 q.2 (V.read.reference true).1)
        have hM9 : Mem β w8 (star (mach none b ((V.read.reference true).2.put (V.read.reference true).1)) (star G F0)) := machAt.close { x2 with vA := A7, vC := C7 } hk2 trivial (by dsimp only [M.put]; exact hM8.cast (by ac_rfl))
        clear hM8
        skip
        have hO3 : ((V.read.reference true).2.put (V.read.reference true).1).Ok 12 := (hRo _ _ _ 12 hO2 (by omega)).put (by omega)
        have hp3 := hO3.p
        have hn3 := hO3.n
        clear hval hlen hrl hrs hrp
        refine pNil (hC0 _ _ ?_)
        clear hC0 C0
        replace hE23 := hE23.keep (E' := [(0, _), (1, _), (5, _), (19, _), (33, _)]) ⟨rfl, rfl, rfl, rfl, rfl, trivial⟩
        refine hK1 _ _ ?_
        have hm := hM9
        rw [if_neg (by first | exact ht1 | simp [ht1]), if_pos ht2] at hT
        have h0 : V.peek 0 ≠ -1 := by omega
        have hR := hO1.read_more h0
        have ei := M.read_inp V
        have er := M.read_pos h0
        have el := peek_lt h0
        have hF : M.Fwd V.read ((V.read.reference true).2.put (V.read.reference true).1) := M.Fwd.trans (M.fwd_reference _ _) (M.fwd_put _ _)
        refine hK (n, ((V.read.reference true).2.put (V.read.reference true).1)) _ _ ⟨hE23.keep ⟨rfl, rfl, trivial⟩, hm, hT, (hRo _ _ 83 20 hR (by omega)).put (d := 20) (by omega), by rw [hF.s]; exact V.read_st.trans hsV, by (show ((V.read.reference true).2.put (V.read.reference true).1).inp.length - ((V.read.reference true).2.put (V.read.reference true).1).pos < n); rw [hF.i, ei]; have := hF.p; omega⟩ (Nat.lt_succ_self _)
      · intro hb2
        have ht2 := hb2
        try simp only [decide_eq_true_eq, decide_eq_false_iff_not, Bool.not_eq_true', Bool.not_eq_false', beq_iff_eq, Bool.and_eq_true, Bool.or_eq_true] at ht2
        refine wp_seq_k fun K12 hK12 => ?_
        refine wp_region_lit ?_
        refine one fun C hC => val hE12 (R.move hE12 rfl) rfl fun a13 hE13 => hC _ _ ?_
        clear hC C
        clear hE12 a12
        refine one fun C hC => val hE13 (R.eql hE13 rfl rfl) rfl fun a14 hE14 => hC _ _ ?_
        clear hC C
        clear hE13 a13
        refine one fun C hC => val hE14 (R.assign hE14 rfl) rfl fun a15 hE15 => hC _ _ ?_
        clear hC C
        clear hE14 a14
        refine wpList_nil (hK12 _ _ ?_)
        clear hK12 K12
        replace hE15 := hE15.keep (E' := [(0, _), (1, _), (5, _), (19, _), (33, _), (46, _)]) ⟨rfl, rfl, rfl, rfl, rfl, rfl, trivial⟩
        refine condR hE15 rfl ?_ ?_
        · intro hb3
          have ht3 := hb3
          try simp only [decide_eq_true_eq, decide_eq_false_iff_not, Bool.not_eq_true', Bool.not_eq_false', beq_iff_eq, Bool.and_eq_true, Bool.or_eq_true] at ht3
          refine wp_seq_k fun K13 hK13 => ?_
          refine wp_region_lit ?_
          refine one fun C hC => val hE15 (R.move hE15 rfl) rfl fun a16 hE16 => hC _ _ ?_
          clear hC C
          clear hE15 a15
          refine one fun C hC => callM hE16 (fault_c b V.read 21 hO2.f) cb_20 rfl hM2 rfl fun  a17 w3 hE17 hM3 => hC _ _ ?_
          clear hC C hE16 hM2 a16
          have hO3 := hO2.fault (x := 21) (d := 19) (by omega)
          have hp3 := hO3.p
          have hn3 := hO3.n
          refine wpList_nil (hK13 _ _ ?_)
          clear hK13 K13
          replace hE17 := hE17.keep (E' := [(0, _), (1, _), (5, _), (19, _), (33, _), (46, _)]) ⟨rfl, rfl, rfl, rfl, rfl, rfl, trivial⟩
          refine wp_region_lit ?_
          refine one fun C hC => val hE17 (R.move hE17 rfl) rfl fun a18 hE18 => hC _ _ ?_
          clear hC C
          clear hE17 a17
          refine one fun C hC => val hE18 (R.move hE18 rfl) rfl fun a19 hE19 => hC _ _ ?_
          clear hC C
          clear hE18 a18
          refine one fun C hC => val hE19 (R.nil hE19 rfl) rfl fun a20 hE20 => hC _ _ ?_
          clear hC C
          clear hE19 a19
          refine one fun C hC => val hE20 (R.fieldAddr hE20 53 9 16 fb_53_9 rfl) rfl fun a21 hE21 => hC _ _ ?_
          clear hC C
          clear hE20 a20
          obtain ⟨x1, hk1, hV1, hM4⟩ := machAt.openT (by first | rfl | assumption | ((try dsimp only); (try simp only [M.read_st, M.fault_st, M.say_st, M.begin_st, M.flush_st, M.keep_st, M.leave_st, M.again_st, M.first_st]); first | rfl | assumption)) hM3
          try dsimp only at hM4 hk1
          clear hM3
          have hZ1 := hO3.ls
          try dsimp only at hZ1
          refine one fun C hC => val hE21 (R.load hE21 sc_50 rfl hM4 (by rfl)) rfl fun a22 hE22 => hC _ _ ?_
          clear hC C
          clear hE21 a21
          refine one fun C hC => lit1 hE22 hM4 4 el_50 rfl rfl rfl  fun b56 a23 w5 hE23 hM5 => hC _ _ ?_
          clear hC C hE22 hM4 a22
          refine one fun C hC => appendL (xs := (V.read.fault 21).value) hE23 [65533] el_50 rfl rfl hM5 rfl rfl rfl (by unfold maxLen; first | omega | (simp; done) | (simp; omega)) (by first | omega | (simp; done) | (simp; omega)) rfl fun A57 C57 a24 w6 hE24 hM6 => hC _ _ ?_
          clear hC C hE23 hM5 a23
          refine one fun C hC => val hE24 (R.nil hE24 rfl) rfl fun a25 hE25 => hC _ _ ?_
          clear hC C
          clear hE24 a24
          refine one fun C hC => val hE25 (R.fieldAddr hE25 53 9 16 fb_53_9 rfl) rfl fun a26 hE26 => hC _ _ ?_
          clear hC C
          clear hE25 a25
          refine one fun C hC => store hE26 hM6 sc_50 rfl rfl rfl rfl  fun  a27 w7 hE27 hM7 => hC _ _ ?_
          clear hC C hE26 hM6 a26
          try simp only [List.set_cons_zero, List.set_cons_succ, Nat.zero_add] at hM7
          replace hE27 := hE27.keep (E' := [(0, _), (1, _), (5, _), (19, _), (33, _), (46, _)]) ⟨rfl, rfl, rfl, rfl, rfl, rfl, trivial⟩
          refine wpList_nil (hK1 _ _ ?_)
          have hm := (machAt.closeT (T := 53) (R := 21) (K := 43) (L := 24) (A := 45) (V := none) (b := b) (S := { (V.read.fault 21) with value := ((V.read.fault 21).value) ++ [65533] }) (F := star G F0) (by first | rfl | assumption | ((try dsimp only); (try simp only [M.read_st, M.fault_st, M.say_st, M.begin_st, M.flush_st, M.keep_st, M.leave_st, M.again_st, M.first_st]); first | rfl | assumption)) { x1 with vA := A57, vC := C57 } hk1 trivial (by (try dsimp only); (try simp only [List.length_nil, attrsOf_snoc, tagAt_true]); (try simp only [emp_star, star_emp]); exact hM7.cast (by ac_rfl)))
          rw [if_neg (by first | exact ht1 | simp [ht1]), if_neg (by first | exact ht2 | simp [ht2]), if_pos ht3] at hT
          have h0 : V.peek 0 ≠ -1 := by omega
          have hR := hO1.read_more h0
          have ei := M.read_inp V
          have er := M.read_pos h0
          have el := peek_lt h0
          have hF : M.Fwd V.read { (V.read.fault 21) with value := ((V.read.fault 21).value) ++ [65533] } := M.Fwd.trans (M.fwd_fault _ _) (M.fwd_put _ _)
          refine hK (n, { (V.read.fault 21) with value := ((V.read.fault 21).value) ++ [65533] }) _ _ ⟨hE27.keep ⟨rfl, rfl, trivial⟩, hm, hT, (hR.fault (d := 40) (by omega)).put (d := 20) (by simp), by rw [hF.s]; exact V.read_st.trans hsV, by (show { (V.read.fault 21) with value := ((V.read.fault 21).value) ++ [65533] }.inp.length - { (V.read.fault 21) with value := ((V.read.fault 21).value) ++ [65533] }.pos < n); rw [hF.i, ei]; have := hF.p; omega⟩ (Nat.lt_succ_self _)
        · intro hb3
          have ht3 := hb3
          try simp only [decide_eq_true_eq, decide_eq_false_iff_not, Bool.not_eq_true', Bool.not_eq_false', beq_iff_eq, Bool.and_eq_true, Bool.or_eq_true] at ht3
          refine wp_seq_k fun K14 hK14 => ?_
          refine wp_region_lit ?_
          refine one fun C hC => val hE15 (R.move hE15 rfl) rfl fun a16 hE16 => hC _ _ ?_
          clear hC C
          clear hE15 a15
          refine one fun C hC => val hE16 (R.eql hE16 rfl rfl) rfl fun a17 hE17 => hC _ _ ?_
          clear hC C
          clear hE16 a16
          refine one fun C hC => val hE17 (R.assign hE17 rfl) rfl fun a18 hE18 => hC _ _ ?_
          clear hC C
          clear hE17 a17
          refine wpList_nil (hK14 _ _ ?_)
          clear hK14 K14
          replace hE18 := hE18.keep (E' := [(0, _), (1, _), (5, _), (19, _), (33, _), (46, _), (60, _)]) ⟨rfl, rfl, rfl, rfl, rfl, rfl, rfl, trivial⟩
          refine condR hE18 rfl ?_ ?_
          · intro hb4
            have ht4 := hb4
            try simp only [decide_eq_true_eq, decide_eq_false_iff_not, Bool.not_eq_true', Bool.not_eq_false', beq_iff_eq, Bool.and_eq_true, Bool.or_eq_true] at ht4
            refine wp_seq_k fun K15 hK15 => ?_
            refine wp_region_lit ?_
            refine one fun C hC => val hE18 (R.move hE18 rfl) rfl fun a19 hE19 => hC _ _ ?_
            clear hC C
            clear hE18 a18
            refine one fun C hC => val hE19 (R.move hE19 rfl) rfl fun a20 hE20 => hC _ _ ?_
            clear hC C
            clear hE19 a19
            refine one fun C hC => callO hE20 (edge_c G hIn b V.read (by first | rfl | assumption | ((try dsimp only); (try simp only [M.read_st, M.fault_st, M.say_st, M.begin_st, M.flush_st, M.keep_st, M.leave_st, M.again_st, M.first_st]); first | rfl | assumption)) (V.peek 0) (hO2.le (by omega))) cb_39 rfl (hM2.cast (show (star (mach none b V.read) (star G F0)) = (star (star (mach none b V.read) G) F0) from by ac_rfl)) rfl ?_ ?_
            · intro hy1 w3 hM3
              exact hX _ _ hE20.defers (by rw [← hT, if_neg (by first | exact ht1 | simp [ht1]), if_neg (by first | exact ht2 | simp [ht2]), if_neg (by first | exact ht3 | simp [ht3]), if_pos ht4]; have h4 := ht4; rw [h4] at hy1; exact hy1) hM3
            intro y1 hy1 a21 w3 hE21 hM3
            refine hC _ _ ?_
            clear hC C hE20 hM2 a20
            replace hM3 := hM3.cast (star_assoc _ _ _)
            have hO3 := hO2.edge hy1 (d := 16) (by omega)
            have hp3 := hO3.p
            have hn3 := hO3.n
            refine one fun C hC => val hE21 (R.assign hE21 rfl) rfl fun a22 hE22 => hC _ _ ?_
            clear hC C
            clear hE21 a21
            refine wpList_nil (hK15 _ _ ?_)
            clear hK15 K15
            replace hE22 := hE22.keep (E' := [(0, _), (1, _), (4, _), (5, _), (19, _), (33, _), (46, _), (60, _)]) ⟨rfl, rfl, rfl, rfl, rfl, rfl, rfl, rfl, trivial⟩
            refine wp_ret (hQ _ _ ?_)
            have hm := hM3
            refine back1 hE22 rfl rfl (Mem.doneO (y1.1, y1.2) ?_ rfl ?_)
            · rw [← hT, if_neg (by first | exact ht1 | simp [ht1]), if_neg (by first | exact ht2 | simp [ht2]), if_neg (by first | exact ht3 | simp [ht3]), if_pos ht4]; have h4 := ht4; rw [h4] at hy1; exact hy1
            exact hm.cast (by ac_rfl)
          · intro hb4
            have ht4 := hb4
            try simp only [decide_eq_true_eq, decide_eq_false_iff_not, Bool.not_eq_true', Bool.not_eq_false', beq_iff_eq, Bool.and_eq_true, Bool.or_eq_true] at ht4
            refine wp_region_lit ?_
            refine one fun C hC => val hE18 (R.move hE18 rfl) rfl fun a19 hE19 => hC _ _ ?_
            clear hC C
            clear hE18 a18
            refine one fun C hC => val hE19 (R.move hE19 rfl) rfl fun a20 hE20 => hC _ _ ?_
            clear hC C
            clear hE19 a19
            refine one fun C hC => val hE20 (R.nil hE20 rfl) rfl fun a21 hE21 => hC _ _ ?_
            clear hC C
            clear hE20 a20
            refine one fun C hC => val hE21 (R.fieldAddr hE21 53 9 16 fb_53_9 rfl) rfl fun a22 hE22 => hC _ _ ?_
            clear hC C
            clear hE21 a21
            obtain ⟨x1, hk1, hV1, hM3⟩ := machAt.openT (by first | rfl | assumption | ((try dsimp only); (try simp only [M.read_st, M.fault_st, M.say_st, M.begin_st, M.flush_st, M.keep_st, M.leave_st, M.again_st, M.first_st]); first | rfl | assumption)) hM2
            try dsimp only at hM3 hk1
            clear hM2
            have hZ1 := hO2.ls
            try dsimp only at hZ1
            refine one fun C hC => val hE22 (R.load hE22 sc_50 rfl hM3 (by rfl)) rfl fun a23 hE23 => hC _ _ ?_
            clear hC C
            clear hE22 a22
            refine one fun C hC => val hE23 (R.move hE23 rfl) rfl fun a24 hE24 => hC _ _ ?_
            clear hC C
            clear hE23 a23
            refine one fun C hC => lit1 hE24 hM3 4 el_50 rfl rfl rfl  fun b15 a25 w4 hE25 hM4 => hC _ _ ?_
            clear hC C hE24 hM3 a24
            refine one fun C hC => appendL (xs := V.read.value) hE25 [V.peek 0] el_50 rfl rfl hM4 rfl rfl rfl (by unfold maxLen; first | omega | (simp; done) | (simp; omega)) (by first | omega | (simp; done) | (simp; omega)) rfl fun A16 C16 a26 w5 hE26 hM5 => hC _ _ ?_
            clear hC C hE25 hM4 a25
            refine one fun C hC => val hE26 (R.nil hE26 rfl) rfl fun a27 hE27 => hC _ _ ?_
            clear hC C
            clear hE26 a26
            refine one fun C hC => val hE27 (R.fieldAddr hE27 53 9 16 fb_53_9 rfl) rfl fun a28 hE28 => hC _ _ ?_
            clear hC C
            clear hE27 a27
            refine one fun C hC => store hE28 hM5 sc_50 rfl rfl rfl rfl  fun  a29 w6 hE29 hM6 => hC _ _ ?_
            clear hC C hE28 hM5 a28
            try simp only [List.set_cons_zero, List.set_cons_succ, Nat.zero_add] at hM6
            replace hE29 := hE29.keep (E' := [(0, _), (1, _), (5, _), (19, _), (33, _), (46, _), (60, _)]) ⟨rfl, rfl, rfl, rfl, rfl, rfl, rfl, trivial⟩
            refine wpList_nil (hK1 _ _ ?_)
            have hm := (machAt.closeT (T := 53) (R := 21) (K := 43) (L := 24) (A := 45) (V := none) (b := b) (S := { V.read with value := V.read.value ++ [V.peek 0] }) (F := star G F0) (by first | rfl | assumption | ((try dsimp only); (try simp only [M.read_st, M.fault_st, M.say_st, M.begin_st, M.flush_st, M.keep_st, M.leave_st, M.again_st, M.first_st]); first | rfl | assumption)) { x1 with vA := A16, vC := C16 } hk1 trivial (by (try dsimp only); (try simp only [List.length_nil, attrsOf_snoc, tagAt_true]); (try simp only [emp_star, star_emp]); exact hM6.cast (by ac_rfl)))
            rw [if_neg (by first | exact ht1 | simp [ht1]), if_neg (by first | exact ht2 | simp [ht2]), if_neg (by first | exact ht3 | simp [ht3]), if_neg (by first | exact ht4 | simp [ht4])] at hT
            have h0 : V.peek 0 ≠ -1 := by omega
            have hR := hO1.read_more h0
            have ei := M.read_inp V
            have er := M.read_pos h0
            have el := peek_lt h0
            have hF : M.Fwd V.read { V.read with value := V.read.value ++ [V.peek 0] } := M.fwd_put _ _
            refine hK (n, { V.read with value := V.read.value ++ [V.peek 0] }) _ _ ⟨hE29.keep ⟨rfl, rfl, trivial⟩, hm, hT, hR.put (d := 20) (by simp), by rw [hF.s]; exact V.read_st.trans hsV, by (show { V.read with value := V.read.value ++ [V.peek 0] }.inp.length - { V.read with value := V.read.value ++ [V.peek 0] }.pos < n); rw [hF.i, ei]; have := hF.p; omega⟩ (Nat.lt_succ_self _)

set_option maxHeartbeats 4000000 in
include hIn hRef hRo hRp hOdd in
theorem unquoted_c (b : Nat) (S : M) (hs : S.stale = false) (r0 : Int) (hr0 : -1 ≤ r0 ∧ r0 ≤ 1114111) (hO : S.Ok 40) : Fo Tryd.prog rej 72 [.pointer (some ⟨b, 0, none⟩), .int .i32 r0] (star (mach none b S) G) (S.unquoted r0) (fun y => (.int .i64 y.1)) (fun y => star (mach none b y.2) G) G := by
  intro β w0 F0 hM0
  replace hM0 := hM0.cast (star_assoc _ _ _)
  obtain ⟨x, hk, hV, hM1⟩ := machAt.openT hs hM0
  clear hM0
  rename Mem _ _ _ => hM0
  refine enterO Tryd.func72 (by rfl) 56 rfl rfl fun a0 Q hE0 hQ hN hP hX => ?_
  have hp0 := hO.p
  have hn0 := hO.n
  have hs0 := hO.s
  simp only [M.sz] at hs0
  refine wp_seq_k fun K0 hK0 => ?_
  refine wp_region_lit ?_
  refine one fun C hC => val hE0 (R.assign hE0 rfl) rfl fun a1 hE1 => hC _ _ ?_
  clear hC C
  clear hE0 a0
  refine wpList_nil (hK0 _ _ ?_)
  clear hK0 K0
  replace hE1 := hE1.keep (E' := [(0, _), (1, _), (4, _)]) ⟨rfl, rfl, rfl, trivial⟩
  refine wp_block ?_
  refine loopR (σ := Nat × M × Int) (fun p a w => Env 56 [] a [(0, .pointer (some ⟨b, 0, none⟩)), (1, .int .i32 p.2.2)] ∧ Mem β w (star (mach none b p.2.1) (star G F0)) ∧ (M.unquotedN p.1 p.2.1 p.2.2 = S.unquoted r0) ∧ p.2.1.Ok 20 ∧ (p.2.2 ≠ -1 → p.2.1.Ok 30) ∧ p.2.1.stale = false ∧ 1 ≤ p.1 ∧ (p.2.2 ≠ -1 → p.2.1.inp.length - p.2.1.pos + 2 ≤ p.1) ∧ (-1 ≤ p.2.2 ∧ p.2.2 ≤ 1114111)) (fun p => p.1) ((S).inp.length + 2, S, r0) ?_ ?_
  · refine ⟨hE1.keep ⟨rfl, rfl, trivial⟩, (machAt.closeT (T := 53) (R := 21) (K := 43) (L := 24) (A := 45) (V := none) (b := b) (S := S) (F := star G F0) (by first | rfl | assumption | ((try dsimp only); (try simp only [M.read_st, M.fault_st, M.say_st, M.begin_st, M.flush_st, M.keep_st, M.leave_st, M.again_st, M.first_st]); first | rfl | assumption)) x hk trivial (by (try dsimp only); (try simp only [List.length_nil, attrsOf_snoc, tagAt_true]); (try simp only [emp_star, star_emp]); exact hM0.cast (by ac_rfl))), rfl, hO.le (by omega), fun _ => hO.le (by omega), (by first | rfl | assumption | ((try dsimp only); (try simp only [M.read_st, M.fault_st, M.say_st, M.begin_st, M.flush_st, M.keep_st, M.leave_st, M.again_st, M.first_st]); first | rfl | assumption)), by (try dsimp only); omega, fun _ => by (try dsimp only); omega, by (try dsimp only); omega⟩
  · clear hE1 hM0 a1
    rintro ⟨n, V, r⟩ a2 w1 ⟨hE2, hM1, hT, hO1, hOr, hsV, hn1, hr, hrb⟩ K hK
    dsimp only at hE2 hM1 hT hO1 hOr hsV hn1 hr hrb
    obtain ⟨n, rfl⟩ : ∃ n', n = n' + 1 := ⟨n - 1, by omega⟩
    clear hn1
    have hp1 := hO1.p
    have hn1 := hO1.n
    unfold M.unquotedN at hT
    have hK1 : ∀ a w, K a w → K a w := fun _ _ h => h
    refine wp_block ?_
    refine wp_seq_k fun K2 hK2 => ?_
    refine wp_block ?_
    refine wp_seq_k fun K3 hK3 => ?_
    refine wp_region_lit ?_
    refine one fun C hC => val hE2 (R.move hE2 rfl) rfl fun a3 hE3 => hC _ _ ?_
    clear hC C
    clear hE2 a2
    refine one fun C hC => callF hE3 (blank_c _) cb_36 rfl hM1 rfl  fun  a4 w2 hE4 hM2 => hC _ _ ?_
    clear hC C hE3 hM1 a3
    refine one fun C hC => val hE4 (R.move hE4 rfl) rfl fun a5 hE5 => hC _ _ ?_
    clear hC C
    clear hE4 a4
    refine splitE hE5 (x := .tmp 8) rfl ?_ ?_
    · intro hb1
      have ht1 := hb1
      try simp only [decide_eq_true_eq, decide_eq_false_iff_not, Bool.not_eq_true', Bool.not_eq_false', beq_iff_eq, Bool.and_eq_true, Bool.or_eq_true] at ht1
      refine oneOff hE5 rfl rfl hb1 rfl fun a6 hE6 => ?_
      clear hE5 a5
      refine oneOff hE6 rfl rfl hb1 rfl fun a7 hE7 => ?_
      clear hE6 a6
      refine one fun C hC => val hE7 (R.pickT hE7 rfl hb1 rfl) rfl fun a8 hE8 => hC _ _ ?_
      clear hC C
      clear hE7 a7
      refine one fun C hC => val hE8 (R.move hE8 rfl) rfl fun a9 hE9 => hC _ _ ?_
      clear hC C
      clear hE8 a8
      refine oneOff hE9 rfl rfl rfl rfl fun a10 hE10 => ?_
      clear hE9 a9
      refine oneOff hE10 rfl rfl rfl rfl fun a11 hE11 => ?_
      clear hE10 a10
      refine one fun C hC => val hE11 (R.pickT hE11 rfl rfl rfl) rfl fun a12 hE12 => hC _ _ ?_
      clear hC C
      clear hE11 a11
      refine one fun C hC => val hE12 (R.assign hE12 rfl) rfl fun a13 hE13 => hC _ _ ?_
      clear hC C
      clear hE12 a12
      refine wpList_nil (hK3 _ _ ?_)
      clear hK3 K3
      replace hE13 := hE13.keep (E' := [(0, _), (1, _), (5, _)]) ⟨rfl, rfl, rfl, trivial⟩
      refine condT hE13 rfl rfl ?_
      refine wp_seq_k fun K4 hK4 => ?_
      refine wp_region_lit ?_
      refine one fun C hC => val hE13 (R.move hE13 rfl) rfl fun a14 hE14 => hC _ _ ?_
      clear hC C
      clear hE13 a13
      refine one fun C hC => val hE14 (R.move hE14 rfl) rfl fun a15 hE15 => hC _ _ ?_
      clear hC C
      clear hE14 a14
      refine one fun C hC => callO hE15 (edge_c G hIn b V (by first | rfl | assumption | ((try dsimp only); (try simp only [M.read_st, M.fault_st, M.say_st, M.begin_st, M.flush_st, M.keep_st, M.leave_st, M.again_st, M.first_st]); first | rfl | assumption)) r (hO1.le (by omega))) cb_39 rfl (hM2.cast (show (star (mach none b V) (star G F0)) = (star (star (mach none b V) G) F0) from by ac_rfl)) rfl ?_ ?_
      · intro hy1 w3 hM3
        exact hX _ _ hE15.defers (by rw [← hT, if_pos (by simp [ht1]), hy1]) hM3
      intro y1 hy1 a16 w3 hE16 hM3
      refine hC _ _ ?_
      clear hC C hE15 hM2 a15
      replace hM3 := hM3.cast (star_assoc _ _ _)
      have hO2 := hO1.edge hy1 (d := 16) (by omega)
      have hp2 := hO2.p
      have hn2 := hO2.n
      refine one fun C hC => val hE16 (R.assign hE16 rfl) rfl fun a17 hE17 => hC _ _ ?_
      clear hC C
      clear hE16 a16
      refine wpList_nil (hK4 _ _ ?_)
      clear hK4 K4
      replace hE17 := hE17.keep (E' := [(0, _), (1, _), (4, _), (5, _)]) ⟨rfl, rfl, rfl, rfl, trivial⟩
      refine wp_ret (hQ _ _ ?_)
      have hm := hM3
      refine back1 hE17 rfl rfl (Mem.doneO (y1.1, y1.2) ?_ rfl ?_)
      · rw [← hT, if_pos (by simp [ht1]), hy1]
      exact hm.cast (by ac_rfl)
    · intro hb1
      have ht1 := hb1
      try simp only [decide_eq_true_eq, decide_eq_false_iff_not, Bool.not_eq_true', Bool.not_eq_false', beq_iff_eq, Bool.and_eq_true, Bool.or_eq_true] at ht1
      refine oneOn hE5 rfl rfl hb1 fun C hC => val hE5 (R.move hE5 rfl) rfl fun a6 hE6 => hC _ _ ?_
      clear hC C
      clear hE5 a5
      refine oneOn hE6 rfl rfl hb1 fun C hC => val hE6 (R.eql hE6 rfl rfl) rfl fun a7 hE7 => hC _ _ ?_
      clear hC C
      clear hE6 a6
      refine one fun C hC => val hE7 (R.pickF hE7 rfl hb1 rfl) rfl fun a8 hE8 => hC _ _ ?_
      clear hC C
      clear hE7 a7
      refine one fun C hC => val hE8 (R.move hE8 rfl) rfl fun a9 hE9 => hC _ _ ?_
      clear hC C
      clear hE8 a8
      refine splitE hE9 (x := .tmp 12) rfl ?_ ?_
      · intro hb2
        have ht2 := hb2
        try simp only [decide_eq_true_eq, decide_eq_false_iff_not, Bool.not_eq_true', Bool.not_eq_false', beq_iff_eq, Bool.and_eq_true, Bool.or_eq_true] at ht2
        refine oneOff hE9 rfl rfl hb2 rfl fun a10 hE10 => ?_
        clear hE9 a9
        refine oneOff hE10 rfl rfl hb2 rfl fun a11 hE11 => ?_
        clear hE10 a10
        refine one fun C hC => val hE11 (R.pickT hE11 rfl hb2 rfl) rfl fun a12 hE12 => hC _ _ ?_
        clear hC C
        clear hE11 a11
        refine one fun C hC => val hE12 (R.assign hE12 rfl) rfl fun a13 hE13 => hC _ _ ?_
        clear hC C
        clear hE12 a12
        refine wpList_nil (hK3 _ _ ?_)
        clear hK3 K3
        replace hE13 := hE13.keep (E' := [(0, _), (1, _), (5, _)]) ⟨rfl, rfl, rfl, trivial⟩
        refine condT hE13 rfl rfl ?_
        refine wp_seq_k fun K5 hK5 => ?_
        refine wp_region_lit ?_
        refine one fun C hC => val hE13 (R.move hE13 rfl) rfl fun a14 hE14 => hC _ _ ?_
        clear hC C
        clear hE13 a13
        refine one fun C hC => val hE14 (R.move hE14 rfl) rfl fun a15 hE15 => hC _ _ ?_
        clear hC C
        clear hE14 a14
        refine one fun C hC => callO hE15 (edge_c G hIn b V (by first | rfl | assumption | ((try dsimp only); (try simp only [M.read_st, M.fault_st, M.say_st, M.begin_st, M.flush_st, M.keep_st, M.leave_st, M.again_st, M.first_st]); first | rfl | assumption)) r (hO1.le (by omega))) cb_39 rfl (hM2.cast (show (star (mach none b V) (star G F0)) = (star (star (mach none b V) G) F0) from by ac_rfl)) rfl ?_ ?_
        · intro hy1 w3 hM3
          exact hX _ _ hE15.defers (by rw [← hT, if_pos (by simp [ht1, ht2]), hy1]) hM3
        intro y1 hy1 a16 w3 hE16 hM3
        refine hC _ _ ?_
        clear hC C hE15 hM2 a15
        replace hM3 := hM3.cast (star_assoc _ _ _)
        have hO2 := hO1.edge hy1 (d := 16) (by omega)
        have hp2 := hO2.p
        have hn2 := hO2.n
        refine one fun C hC => val hE16 (R.assign hE16 rfl) rfl fun a17 hE17 => hC _ _ ?_
        clear hC C
        clear hE16 a16
        refine wpList_nil (hK5 _ _ ?_)
        clear hK5 K5
        replace hE17 := hE17.keep (E' := [(0, _), (1, _), (4, _), (5, _)]) ⟨rfl, rfl, rfl, rfl, trivial⟩
        refine wp_ret (hQ _ _ ?_)
        have hm := hM3
        refine back1 hE17 rfl rfl (Mem.doneO (y1.1, y1.2) ?_ rfl ?_)
        · rw [← hT, if_pos (by simp [ht1, ht2]), hy1]
        exact hm.cast (by ac_rfl)
      · intro hb2
        have ht2 := hb2
        try simp only [decide_eq_true_eq, decide_eq_false_iff_not, Bool.not_eq_true', Bool.not_eq_false', beq_iff_eq, Bool.and_eq_true, Bool.or_eq_true] at ht2
        refine oneOn hE9 rfl rfl hb2 fun C hC => val hE9 (R.move hE9 rfl) rfl fun a10 hE10 => hC _ _ ?_
        clear hC C
        clear hE9 a9
        refine oneOn hE10 rfl rfl hb2 fun C hC => val hE10 (R.eql hE10 rfl rfl) rfl fun a11 hE11 => hC _ _ ?_
        clear hC C
        clear hE10 a10
        refine one fun C hC => val hE11 (R.pickF hE11 rfl hb2 rfl) rfl fun a12 hE12 => hC _ _ ?_
        clear hC C
        clear hE11 a11
        refine one fun C hC => val hE12 (R.assign hE12 rfl) rfl fun a13 hE13 => hC _ _ ?_
        clear hC C
        clear hE12 a12
        refine wpList_nil (hK3 _ _ ?_)
        clear hK3 K3
        replace hE13 := hE13.keep (E' := [(0, _), (1, _), (5, _)]) ⟨rfl, rfl, rfl, trivial⟩
        refine condR hE13 rfl ?_ ?_
        · intro hb3
          have ht3 := hb3
          try simp only [decide_eq_true_eq, decide_eq_false_iff_not, Bool.not_eq_true', Bool.not_eq_false', beq_iff_eq, Bool.and_eq_true, Bool.or_eq_true] at ht3
          refine wp_seq_k fun K6 hK6 => ?_
          refine wp_region_lit ?_
          refine one fun C hC => val hE13 (R.move hE13 rfl) rfl fun a14 hE14 => hC _ _ ?_
          clear hC C
          clear hE13 a13
          refine one fun C hC => val hE14 (R.move hE14 rfl) rfl fun a15 hE15 => hC _ _ ?_
          clear hC C
          clear hE14 a14
          refine one fun C hC => callO hE15 (edge_c G hIn b V (by first | rfl | assumption | ((try dsimp only); (try simp only [M.read_st, M.fault_st, M.say_st, M.begin_st, M.flush_st, M.keep_st, M.leave_st, M.again_st, M.first_st]); first | rfl | assumption)) r (hO1.le (by omega))) cb_39 rfl (hM2.cast (show (star (mach none b V) (star G F0)) = (star (star (mach none b V) G) F0) from by ac_rfl)) rfl ?_ ?_
          · intro hy1 w3 hM3
            exact hX _ _ hE15.defers (by rw [← hT, if_pos (by simp [ht1, ht2, ht3]), hy1]) hM3
          intro y1 hy1 a16 w3 hE16 hM3
          refine hC _ _ ?_
          clear hC C hE15 hM2 a15
          replace hM3 := hM3.cast (star_assoc _ _ _)
          have hO2 := hO1.edge hy1 (d := 16) (by omega)
          have hp2 := hO2.p
          have hn2 := hO2.n
          refine one fun C hC => val hE16 (R.assign hE16 rfl) rfl fun a17 hE17 => hC _ _ ?_
          clear hC C
          clear hE16 a16
          refine wpList_nil (hK6 _ _ ?_)
          clear hK6 K6
          replace hE17 := hE17.keep (E' := [(0, _), (1, _), (4, _), (5, _)]) ⟨rfl, rfl, rfl, rfl, trivial⟩
          refine wp_ret (hQ _ _ ?_)
          have hm := hM3
          refine back1 hE17 rfl rfl (Mem.doneO (y1.1, y1.2) ?_ rfl ?_)
          · rw [← hT, if_pos (by simp [ht1, ht2, ht3]), hy1]
          exact hm.cast (by ac_rfl)
        · intro hb3
          have ht3 := hb3
          try simp only [decide_eq_true_eq, decide_eq_false_iff_not, Bool.not_eq_true', Bool.not_eq_false', beq_iff_eq, Bool.and_eq_true, Bool.or_eq_true] at ht3
          refine wp_seq_k fun K7 hK7 => ?_
          refine wp_region_lit ?_
          refine one fun C hC => val hE13 (R.move hE13 rfl) rfl fun a14 hE14 => hC _ _ ?_
          clear hC C
          clear hE13 a13
          refine one fun C hC => val hE14 (R.eql hE14 rfl rfl) rfl fun a15 hE15 => hC _ _ ?_
          clear hC C
          clear hE14 a14
          refine one fun C hC => val hE15 (R.assign hE15 rfl) rfl fun a16 hE16 => hC _ _ ?_
          clear hC C
          clear hE15 a15
          refine wpList_nil (hK7 _ _ ?_)
          clear hK7 K7
          replace hE16 := hE16.keep (E' := [(0, _), (1, _), (5, _), (19, _)]) ⟨rfl, rfl, rfl, rfl, trivial⟩
          refine condR hE16 rfl ?_ ?_
          · intro hb4
            have ht4 := hb4
            try simp only [decide_eq_true_eq, decide_eq_false_iff_not, Bool.not_eq_true', Bool.not_eq_false', beq_iff_eq, Bool.and_eq_true, Bool.or_eq_true] at ht4
            refine wp_seq_k fun K8 hK8 => ?_
            obtain ⟨x1, hk1, hV1, hM3⟩ := machAt.openT (by first | rfl | assumption | ((try dsimp only); (try simp only [M.read_st, M.fault_st, M.say_st, M.begin_st, M.flush_st, M.keep_st, M.leave_st, M.again_st, M.first_st]); first | rfl | assumption)) hM2
            try dsimp only at hM3 hk1
            clear hM2
            have hZ1 := hO1.ls
            try dsimp only at hZ1
            refine planR [7, 10] [(0, 1), (1, 1), (2, 1), (3, 1), (4, 0), (5, 1), (6, 2), (7, 2), (8, 1), (9, 1), (10, 2)] mix (by kernel_rfl) hM3 (fun w2 => w2.cell? ⟨b, 16, none⟩ = some (.slice x1.vA V.value.length x1.vC)) (fun c a a2 w hd => hP c a a2 w hd) fun w4 hM4 C0 hC0 => ?_
            clear hM3
            refine pPure rfl hE16 (fun _ => by exact R.move hE16 rfl) rfl fun a17 hE17 => ?_
            clear hE16 a16
            refine pPure rfl hE17 (fun _ => by exact R.move hE17 rfl) rfl fun a18 hE18 => ?_
            clear hE17 a17
            refine pPure rfl hE18 (fun _ => by exact R.nil hE18 rfl) rfl fun a19 hE19 => ?_
            clear hE18 a18
            refine pPure rfl hE19 (fun _ => by exact R.fieldAddr hE19 53 9 16 fb_53_9 rfl) rfl fun a20 hE20 => ?_
            clear hE19 a19
            have hcell := hM4.at (b := b) 16 rfl
            refine pTake rfl hE20 (fun _ hW => by exact R.loadCell hE20 sc_50 rfl hW) rfl hcell fun a21 hE21 => ?_
            clear hE20 a20 hcell
            refine pPure rfl hE21 (fun _ => by exact R.move hE21 rfl) rfl fun a22 hE22 => ?_
            clear hE21 a21
            have hcl : Mem β w4 (star (mach (some (x1.vA, x1.vC)) b V) (star G F0)) := machAt.closeT (by first | rfl | assumption | ((try dsimp only); (try simp only [M.read_st, M.fault_st, M.say_st, M.begin_st, M.flush_st, M.keep_st, M.leave_st, M.again_st, M.first_st]); first | rfl | assumption)) x1 hk1 ⟨rfl, rfl⟩ (by (try dsimp only); exact hM4.cast (by ac_rfl))
            refine pOneS rfl fun C hC => callX hE22 (hRef b V true (some (x1.vA, x1.vC)) (hO1.le (by omega))) cb_38 rfl (hcl.cast (star_assoc _ _ _).symm) rfl fun q a23 w5 hE23 hM5 => hC _ _ ?_ ?_
            · exact refcell (M.value_reference _ _) (hM5.cast (by ac_rfl) : Mem β w5 (star (mach (some (x1.vA, x1.vC)) b (V.reference true).2) (star (row 21 1 rune q.1 q.2 (V.reference true).1) (star G F0))))
            clear hC C hcl hE22 hM4 a22
            obtain ⟨x2, hk2, hV2, hM6⟩ := machAt.open_ (hM5.cast (by ac_rfl) : Mem β w5 (star (mach (some (x1.vA, x1.vC)) b (V.reference true).2) (star (row 21 1 rune q.1 q.2 (V.reference true).1) (star G F0))))
            rw [hV2.1, hV2.2] at hM6
            dsimp only at hM6
            have hval := M.value_reference V true
            have hlen := hO1.ls
            have hrl := (hRo V true _ 12 hO1 (by omega)).ls
            have hrs := (hRo V true _ 12 hO1 (by omega)).vl
            have hrp := hRp V true
            refine pOne rfl rfl fun C hC => appendR (xs := (V.reference true).2.value) (ys := (V.reference true).1) hE23 el_50 rfl rfl hM6 (by rw [hval]) rfl hrp (by unfold maxLen; omega) (by omega) rfl fun A7 C7 a24 w7 hE24 hM7 => hC _ _ ?_
            clear hC C hE23 hM6 a23
            refine pPure rfl hE24 (fun _ => by exact R.nil hE24 rfl) rfl fun a25 hE25 => ?_
            clear hE24 a24
            refine pPure rfl hE25 (fun _ => by exact R.fieldAddr hE25 53 9 16 fb_53_9 rfl) rfl fun a26 hE26 => ?_
            clear hE25 a25
            refine pOne rfl rfl fun C hC => store hE26 hM7 sc_50 rfl rfl rfl rfl fun a27 w8 hE27 hM8 => hC _ _ ?_
            clear hC C hE26 hM7 a26
            simp only [List.set_cons_zero, List.set_cons_succ, Nat.zero_add] at hM8
            replace hM8 := hM8.cut (row 21 1 rune q.1 q.2 (V.reference true).1)
            have hM9 : Mem β w8 (star (mach none b ((V.reference true).2.put (V.reference true).1)) (star G F0)) := machAt.close { x2 with vA := A7, vC := C7 } hk2 trivial (by dsimp only [M.put]; exact hM8.cast (by ac_rfl))
            clear hM8
            skip
            have hO2 : ((V.reference true).2.put (V.reference true).1).Ok 12 := (hRo _ _ _ 12 hO1 (by omega)).put (by omega)
            have hp2 := hO2.p
            have hn2 := hO2.n
            clear hval hlen hrl hrs hrp
            refine pNil (hC0 _ _ ?_)
            clear hC0 C0
            refine hK8 _ _ ?_
            clear hK8 K8
            replace hE27 := hE27.keep (E' := [(0, _), (1, _), (5, _), (19, _)]) ⟨rfl, rfl, rfl, rfl, trivial⟩
            refine wp_seq_k fun K9 hK9 => ?_
            refine wp_region_lit ?_
            refine one fun C hC => val hE27 (R.move hE27 rfl) rfl fun a28 hE28 => hC _ _ ?_
            clear hC C
            clear hE27 a27
            refine one fun C hC => callM hE28 (read_c b ((V.reference true).2.put (V.reference true).1) hO2.pos hO2.f) cb_14 rfl hM9 rfl fun  a29 w10 hE29 hM10 => hC _ _ ?_
            clear hC C hE28 hM9 a28
            have hO3 := hO2.read
            have hp3 := hO3.p
            have hn3 := hO3.n
            refine one fun C hC => val hE29 (R.assign hE29 rfl) rfl fun a30 hE30 => hC _ _ ?_
            clear hC C
            clear hE29 a29
            refine wpList_nil (hK9 _ _ ?_)
            clear hK9 K9
            replace hE30 := hE30.keep (E' := [(0, _), (1, _), (5, _), (19, _)]) ⟨rfl, rfl, rfl, rfl, trivial⟩
            refine wp_exit (exitOut rfl ?_)
            refine exitThen (exitIn ?_)
            refine hK1 _ _ ?_
            have hm := hM10
            have h0 : r ≠ -1 := by omega
            rw [if_neg (by simp [ht1, ht2, ht3]), if_pos ht4] at hT
            have hF : M.Fwd V ((V.reference true).2.put (V.reference true).1) := M.Fwd.trans (M.fwd_reference _ _) (M.fwd_put _ _)
            have hQ2 : ((V.reference true).2.put (V.reference true).1).Ok 22 := (hRo _ _ 30 22 (hOr h0) (by omega)).put (by omega)
            have hFr := M.fwd_read ((V.reference true).2.put (V.reference true).1)
            have hpk := hQ2.peek 0
            have hr2 := hr h0
            have hi2 := hF.i
            have hp2 := hF.p
            refine hK (n, ((V.reference true).2.put (V.reference true).1).read, ((V.reference true).2.put (V.reference true).1).peek 0) _ _ ⟨hE30.keep ⟨rfl, rfl, trivial⟩, hm, hT, hQ2.read.le (by omega), fun h1 => (hQ2.read_more h1).le (by omega), (hFr.s.trans hF.s).trans hsV, by (show 1 ≤ n); omega, fun h1 => by (show ((V.reference true).2.put (V.reference true).1).read.inp.length - ((V.reference true).2.put (V.reference true).1).read.pos + 2 ≤ n); rw [hFr.i, hF.i, M.read_pos h1]; have := peek_lt h1; rw [hF.i] at this; omega, hpk⟩ (Nat.lt_succ_self _)
          · intro hb4
            have ht4 := hb4
            try simp only [decide_eq_true_eq, decide_eq_false_iff_not, Bool.not_eq_true', Bool.not_eq_false', beq_iff_eq, Bool.and_eq_true, Bool.or_eq_true] at ht4
            refine wp_seq_k fun K10 hK10 => ?_
            refine wp_region_lit ?_
            refine one fun C hC => val hE16 (R.move hE16 rfl) rfl fun a17 hE17 => hC _ _ ?_
            clear hC C
            clear hE16 a16
            refine one fun C hC => val hE17 (R.eql hE17 rfl rfl) rfl fun a18 hE18 => hC _ _ ?_
            clear hC C
            clear hE17 a17
            refine one fun C hC => val hE18 (R.assign hE18 rfl) rfl fun a19 hE19 => hC _ _ ?_
            clear hC C
            clear hE18 a18
            refine wpList_nil (hK10 _ _ ?_)
            clear hK10 K10
            replace hE19 := hE19.keep (E' := [(0, _), (1, _), (5, _), (19, _), (34, _)]) ⟨rfl, rfl, rfl, rfl, rfl, trivial⟩
            refine condR hE19 rfl ?_ ?_
            · intro hb5
              have ht5 := hb5
              try simp only [decide_eq_true_eq, decide_eq_false_iff_not, Bool.not_eq_true', Bool.not_eq_false', beq_iff_eq, Bool.and_eq_true, Bool.or_eq_true] at ht5
              refine wp_seq_k fun K11 hK11 => ?_
              refine wp_region_lit ?_
              refine one fun C hC => val hE19 (R.move hE19 rfl) rfl fun a20 hE20 => hC _ _ ?_
              clear hC C
              clear hE19 a19
              refine one fun C hC => callM hE20 (fault_c b V 21 hO1.f) cb_20 rfl hM2 rfl fun  a21 w3 hE21 hM3 => hC _ _ ?_
              clear hC C hE20 hM2 a20
              have hO2 := hO1.fault (x := 21) (d := 19) (by omega)
              have hp2 := hO2.p
              have hn2 := hO2.n
              refine wpList_nil (hK11 _ _ ?_)
              clear hK11 K11
              replace hE21 := hE21.keep (E' := [(0, _), (1, _), (5, _), (19, _), (34, _)]) ⟨rfl, rfl, rfl, rfl, rfl, trivial⟩
              refine wp_region_lit ?_
              refine one fun C hC => val hE21 (R.assign hE21 rfl) rfl fun a22 hE22 => hC _ _ ?_
              clear hC C
              clear hE21 a21
              replace hE22 := hE22.keep (E' := [(0, _), (1, _), (5, _), (19, _), (34, _)]) ⟨rfl, rfl, rfl, rfl, rfl, trivial⟩
              refine wpList_nil (hK2 _ _ ?_)
              refine wp_seq_k fun K12 hK12 => ?_
              refine wp_region_lit ?_
              refine one fun C hC => val hE22 (R.move hE22 rfl) rfl fun a23 hE23 => hC _ _ ?_
              clear hC C
              clear hE22 a22
              refine one fun C hC => val hE23 (R.move hE23 rfl) rfl fun a24 hE24 => hC _ _ ?_
              clear hC C
              clear hE23 a23
              refine one fun C hC => val hE24 (R.nil hE24 rfl) rfl fun a25 hE25 => hC _ _ ?_
              clear hC C
              clear hE24 a24
              refine one fun C hC => val hE25 (R.fieldAddr hE25 53 9 16 fb_53_9 rfl) rfl fun a26 hE26 => hC _ _ ?_
              clear hC C
              clear hE25 a25
              obtain ⟨x1, hk1, hV1, hM4⟩ := machAt.openT (by first | rfl | assumption | ((try dsimp only); (try simp only [M.read_st, M.fault_st, M.say_st, M.begin_st, M.flush_st, M.keep_st, M.leave_st, M.again_st, M.first_st]); first | rfl | assumption)) hM3
              try dsimp only at hM4 hk1
              clear hM3
              have hZ1 := hO2.ls
              try dsimp only at hZ1
              refine one fun C hC => val hE26 (R.load hE26 sc_50 rfl hM4 (by rfl)) rfl fun a27 hE27 => hC _ _ ?_
              clear hC C
              clear hE26 a26
              refine one fun C hC => val hE27 (R.move hE27 rfl) rfl fun a28 hE28 => hC _ _ ?_
              clear hC C
              clear hE27 a27
              refine one fun C hC => lit1 hE28 hM4 4 el_50 rfl rfl rfl  fun b50 a29 w5 hE29 hM5 => hC _ _ ?_
              clear hC C hE28 hM4 a28
              refine one fun C hC => appendL (xs := (V.fault 21).value) hE29 [65533] el_50 rfl rfl hM5 rfl rfl rfl (by unfold maxLen; first | omega | (simp; done) | (simp; omega)) (by first | omega | (simp; done) | (simp; omega)) rfl fun A51 C51 a30 w6 hE30 hM6 => hC _ _ ?_
              clear hC C hE29 hM5 a29
              refine one fun C hC => val hE30 (R.nil hE30 rfl) rfl fun a31 hE31 => hC _ _ ?_
              clear hC C
              clear hE30 a30
              refine one fun C hC => val hE31 (R.fieldAddr hE31 53 9 16 fb_53_9 rfl) rfl fun a32 hE32 => hC _ _ ?_
              clear hC C
              clear hE31 a31
              refine one fun C hC => store hE32 hM6 sc_50 rfl rfl rfl rfl  fun  a33 w7 hE33 hM7 => hC _ _ ?_
              clear hC C hE32 hM6 a32
              try simp only [List.set_cons_zero, List.set_cons_succ, Nat.zero_add] at hM7
              refine wpList_nil (hK12 _ _ ?_)
              clear hK12 K12
              replace hE33 := hE33.keep (E' := [(0, _), (1, _), (5, _), (19, _), (34, _)]) ⟨rfl, rfl, rfl, rfl, rfl, trivial⟩
              refine wp_region_lit ?_
              refine one fun C hC => val hE33 (R.move hE33 rfl) rfl fun a34 hE34 => hC _ _ ?_
              clear hC C
              clear hE33 a33
              have hO3 : M.Ok ({ (V.fault 21) with value := ((V.fault 21).value) ++ [65533] }) 18 := by have h1 := hO2.p; have h2 := hO2.n; have h3 := hO2.s; exact ⟨by (try dsimp only); omega, by (try dsimp only); omega, hO2.r, by (try simp only [M.sz, List.length_append, List.length_cons, List.length_nil] at h3 ⊢); omega⟩
              have hp3 := hO3.p
              have hn3 := hO3.n
              refine one fun C hC => callM hE34 (read_c b { (V.fault 21) with value := ((V.fault 21).value) ++ [65533] } hO3.pos hO3.f) cb_14 rfl (machAt.closeT (T := 53) (R := 21) (K := 43) (L := 24) (A := 45) (V := none) (b := b) (S := { (V.fault 21) with value := ((V.fault 21).value) ++ [65533] }) (F := star G F0) (by first | rfl | assumption | ((try dsimp only); (try simp only [M.read_st, M.fault_st, M.say_st, M.begin_st, M.flush_st, M.keep_st, M.leave_st, M.again_st, M.first_st]); first | rfl | assumption)) { x1 with vA := A51, vC := C51 } hk1 trivial (by (try dsimp only); (try simp only [List.length_nil, attrsOf_snoc, tagAt_true]); (try simp only [emp_star, star_emp]); exact hM7.cast (by ac_rfl))) rfl fun  a35 w8 hE35 hM8 => hC _ _ ?_
              clear hC C hE34 hM7 a34
              have hO4 := hO3.read
              have hp4 := hO4.p
              have hn4 := hO4.n
              refine one fun C hC => val hE35 (R.assign hE35 rfl) rfl fun a36 hE36 => hC _ _ ?_
              clear hC C
              clear hE35 a35
              replace hE36 := hE36.keep (E' := [(0, _), (1, _), (5, _), (19, _), (34, _)]) ⟨rfl, rfl, rfl, rfl, rfl, trivial⟩
              refine wpList_nil (hK1 _ _ ?_)
              have hm := hM8
              have h0 : r ≠ -1 := by omega
              rw [if_neg (by simp [ht1, ht2, ht3]), if_neg (by first | exact ht4 | simp [ht4]), if_pos ht5] at hT
              have hF : M.Fwd V ((V.fault 21).put [65533]) := M.Fwd.trans (M.fwd_fault _ _) (M.fwd_put _ _)
              have hQ2 : ((V.fault 21).put [65533]).Ok 22 := ((hOr h0).fault (d := 29) (by omega)).put (by simp)
              have hFr := M.fwd_read ((V.fault 21).put [65533])
              have hpk := hQ2.peek 0
              have hr2 := hr h0
              have hi2 := hF.i
              have hp2 := hF.p
              refine hK (n, ((V.fault 21).put [65533]).read, ((V.fault 21).put [65533]).peek 0) _ _ ⟨hE36.keep ⟨rfl, rfl, trivial⟩, hm, hT, hQ2.read.le (by omega), fun h1 => (hQ2.read_more h1).le (by omega), (hFr.s.trans hF.s).trans hsV, by (show 1 ≤ n); omega, fun h1 => by (show ((V.fault 21).put [65533]).read.inp.length - ((V.fault 21).put [65533]).read.pos + 2 ≤ n); rw [hFr.i, hF.i, M.read_pos h1]; have := peek_lt h1; rw [hF.i] at this; omega, hpk⟩ (Nat.lt_succ_self _)
            · intro hb5
              have ht5 := hb5
              try simp only [decide_eq_true_eq, decide_eq_false_iff_not, Bool.not_eq_true', Bool.not_eq_false', beq_iff_eq, Bool.and_eq_true, Bool.or_eq_true] at ht5
              refine wp_seq_k fun K13 hK13 => ?_
              refine wp_region_lit ?_
              refine one fun C hC => val hE19 (R.move hE19 rfl) rfl fun a20 hE20 => hC _ _ ?_
              clear hC C
              clear hE19 a19
              refine one fun C hC => callF hE20 (hOdd _ (by omega) (by omega)) cb_82 rfl hM2 rfl  fun  a21 w3 hE21 hM3 => hC _ _ ?_
              clear hC C hE20 hM2 a20
              refine one fun C hC => val hE21 (R.assign hE21 rfl) rfl fun a22 hE22 => hC _ _ ?_
              clear hC C
              clear hE21 a21
              refine wpList_nil (hK13 _ _ ?_)
              clear hK13 K13
              replace hE22 := hE22.keep (E' := [(0, _), (1, _), (5, _), (19, _), (34, _), (39, _)]) ⟨rfl, rfl, rfl, rfl, rfl, rfl, trivial⟩
              refine condR hE22 rfl ?_ ?_
              · intro hb6
                have ht6 := hb6
                try simp only [decide_eq_true_eq, decide_eq_false_iff_not, Bool.not_eq_true', Bool.not_eq_false', beq_iff_eq, Bool.and_eq_true, Bool.or_eq_true] at ht6
                refine wp_region_lit ?_
                refine one fun C hC => val hE22 (R.move hE22 rfl) rfl fun a23 hE23 => hC _ _ ?_
                clear hC C
                clear hE22 a22
                refine one fun C hC => callM hE23 (fault_c b V 19 hO1.f) cb_20 rfl hM3 rfl fun  a24 w4 hE24 hM4 => hC _ _ ?_
                clear hC C hE23 hM3 a23
                have hO2 := hO1.fault (x := 19) (d := 19) (by omega)
                have hp2 := hO2.p
                have hn2 := hO2.n
                replace hE24 := hE24.keep (E' := [(0, _), (1, _), (5, _), (19, _), (34, _), (39, _)]) ⟨rfl, rfl, rfl, rfl, rfl, rfl, trivial⟩
                refine wpList_nil (hK2 _ _ ?_)
                refine wp_seq_k fun K14 hK14 => ?_
                refine wp_region_lit ?_
                refine one fun C hC => val hE24 (R.move hE24 rfl) rfl fun a25 hE25 => hC _ _ ?_
                clear hC C
                clear hE24 a24
                refine one fun C hC => val hE25 (R.move hE25 rfl) rfl fun a26 hE26 => hC _ _ ?_
                clear hC C
                clear hE25 a25
                refine one fun C hC => val hE26 (R.nil hE26 rfl) rfl fun a27 hE27 => hC _ _ ?_
                clear hC C
                clear hE26 a26
                refine one fun C hC => val hE27 (R.fieldAddr hE27 53 9 16 fb_53_9 rfl) rfl fun a28 hE28 => hC _ _ ?_
                clear hC C
                clear hE27 a27
                obtain ⟨x1, hk1, hV1, hM5⟩ := machAt.openT (by first | rfl | assumption | ((try dsimp only); (try simp only [M.read_st, M.fault_st, M.say_st, M.begin_st, M.flush_st, M.keep_st, M.leave_st, M.again_st, M.first_st]); first | rfl | assumption)) hM4
                try dsimp only at hM5 hk1
                clear hM4
                have hZ1 := hO2.ls
                try dsimp only at hZ1
                refine one fun C hC => val hE28 (R.load hE28 sc_50 rfl hM5 (by rfl)) rfl fun a29 hE29 => hC _ _ ?_
                clear hC C
                clear hE28 a28
                refine one fun C hC => val hE29 (R.move hE29 rfl) rfl fun a30 hE30 => hC _ _ ?_
                clear hC C
                clear hE29 a29
                refine one fun C hC => lit1 hE30 hM5 4 el_50 rfl rfl rfl  fun b50 a31 w6 hE31 hM6 => hC _ _ ?_
                clear hC C hE30 hM5 a30
                refine one fun C hC => appendL (xs := (V.fault 19).value) hE31 [r] el_50 rfl rfl hM6 rfl rfl rfl (by unfold maxLen; first | omega | (simp; done) | (simp; omega)) (by first | omega | (simp; done) | (simp; omega)) rfl fun A51 C51 a32 w7 hE32 hM7 => hC _ _ ?_
                clear hC C hE31 hM6 a31
                refine one fun C hC => val hE32 (R.nil hE32 rfl) rfl fun a33 hE33 => hC _ _ ?_
                clear hC C
                clear hE32 a32
                refine one fun C hC => val hE33 (R.fieldAddr hE33 53 9 16 fb_53_9 rfl) rfl fun a34 hE34 => hC _ _ ?_
                clear hC C
                clear hE33 a33
                refine one fun C hC => store hE34 hM7 sc_50 rfl rfl rfl rfl  fun  a35 w8 hE35 hM8 => hC _ _ ?_
                clear hC C hE34 hM7 a34
                try simp only [List.set_cons_zero, List.set_cons_succ, Nat.zero_add] at hM8
                refine wpList_nil (hK14 _ _ ?_)
                clear hK14 K14
                replace hE35 := hE35.keep (E' := [(0, _), (1, _), (5, _), (19, _), (34, _), (39, _)]) ⟨rfl, rfl, rfl, rfl, rfl, rfl, trivial⟩
                refine wp_region_lit ?_
                refine one fun C hC => val hE35 (R.move hE35 rfl) rfl fun a36 hE36 => hC _ _ ?_
                clear hC C
                clear hE35 a35
                have hO3 : M.Ok ({ (V.fault 19) with value := ((V.fault 19).value) ++ [r] }) 18 := by have h1 := hO2.p; have h2 := hO2.n; have h3 := hO2.s; exact ⟨by (try dsimp only); omega, by (try dsimp only); omega, hO2.r, by (try simp only [M.sz, List.length_append, List.length_cons, List.length_nil] at h3 ⊢); omega⟩
                have hp3 := hO3.p
                have hn3 := hO3.n
                refine one fun C hC => callM hE36 (read_c b { (V.fault 19) with value := ((V.fault 19).value) ++ [r] } hO3.pos hO3.f) cb_14 rfl (machAt.closeT (T := 53) (R := 21) (K := 43) (L := 24) (A := 45) (V := none) (b := b) (S := { (V.fault 19) with value := ((V.fault 19).value) ++ [r] }) (F := star G F0) (by first | rfl | assumption | ((try dsimp only); (try simp only [M.read_st, M.fault_st, M.say_st, M.begin_st, M.flush_st, M.keep_st, M.leave_st, M.again_st, M.first_st]); first | rfl | assumption)) { x1 with vA := A51, vC := C51 } hk1 trivial (by (try dsimp only); (try simp only [List.length_nil, attrsOf_snoc, tagAt_true]); (try simp only [emp_star, star_emp]); exact hM8.cast (by ac_rfl))) rfl fun  a37 w9 hE37 hM9 => hC _ _ ?_
                clear hC C hE36 hM8 a36
                have hO4 := hO3.read
                have hp4 := hO4.p
                have hn4 := hO4.n
                refine one fun C hC => val hE37 (R.assign hE37 rfl) rfl fun a38 hE38 => hC _ _ ?_
                clear hC C
                clear hE37 a37
                replace hE38 := hE38.keep (E' := [(0, _), (1, _), (5, _), (19, _), (34, _), (39, _)]) ⟨rfl, rfl, rfl, rfl, rfl, rfl, trivial⟩
                refine wpList_nil (hK1 _ _ ?_)
                have hm := hM9
                have h0 : r ≠ -1 := by omega
                rw [if_neg (by simp [ht1, ht2, ht3]), if_neg (by first | exact ht4 | simp [ht4]), if_neg (by first | exact ht5 | simp [ht5]), if_pos ht6] at hT
                have hF : M.Fwd V ((V.fault 19).put [r]) := M.Fwd.trans (M.fwd_fault _ _) (M.fwd_put _ _)
                have hQ2 : ((V.fault 19).put [r]).Ok 22 := ((hOr h0).fault (d := 29) (by omega)).put (by simp)
                have hFr := M.fwd_read ((V.fault 19).put [r])
                have hpk := hQ2.peek 0
                have hr2 := hr h0
                have hi2 := hF.i
                have hp2 := hF.p
                refine hK (n, ((V.fault 19).put [r]).read, ((V.fault 19).put [r]).peek 0) _ _ ⟨hE38.keep ⟨rfl, rfl, trivial⟩, hm, hT, hQ2.read.le (by omega), fun h1 => (hQ2.read_more h1).le (by omega), (hFr.s.trans hF.s).trans hsV, by (show 1 ≤ n); omega, fun h1 => by (show ((V.fault 19).put [r]).read.inp.length - ((V.fault 19).put [r]).read.pos + 2 ≤ n); rw [hFr.i, hF.i, M.read_pos h1]; have := peek_lt h1; rw [hF.i] at this; omega, hpk⟩ (Nat.lt_succ_self _)
              · intro hb6
                have ht6 := hb6
                try simp only [decide_eq_true_eq, decide_eq_false_iff_not, Bool.not_eq_true', Bool.not_eq_false', beq_iff_eq, Bool.and_eq_true, Bool.or_eq_true] at ht6
                refine wp_skip (hK2 _ _ ?_)
                refine wp_seq_k fun K15 hK15 => ?_
                refine wp_region_lit ?_
                refine one fun C hC => val hE22 (R.move hE22 rfl) rfl fun a23 hE23 => hC _ _ ?_
                clear hC C
                clear hE22 a22
                refine one fun C hC => val hE23 (R.move hE23 rfl) rfl fun a24 hE24 => hC _ _ ?_
                clear hC C
                clear hE23 a23
                refine one fun C hC => val hE24 (R.nil hE24 rfl) rfl fun a25 hE25 => hC _ _ ?_
                clear hC C
                clear hE24 a24
                refine one fun C hC => val hE25 (R.fieldAddr hE25 53 9 16 fb_53_9 rfl) rfl fun a26 hE26 => hC _ _ ?_
                clear hC C
                clear hE25 a25
                obtain ⟨x1, hk1, hV1, hM4⟩ := machAt.openT (by first | rfl | assumption | ((try dsimp only); (try simp only [M.read_st, M.fault_st, M.say_st, M.begin_st, M.flush_st, M.keep_st, M.leave_st, M.again_st, M.first_st]); first | rfl | assumption)) hM3
                try dsimp only at hM4 hk1
                clear hM3
                have hZ1 := hO1.ls
                try dsimp only at hZ1
                refine one fun C hC => val hE26 (R.load hE26 sc_50 rfl hM4 (by rfl)) rfl fun a27 hE27 => hC _ _ ?_
                clear hC C
                clear hE26 a26
                refine one fun C hC => val hE27 (R.move hE27 rfl) rfl fun a28 hE28 => hC _ _ ?_
                clear hC C
                clear hE27 a27
                refine one fun C hC => lit1 hE28 hM4 4 el_50 rfl rfl rfl  fun b50 a29 w5 hE29 hM5 => hC _ _ ?_
                clear hC C hE28 hM4 a28
                refine one fun C hC => appendL (xs := V.value) hE29 [r] el_50 rfl rfl hM5 rfl rfl rfl (by unfold maxLen; first | omega | (simp; done) | (simp; omega)) (by first | omega | (simp; done) | (simp; omega)) rfl fun A51 C51 a30 w6 hE30 hM6 => hC _ _ ?_
                clear hC C hE29 hM5 a29
                refine one fun C hC => val hE30 (R.nil hE30 rfl) rfl fun a31 hE31 => hC _ _ ?_
                clear hC C
                clear hE30 a30
                refine one fun C hC => val hE31 (R.fieldAddr hE31 53 9 16 fb_53_9 rfl) rfl fun a32 hE32 => hC _ _ ?_
                clear hC C
                clear hE31 a31
                refine one fun C hC => store hE32 hM6 sc_50 rfl rfl rfl rfl  fun  a33 w7 hE33 hM7 => hC _ _ ?_
                clear hC C hE32 hM6 a32
                try simp only [List.set_cons_zero, List.set_cons_succ, Nat.zero_add] at hM7
                refine wpList_nil (hK15 _ _ ?_)
                clear hK15 K15
                replace hE33 := hE33.keep (E' := [(0, _), (1, _), (5, _), (19, _), (34, _), (39, _)]) ⟨rfl, rfl, rfl, rfl, rfl, rfl, trivial⟩
                refine wp_region_lit ?_
                refine one fun C hC => val hE33 (R.move hE33 rfl) rfl fun a34 hE34 => hC _ _ ?_
                clear hC C
                clear hE33 a33
                have hO2 : M.Ok ({ V with value := V.value ++ [r] }) 19 := by have h1 := hO1.p; have h2 := hO1.n; have h3 := hO1.s; exact ⟨by (try dsimp only); omega, by (try dsimp only); omega, hO1.r, by (try simp only [M.sz, List.length_append, List.length_cons, List.length_nil] at h3 ⊢); omega⟩
                have hp2 := hO2.p
                have hn2 := hO2.n
                refine one fun C hC => callM hE34 (read_c b { V with value := V.value ++ [r] } hO2.pos hO2.f) cb_14 rfl (machAt.closeT (T := 53) (R := 21) (K := 43) (L := 24) (A := 45) (V := none) (b := b) (S := { V with value := V.value ++ [r] }) (F := star G F0) (by first | rfl | assumption | ((try dsimp only); (try simp only [M.read_st, M.fault_st, M.say_st, M.begin_st, M.flush_st, M.keep_st, M.leave_st, M.again_st, M.first_st]); first | rfl | assumption)) { x1 with vA := A51, vC := C51 } hk1 trivial (by (try dsimp only); (try simp only [List.length_nil, attrsOf_snoc, tagAt_true]); (try simp only [emp_star, star_emp]); exact hM7.cast (by ac_rfl))) rfl fun  a35 w8 hE35 hM8 => hC _ _ ?_
                clear hC C hE34 hM7 a34
                have hO3 := hO2.read
                have hp3 := hO3.p
                have hn3 := hO3.n
                refine one fun C hC => val hE35 (R.assign hE35 rfl) rfl fun a36 hE36 => hC _ _ ?_
                clear hC C
                clear hE35 a35
                replace hE36 := hE36.keep (E' := [(0, _), (1, _), (5, _), (19, _), (34, _), (39, _)]) ⟨rfl, rfl, rfl, rfl, rfl, rfl, trivial⟩
                refine wpList_nil (hK1 _ _ ?_)
                have hm := hM8
                have h0 : r ≠ -1 := by omega
                rw [if_neg (by simp [ht1, ht2, ht3]), if_neg (by first | exact ht4 | simp [ht4]), if_neg (by first | exact ht5 | simp [ht5]), if_neg (by first | exact ht6 | simp [ht6])] at hT
                have hF : M.Fwd V (V.put [r]) := M.fwd_put _ _
                have hQ2 : (V.put [r]).Ok 22 := (hOr h0).put (by simp)
                have hFr := M.fwd_read (V.put [r])
                have hpk := hQ2.peek 0
                have hr2 := hr h0
                have hi2 := hF.i
                have hp2 := hF.p
                refine hK (n, (V.put [r]).read, (V.put [r]).peek 0) _ _ ⟨hE36.keep ⟨rfl, rfl, trivial⟩, hm, hT, hQ2.read.le (by omega), fun h1 => (hQ2.read_more h1).le (by omega), (hFr.s.trans hF.s).trans hsV, by (show 1 ≤ n); omega, fun h1 => by (show (V.put [r]).read.inp.length - (V.put [r]).read.pos + 2 ≤ n); rw [hFr.i, hF.i, M.read_pos h1]; have := peek_lt h1; rw [hF.i] at this; omega, hpk⟩ (Nat.lt_succ_self _)

end

end Go.Sv
