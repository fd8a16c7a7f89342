import Derived.Test.YthaalghnpfpjmaaDoorProg
import Derived.Test.YthaalghnpfpjmaaDoorMach10
set_option linter.all false
set_option linter.unusedVariables false
set_option linter.unusedSimpArgs false
set_option maxRecDepth 100000
namespace Go.Sv
open Go.RowKit Go.Proofs
attribute [local irreducible] row pts star blk emp fact any attrsOf machAt tagAt

namespace FMach11
theorem al_3 : (Tryd.prog.info? 3).bind (·.zero) = some (.int .i64 0) := by kernel_rfl
theorem ar_win : arrayB Tryd.prog 88 32 21 1 = true := by kernel_rfl
theorem cb_14 : callB Tryd.prog 14 = true := by kernel_rfl
theorem cb_20 : callB Tryd.prog 20 = true := by kernel_rfl
theorem cb_21 : callB Tryd.prog 21 = true := by kernel_rfl
theorem cb_28 : callB Tryd.prog 28 = true := by kernel_rfl
theorem cb_29 : callB Tryd.prog 29 = true := by kernel_rfl
theorem cb_48 : callB Tryd.prog 48 = true := by kernel_rfl
theorem el_50 : elemB Tryd.prog 50 21 1 4 = true := by kernel_rfl
theorem mix : Tryd.prog.follows .mixedOrders = true := by kernel_rfl
theorem sc_21 : scalarB Tryd.prog 21 = true := by kernel_rfl
theorem sc_3 : scalarB Tryd.prog 3 = true := by kernel_rfl
end FMach11
open FMach11
theorem M.digits_eof (b : Int) : digitOf b (-1) = -1 := by unfold digitOf; rw [if_neg (by have : valueR (-1) = -1 := (by decide); omega)]
theorem digitOf_rng (b r : Int) : -1 ≤ digitOf b r ∧ digitOf b r ≤ 15 := by
  have := valueR_rng r
  unfold digitOf; split <;> omega
theorem controlB_rng {r : Int} (h : controlB r = true) : 0 ≤ r ∧ r ≤ 159 := by
  simp only [controlB, Bool.or_eq_true, Bool.and_eq_true, decide_eq_true_eq] at h; omega
theorem mul_rng {k b : Int} (h0 : 0 ≤ k) (h1 : k ≤ 1114112) (h2 : 0 ≤ b) (h3 : b ≤ 16) : 0 ≤ k * b ∧ k * b ≤ 17825792 :=
  ⟨Int.mul_nonneg h0 h2, Int.le_trans (Int.mul_le_mul h1 h3 h2 (by omega)) (by omega)⟩
theorem digitsN_step {n : Nat} {Y : M} {b k : Int} (h : 0 ≤ digitOf b (Y.peek 0)) : M.digitsN (n + 1) Y b k = M.digitsN n Y.read b (min (k * b + digitOf b (Y.peek 0)) 1114112) := by
  rw [M.digitsN, if_pos h]
theorem digitsN_stop {n : Nat} {Y : M} {b k : Int} (h : ¬ 0 ≤ digitOf b (Y.peek 0)) : M.digitsN n Y b k = (k, Y) := by
  cases n with
  | zero => rfl
  | succ n => rw [M.digitsN, if_neg h]
theorem peek_of_digit {Y : M} {b : Int} (h : 0 ≤ digitOf b (Y.peek 0)) : Y.peek 0 ≠ -1 := by
  intro e; rw [e, M.digits_eof] at h; omega
variable (G : HProp)
/-- Where the table of standard.windows lies. -/
def WinG (G : HProp) : Prop := ∃ E R, G = star (pts 0 E (windows.map (Value.int .i32))) R
theorem WinG.cell {G : HProp} (h : WinG G) {β : Base} {w : World} {F : HProp} (hM : Mem β w (star G F)) {j : Nat} (hj : j < 32) : w.cell? ⟨0, j, none⟩ = some (.int .i32 (windows.getD j 0)) := by
  obtain ⟨E, R, rfl⟩ := h
  refine (hM.cast (star_assoc _ _ _)).cell ?_
  rw [List.getElem?_map, List.getElem?_eq_getElem (show j < windows.length from hj), List.getD_eq_getElem?_getD, List.getElem?_eq_getElem (show j < windows.length from hj)]
  rfl
variable (hWin : WinG G)

set_option maxHeartbeats 4000000 in
include hWin in
theorem numeric_c {V : Option (Option Addr × Nat)} (b : Nat) (S : M)  (hO : S.Ok 12) : Fx Tryd.prog 30 [.pointer (some ⟨b, 0, none⟩)] (star (mach V b S) G) (fun q : Option Addr × Nat => .slice q.1 S.numeric.1.length q.2) ((fun q => star (mach V b S.numeric.2) (star (row 21 1 rune q.1 q.2 S.numeric.1) G))) := by
  intro β w0 F0 hM0
  replace hM0 := hM0.cast (star_assoc _ _ _)
  obtain ⟨x, hk, hV, hM1⟩ := machAt.open_ hM0
  clear hM0
  rename Mem _ _ _ => hM0
  refine enter Tryd.func30 (by rfl) 94 rfl rfl fun a0 Q hE0 hQ hN hP => ?_
  have hp0 := hO.p
  have hn0 := hO.n
  have hs0 := hO.s
  simp only [M.sz] at hs0
  refine wp_seq_k fun K0 hK0 => ?_
  have hpk1 := (hO.read).peek 0
  refine wp_region_lit ?_
  refine one fun C hC => val hE0 (R.assign hE0 rfl) rfl fun a1 hE1 => hC _ _ ?_
  clear hC C
  clear hE0 a0
  refine wpList_nil (hK0 _ _ ?_)
  clear hK0 K0
  replace hE1 := hE1.keep (E' := [(0, _), (2, _)]) ⟨rfl, rfl, trivial⟩
  refine wp_seq_k fun K1 hK1 => ?_
  refine wp_region_lit ?_
  refine one fun C hC => val hE1 (R.move hE1 rfl) rfl fun a2 hE2 => hC _ _ ?_
  clear hC C
  clear hE1 a1
  refine one fun C hC => callM hE2 (read_c b S hO.pos hO.f) cb_14 rfl (machAt.close (T := 53) (R := 21) (K := 43) (L := 24) (A := 45) (V := V) (b := b) (S := S) (F := star G F0) x hk hV (by (try dsimp only); (try simp only [List.length_nil, attrsOf_snoc, tagAt_true]); (try simp only [emp_star, star_emp]); exact hM0.cast (by ac_rfl))) rfl fun  a3 w1 hE3 hM1 => hC _ _ ?_
  clear hC C hE2 hM0 a2
  have hO1 := hO.read
  have hp1 := hO1.p
  have hn1 := hO1.n
  refine one fun C hC => lit2 hE3 hM1 4 el_50 rfl rfl rfl rfl rfl  fun b11 a4 w2 hE4 hM2 => hC _ _ ?_
  clear hC C hE3 hM1 a3
  refine one fun C hC => val hE4 (R.assign hE4 rfl) rfl fun a5 hE5 => hC _ _ ?_
  clear hC C
  clear hE4 a4
  refine wpList_nil (hK1 _ _ ?_)
  clear hK1 K1
  replace hE5 := hE5.keep (E' := [(0, _), (2, _), (3, _)]) ⟨rfl, rfl, rfl, trivial⟩
  refine wp_seq_k fun K2 hK2 => ?_
  refine wp_region_lit ?_
  refine one fun C hC => alloc hE5 hM2 _ al_3 [.int .i64 0] rfl rfl  fun b4 a6 w3 hE6 hM3 => hC _ _ ?_
  clear hC C hE5 hM2 a5
  refine one fun C hC => store hE6 hM3 sc_3 rfl rfl rfl rfl  fun  a7 w4 hE7 hM4 => hC _ _ ?_
  clear hC C hE6 hM3 a6
  try simp only [List.set_cons_zero, List.set_cons_succ, Nat.zero_add] at hM4
  refine wpList_nil (hK2 _ _ ?_)
  clear hK2 K2
  replace hE7 := hE7.keep (E' := [(0, _), (2, _), (3, _), (4, _)]) ⟨rfl, rfl, rfl, rfl, trivial⟩
  refine wp_seq_k fun K3 hK3 => ?_
  have hJ3 : ∀ (Y : M) (base : Int) (out : List Int) (oA : Option Addr) (oC : Nat) (cb : Nat) a w, Env 94 [] a [(0, .pointer (some ⟨b, 0, none⟩)), (3, .slice oA out.length oC), (4, .pointer (some ⟨cb, 0, none⟩))] → Mem β w (star (mach V b Y) (star (pts cb 3 [.int .i64 base]) (star (row 21 1 rune oA oC out) (star G F0)))) → M.Ok Y 8 → (S.numeric = M.numBody base out Y ∧ 1 ≤ out.length ∧ out.length ≤ 3 ∧ 10 ≤ base ∧ base ≤ 16) → K3 a w := by
    intro Y base out oA oC cb a107 w104 hE107 hM104 hO101
    rintro ⟨hS, ho1, ho3, hbl, hbh⟩
    refine hK3 _ _ ?_
    clear hK3
    have hp101 := hO101.p
    have hn101 := hO101.n
    have hpk101 := hO101.peek 0
    refine wp_seq_k fun K4 hK4 => ?_
    refine wp_region_lit ?_
    refine one fun C hC => val hE107 (R.mkClo hE107 rfl) rfl fun a108 hE108 => hC _ _ ?_
    clear hC C
    clear hE107 a107
    refine one fun C hC => val hE108 (R.assign hE108 rfl) rfl fun a109 hE109 => hC _ _ ?_
    clear hC C
    clear hE108 a108
    refine wpList_nil (hK4 _ _ ?_)
    clear hK4 K4
    replace hE109 := hE109.keep (E' := [(0, _), (3, _), (4, _), (6, _)]) ⟨rfl, rfl, rfl, rfl, trivial⟩
    refine wp_seq_k fun K5 hK5 => ?_
    refine wp_seq_k fun K6 hK6 => ?_
    refine wp_region_lit ?_
    refine one fun C hC => val hE109 (R.move hE109 rfl) rfl fun a110 hE110 => hC _ _ ?_
    clear hC C
    clear hE109 a109
    refine one fun C hC => val hE110 (R.move hE110 rfl) rfl fun a111 hE111 => hC _ _ ?_
    clear hC C
    clear hE110 a110
    refine one fun C hC => callM hE111 (peek_k b Y 0 0 (by omega) (by omega) hO101.pos) cb_21 rfl (hM104.cast (show _ = (star (mach V b Y) (star (pts cb 3 [.int .i64 base]) (star (row 21 1 rune oA oC out) (star G F0)))) from by ac_rfl)) rfl fun  a112 w105 hE112 hM105 => hC _ _ ?_
    clear hC C hE111 hM104 a111
    refine one fun C hC => callVM hE112 rfl rfl (digitOf_c _ _ _ (by omega) (by omega)) cb_48 (hM105.split (FindP.out (b := cb))) rfl fun a113 w106 hE113 hM106 => hC _ _ ?_
    clear hC C hE112 hM105 a112
    refine one fun C hC => val hE113 (R.lss hE113 rfl rfl) rfl fun a114 hE114 => hC _ _ ?_
    clear hC C
    clear hE113 a113
    refine wpList_nil (hK6 _ _ ?_)
    clear hK6 K6
    replace hE114 := hE114.keep (E' := [(0, _), (3, _), (4, _), (6, _), (30, _)]) ⟨rfl, rfl, rfl, rfl, rfl, trivial⟩
    refine condR hE114 rfl ?_ ?_
    · intro hb1
      have ht1 := hb1
      try simp only [decide_eq_true_eq, decide_eq_false_iff_not, Bool.not_eq_true', Bool.not_eq_false', beq_iff_eq, Bool.and_eq_true, Bool.or_eq_true] at ht1
      refine wp_seq_k fun K7 hK7 => ?_
      refine wp_region_lit ?_
      refine one fun C hC => val hE114 (R.move hE114 rfl) rfl fun a115 hE115 => hC _ _ ?_
      clear hC C
      clear hE114 a114
      refine one fun C hC => callM hE115 (fault_c b Y 0 hO101.f) cb_20 rfl (hM106.cast (show _ = (star (mach V b Y) (star (pts cb 3 [.int .i64 base]) (star (row 21 1 rune oA oC out) (star G F0)))) from by ac_rfl)) rfl fun  a116 w107 hE116 hM107 => hC _ _ ?_
      clear hC C hE115 hM106 a115
      have hO102 := hO101.fault (x := 0) (d := 7) (by omega)
      have hp102 := hO102.p
      have hn102 := hO102.n
      refine wpList_nil (hK7 _ _ ?_)
      clear hK7 K7
      replace hE116 := hE116.keep (E' := [(0, _), (3, _), (4, _), (6, _), (30, _)]) ⟨rfl, rfl, rfl, rfl, rfl, trivial⟩
      refine wp_seq_k fun K8 hK8 => ?_
      refine wp_region_lit ?_
      refine one fun C hC => val hE116 (R.move hE116 rfl) rfl fun a117 hE117 => hC _ _ ?_
      clear hC C
      clear hE116 a116
      refine one fun C hC => val hE117 (R.assign hE117 rfl) rfl fun a118 hE118 => hC _ _ ?_
      clear hC C
      clear hE117 a117
      refine wpList_nil (hK8 _ _ ?_)
      clear hK8 K8
      replace hE118 := hE118.keep (E' := [(0, _), (2, _), (3, _), (4, _), (6, _), (30, _)]) ⟨rfl, rfl, rfl, rfl, rfl, rfl, trivial⟩
      refine wp_ret (hQ _ _ ?_)
      have hm := hM107
      have hx : S.numeric = (out, (Y.fault 0)) := by rw [hS]; unfold M.numBody; rw [if_pos (by omega)]
      replace hm := hm.cut (pts cb 3 [.int .i64 base])
      refine back1 hE118 rfl rfl (Mem.doneX ((oA, oC) : Option Addr × Nat) ?_ ?_)
      · rw [hx]; try rfl
      · rw [hx]; dsimp only; exact hm.cast (by ac_rfl)
    · intro hb1
      have ht1 := hb1
      try simp only [decide_eq_true_eq, decide_eq_false_iff_not, Bool.not_eq_true', Bool.not_eq_false', beq_iff_eq, Bool.and_eq_true, Bool.or_eq_true] at ht1
      refine wp_skip (hK5 _ _ ?_)
      refine wp_seq_k fun K9 hK9 => ?_
      refine wp_region_lit ?_
      refine one fun C hC => val hE114 (R.assign hE114 rfl) rfl fun a115 hE115 => hC _ _ ?_
      clear hC C
      clear hE114 a114
      refine wpList_nil (hK9 _ _ ?_)
      clear hK9 K9
      replace hE115 := hE115.keep (E' := [(0, _), (3, _), (4, _), (6, _), (7, _), (30, _)]) ⟨rfl, rfl, rfl, rfl, rfl, rfl, trivial⟩
      refine wp_seq_k fun K10 hK10 => ?_
      refine wp_block ?_
      have hm := hM106
      refine loopR (σ := Nat × M × Int) (fun ⟨n, Z, k⟩ a w => Env 94 [] a [(0, .pointer (some ⟨b, 0, none⟩)), (3, .slice oA out.length oC), (4, .pointer (some ⟨cb, 0, none⟩)), (6, .func (.func 48) #[] #[.pointer (some ⟨cb, 0, none⟩)]), (7, .int .i64 k)] ∧ Mem β w (star (mach V b Z) (star (pts cb 3 [.int .i64 base]) (star (row 21 1 rune oA oC out) (star G F0)))) ∧ M.Ok Z 8 ∧ (Z.inp.length - Z.pos < n ∧ 0 ≤ k ∧ k ≤ 1114112 ∧ M.digitsN n Z base k = Y.digits base)) (fun ⟨n, Z, k⟩ => n) (Y.inp.length + 1, Y, 0) ?_ ?_
      · exact ⟨hE115.keep (by refine ⟨?_, ?_, ?_, ?_, ?_, trivial⟩ <;> rfl), hm.cast (by ac_rfl), hO101.le (by omega), (by (show Y.inp.length - Y.pos < Y.inp.length + 1); omega), by omega, by omega, rfl⟩
      · clear hm hE115 hM106 a115
        rintro ⟨n, Z, k⟩ a116 w107 ⟨hE116, hM107, hO102, ⟨hn0, hkl, hkh, hD⟩⟩ K hK
        try dsimp only at hE116 hM107 hO102
        have hp102 := hO102.p
        have hn102 := hO102.n
        have hpk := hO102.peek 0
        obtain ⟨n, rfl⟩ : ∃ n', n = n' + 1 := ⟨n - 1, by omega⟩
        have hml := mul_rng hkl hkh (by omega : (0 : Int) ≤ base) hbh
        have hK11 : ∀ a w, K a w → K a w := fun _ _ h => h
        refine wp_seq_k fun K12 hK12 => ?_
        refine wp_seq_k fun K13 hK13 => ?_
        refine wp_region_lit ?_
        refine one fun C hC => val hE116 (R.move hE116 rfl) rfl fun a117 hE117 => hC _ _ ?_
        clear hC C
        clear hE116 a116
        refine one fun C hC => val hE117 (R.move hE117 rfl) rfl fun a118 hE118 => hC _ _ ?_
        clear hC C
        clear hE117 a117
        refine one fun C hC => callM hE118 (peek_k b Z 0 0 (by omega) (by omega) hO102.pos) cb_21 rfl (hM107.cast (show _ = (star (mach V b Z) (star (pts cb 3 [.int .i64 base]) (star (row 21 1 rune oA oC out) (star G F0)))) from by ac_rfl)) rfl fun  a119 w108 hE119 hM108 => hC _ _ ?_
        clear hC C hE118 hM107 a118
        refine one fun C hC => callVM hE119 rfl rfl (digitOf_c _ _ _ (by omega) (by omega)) cb_48 (hM108.split (FindP.out (b := cb))) rfl fun a120 w109 hE120 hM109 => hC _ _ ?_
        clear hC C hE119 hM108 a119
        refine one fun C hC => val hE120 (R.geq hE120 rfl rfl) rfl fun a121 hE121 => hC _ _ ?_
        clear hC C
        clear hE120 a120
        refine wpList_nil (hK13 _ _ ?_)
        clear hK13 K13
        replace hE121 := hE121.keep (E' := [(0, _), (3, _), (4, _), (6, _), (7, _), (38, _)]) ⟨rfl, rfl, rfl, rfl, rfl, rfl, trivial⟩
        refine condR hE121 rfl ?_ ?_
        · intro hb2
          have ht2 := hb2
          try simp only [decide_eq_true_eq, decide_eq_false_iff_not, Bool.not_eq_true', Bool.not_eq_false', beq_iff_eq, Bool.and_eq_true, Bool.or_eq_true] at ht2
          refine wp_skip (hK12 _ _ ?_)
          refine wp_block ?_
          obtain ⟨x1, hk1, hV1, hM110⟩ := machAt.open_ (hM109.cast (show _ = (star (mach V b (Z)) (star (pts cb 3 [.int .i64 base]) (star (row 21 1 rune oA oC out) (star G F0)))) from by ac_rfl))
          try dsimp only at hM110 hk1
          clear hM109
          have hZ1 := hO102.ls
          try dsimp only at hZ1
          have hcell := hM110.at (b := cb) 0 rfl
          refine planR [] [(0, 1), (1, 0), (2, 1), (3, 1), (4, 1), (5, 2), (6, 2), (7, 1), (8, 1), (9, 1)] mix (by kernel_rfl) hM110 (fun w2 => w2.cell? ⟨cb, 0, none⟩ = some (.int .i64 base)) (fun c a a2 w hd => hP c a a2 w hd) fun w111 hM111 C0 hC0 => ?_
          clear hM110
          refine pPure rfl hE121 (fun _ => by exact R.move hE121 rfl) rfl fun a122 hE122 => ?_
          clear hE121 a121
          replace hcell := hM111.at (b := cb) 0 rfl
          refine pTake rfl hE122 (fun _ hW => by exact R.loadCell hE122 sc_3 rfl hW) rfl hcell fun a123 hE123 => ?_
          clear hE122 a122 hcell
          refine pPure rfl hE123 (fun _ => by exact R.mul64 hE123 rfl rfl (by omega) (by omega)) rfl fun a124 hE124 => ?_
          clear hE123 a123
          refine pPure rfl hE124 (fun _ => by exact R.move hE124 rfl) rfl fun a125 hE125 => ?_
          clear hE124 a124
          refine pPure rfl hE125 (fun _ => by exact R.move hE125 rfl) rfl fun a126 hE126 => ?_
          clear hE125 a125
          refine pOneS rfl fun C hC => callM hE126 (read_c b Z hO102.pos hO102.f) cb_14 rfl (machAt.close (T := 53) (R := 21) (K := 43) (L := 24) (A := 45) (V := V) (b := b) (S := Z) (F := star (pts cb 3 [.int .i64 base]) (star (row 21 1 rune oA oC out) (star G F0))) x1 hk1 hV1 (by (try dsimp only); (try simp only [List.length_nil, attrsOf_snoc, tagAt_true]); (try simp only [emp_star, star_emp]); exact hM111.cast (by ac_rfl))) rfl fun  a127 w112 hE127 hM112 => hC _ _ (by exact (hM112).at (b := cb) 0 rfl) ?_
          clear hC C hE126 hM111 a126
          have hO103 := hO102.read
          have hp103 := hO103.p
          have hn103 := hO103.n
          refine pOneS rfl fun C hC => callVM hE127 rfl rfl (digitOf_c _ _ _ (by omega) (by omega)) cb_48 (hM112.split (FindP.out (b := cb))) rfl fun a128 w113 hE128 hM113 => hC _ _ (by exact (hM113).at (b := cb) 0 rfl) ?_
          clear hC C hE127 hM112 a127
          have hdr := digitOf_rng base (Z.peek 0)
          refine pPure rfl hE128 (fun _ => by exact R.add64 hE128 rfl rfl (by omega) (by omega)) rfl fun a129 hE129 => ?_
          clear hE128 a128
          refine pPure rfl hE129 (fun _ => by exact R.min2 hE129 rfl rfl) rfl fun a130 hE130 => ?_
          clear hE129 a129
          refine pPure rfl hE130 (fun _ => by exact R.assign hE130 rfl) rfl fun a131 hE131 => ?_
          clear hE130 a130
          refine pNil (hC0 _ _ ?_)
          clear hC0 C0
          replace hE131 := hE131.keep (E' := [(0, _), (3, _), (4, _), (6, _), (7, _), (38, _)]) ⟨rfl, rfl, rfl, rfl, rfl, rfl, trivial⟩
          refine hK11 _ _ ?_
          have hm := hM113
          have hp0 := M.read_pos (peek_of_digit ht2)
          have hi0 := M.read_inp Z
          have hl0 := peek_lt (peek_of_digit ht2)
          have hdr := digitOf_rng base (Z.peek 0)
          have hml := mul_rng hkl hkh (by omega : (0 : Int) ≤ base) hbh
          exact hK (n, Z.read, min (k * base + digitOf base (Z.peek 0)) 1114112) _ _ ⟨hE131.keep (by refine ⟨?_, ?_, ?_, ?_, ?_, trivial⟩ <;> first | rfl | exact eqInt (by push_cast; rfl)), hm.cast (by ac_rfl), hO103.le (by omega), by (show Z.read.inp.length - Z.read.pos < n); rw [hi0, hp0]; omega, by omega, by omega, by rw [← hD, digitsN_step ht2]⟩ (Nat.lt_succ_self _)
        · intro hb2
          have ht2 := hb2
          try simp only [decide_eq_true_eq, decide_eq_false_iff_not, Bool.not_eq_true', Bool.not_eq_false', beq_iff_eq, Bool.and_eq_true, Bool.or_eq_true] at ht2
          refine wp_exit (exitThen (exitThen (exitIn ?_)))
          refine hK10 _ _ ?_
          refine wp_seq_k fun K14 hK14 => ?_
          have hDig : Y.digits base = (k, Z) := by rw [← hD]; exact digitsN_stop (by omega)
          have hJ14 : ∀ (U : Unit) a w, Env 94 [] a [(0, .pointer (some ⟨b, 0, none⟩)), (7, .int .i64 k)] → Mem β w (star (mach V b Z.semi) (star G F0)) → M.Ok Z.semi 6 → True → K14 a w := by
            intro U a221 w209 hE221 hM209 hO202
            rintro -
            refine hK14 _ _ ?_
            clear hK14
            have hp202 := hO202.p
            have hn202 := hO202.n
            have hpk202 := hO202.peek 0
            refine wp_seq_k fun K15 hK15 => ?_
            refine wp_region_lit ?_
            refine one fun C hC => val hE221 (R.move hE221 rfl) rfl fun a222 hE222 => hC _ _ ?_
            clear hC C
            clear hE221 a221
            refine one fun C hC => val hE222 (R.conv32 hE222 (by rfl) (by rfl) rfl (by omega) (by omega)) rfl fun a223 hE223 => hC _ _ ?_
            clear hC C
            clear hE222 a222
            refine one fun C hC => val hE223 (R.assign hE223 rfl) rfl fun a224 hE224 => hC _ _ ?_
            clear hC C
            clear hE223 a223
            refine wpList_nil (hK15 _ _ ?_)
            clear hK15 K15
            replace hE224 := hE224.keep (E' := [(0, _), (7, _), (8, _)]) ⟨rfl, rfl, rfl, trivial⟩
            refine wp_seq_k fun K16 hK16 => ?_
            refine wp_block ?_
            refine wp_seq_k fun K17 hK17 => ?_
            refine wp_region_lit ?_
            refine one fun C hC => val hE224 (R.move hE224 rfl) rfl fun a225 hE225 => hC _ _ ?_
            clear hC C
            clear hE224 a224
            refine one fun C hC => val hE225 (R.eql hE225 rfl rfl) rfl fun a226 hE226 => hC _ _ ?_
            clear hC C
            clear hE225 a225
            refine one fun C hC => val hE226 (R.assign hE226 rfl) rfl fun a227 hE227 => hC _ _ ?_
            clear hC C
            clear hE226 a226
            refine wpList_nil (hK17 _ _ ?_)
            clear hK17 K17
            replace hE227 := hE227.keep (E' := [(0, _), (7, _), (8, _), (57, _)]) ⟨rfl, rfl, rfl, rfl, trivial⟩
            refine condR hE227 rfl ?_ ?_
            · intro hb3
              have ht3 := hb3
              try simp only [decide_eq_true_eq, decide_eq_false_iff_not, Bool.not_eq_true', Bool.not_eq_false', beq_iff_eq, Bool.and_eq_true, Bool.or_eq_true] at ht3
              refine wp_seq_k fun K18 hK18 => ?_
              refine wp_region_lit ?_
              refine one fun C hC => val hE227 (R.move hE227 rfl) rfl fun a228 hE228 => hC _ _ ?_
              clear hC C
              clear hE227 a227
              refine one fun C hC => callM hE228 (fault_c b Z.semi 16 hO202.f) cb_20 rfl hM209 rfl fun  a229 w210 hE229 hM210 => hC _ _ ?_
              clear hC C hE228 hM209 a228
              have hO203 := hO202.fault (x := 16) (d := 5) (by omega)
              have hp203 := hO203.p
              have hn203 := hO203.n
              refine wpList_nil (hK18 _ _ ?_)
              clear hK18 K18
              replace hE229 := hE229.keep (E' := [(0, _), (7, _), (8, _), (57, _)]) ⟨rfl, rfl, rfl, rfl, trivial⟩
              refine wp_region_lit ?_
              refine one fun C hC => val hE229 (R.assign hE229 rfl) rfl fun a230 hE230 => hC _ _ ?_
              clear hC C
              clear hE229 a229
              replace hE230 := hE230.keep (E' := [(0, _), (7, _), (8, _), (57, _)]) ⟨rfl, rfl, rfl, rfl, trivial⟩
              refine wpList_nil (hK16 _ _ ?_)
              refine wp_seq_k fun K19 hK19 => ?_
              refine wp_region_lit ?_
              refine one fun C hC => val hE230 (R.move hE230 rfl) rfl fun a231 hE231 => hC _ _ ?_
              clear hC C
              clear hE230 a230
              refine one fun C hC => lit1 hE231 hM210 4 el_50 rfl rfl rfl  fun b93 a232 w211 hE232 hM211 => hC _ _ ?_
              clear hC C hE231 hM210 a231
              refine one fun C hC => val hE232 (R.assign hE232 rfl) rfl fun a233 hE233 => hC _ _ ?_
              clear hC C
              clear hE232 a232
              refine wpList_nil (hK19 _ _ ?_)
              clear hK19 K19
              replace hE233 := hE233.keep (E' := [(0, _), (2, _), (7, _), (8, _), (57, _)]) ⟨rfl, rfl, rfl, rfl, rfl, trivial⟩
              refine wp_ret (hQ _ _ ?_)
              have hM212 := (hM211.split (FindP.out (b := b93))).row_of_pts (xs := [65533]) (enc := rune) (sz := 1) (by intro x _; rfl) rfl (by simp [maxLen])
              clear hM211
              have hm := hM212
              have hx : S.numeric = ([65533], (Z.semi.fault 16)) := by rw [hS]; unfold M.numBody; rw [if_neg (by omega), hDig]; unfold M.numEnd; (try dsimp only); (repeat' split) <;> first | rfl | (exfalso; omega) | (exfalso; simp_all; done)
              refine back1 hE233 rfl rfl (Mem.doneX (((some ⟨b93, 0, none⟩), [65533].length) : Option Addr × Nat) ?_ ?_)
              · rw [hx]; try rfl
              · rw [hx]; dsimp only; exact hm.cast (by ac_rfl)
            · intro hb3
              have ht3 := hb3
              try simp only [decide_eq_true_eq, decide_eq_false_iff_not, Bool.not_eq_true', Bool.not_eq_false', beq_iff_eq, Bool.and_eq_true, Bool.or_eq_true] at ht3
              refine wp_seq_k fun K20 hK20 => ?_
              refine wp_region_lit ?_
              refine one fun C hC => val hE227 (R.move hE227 rfl) rfl fun a228 hE228 => hC _ _ ?_
              clear hC C
              clear hE227 a227
              refine one fun C hC => val hE228 (R.gtr hE228 rfl rfl) rfl fun a229 hE229 => hC _ _ ?_
              clear hC C
              clear hE228 a228
              refine one fun C hC => val hE229 (R.assign hE229 rfl) rfl fun a230 hE230 => hC _ _ ?_
              clear hC C
              clear hE229 a229
              refine wpList_nil (hK20 _ _ ?_)
              clear hK20 K20
              replace hE230 := hE230.keep (E' := [(0, _), (7, _), (8, _), (57, _), (62, _)]) ⟨rfl, rfl, rfl, rfl, rfl, trivial⟩
              refine condR hE230 rfl ?_ ?_
              · intro hb4
                have ht4 := hb4
                try simp only [decide_eq_true_eq, decide_eq_false_iff_not, Bool.not_eq_true', Bool.not_eq_false', beq_iff_eq, Bool.and_eq_true, Bool.or_eq_true] at ht4
                refine wp_seq_k fun K21 hK21 => ?_
                refine wp_region_lit ?_
                refine one fun C hC => val hE230 (R.move hE230 rfl) rfl fun a231 hE231 => hC _ _ ?_
                clear hC C
                clear hE230 a230
                refine one fun C hC => callM hE231 (fault_c b Z.semi 1 hO202.f) cb_20 rfl hM209 rfl fun  a232 w210 hE232 hM210 => hC _ _ ?_
                clear hC C hE231 hM209 a231
                have hO203 := hO202.fault (x := 1) (d := 5) (by omega)
                have hp203 := hO203.p
                have hn203 := hO203.n
                refine wpList_nil (hK21 _ _ ?_)
                clear hK21 K21
                replace hE232 := hE232.keep (E' := [(0, _), (7, _), (8, _), (57, _), (62, _)]) ⟨rfl, rfl, rfl, rfl, rfl, trivial⟩
                refine wp_region_lit ?_
                refine one fun C hC => val hE232 (R.assign hE232 rfl) rfl fun a233 hE233 => hC _ _ ?_
                clear hC C
                clear hE232 a232
                replace hE233 := hE233.keep (E' := [(0, _), (7, _), (8, _), (57, _), (62, _)]) ⟨rfl, rfl, rfl, rfl, rfl, trivial⟩
                refine wpList_nil (hK16 _ _ ?_)
                refine wp_seq_k fun K22 hK22 => ?_
                refine wp_region_lit ?_
                refine one fun C hC => val hE233 (R.move hE233 rfl) rfl fun a234 hE234 => hC _ _ ?_
                clear hC C
                clear hE233 a233
                refine one fun C hC => lit1 hE234 hM210 4 el_50 rfl rfl rfl  fun b93 a235 w211 hE235 hM211 => hC _ _ ?_
                clear hC C hE234 hM210 a234
                refine one fun C hC => val hE235 (R.assign hE235 rfl) rfl fun a236 hE236 => hC _ _ ?_
                clear hC C
                clear hE235 a235
                refine wpList_nil (hK22 _ _ ?_)
                clear hK22 K22
                replace hE236 := hE236.keep (E' := [(0, _), (2, _), (7, _), (8, _), (57, _), (62, _)]) ⟨rfl, rfl, rfl, rfl, rfl, rfl, trivial⟩
                refine wp_ret (hQ _ _ ?_)
                have hM212 := (hM211.split (FindP.out (b := b93))).row_of_pts (xs := [65533]) (enc := rune) (sz := 1) (by intro x _; rfl) rfl (by simp [maxLen])
                clear hM211
                have hm := hM212
                have hx : S.numeric = ([65533], (Z.semi.fault 1)) := by rw [hS]; unfold M.numBody; rw [if_neg (by omega), hDig]; unfold M.numEnd; (try dsimp only); (repeat' split) <;> first | rfl | (exfalso; omega) | (exfalso; simp_all; done)
                refine back1 hE236 rfl rfl (Mem.doneX (((some ⟨b93, 0, none⟩), [65533].length) : Option Addr × Nat) ?_ ?_)
                · rw [hx]; try rfl
                · rw [hx]; dsimp only; exact hm.cast (by ac_rfl)
              · intro hb4
                have ht4 := hb4
                try simp only [decide_eq_true_eq, decide_eq_false_iff_not, Bool.not_eq_true', Bool.not_eq_false', beq_iff_eq, Bool.and_eq_true, Bool.or_eq_true] at ht4
                refine wp_seq_k fun K23 hK23 => ?_
                refine wp_region_lit ?_
                refine one fun C hC => val hE230 (R.move hE230 rfl) rfl fun a231 hE231 => hC _ _ ?_
                clear hC C
                clear hE230 a230
                refine one fun C hC => val hE231 (R.geq hE231 rfl rfl) rfl fun a232 hE232 => hC _ _ ?_
                clear hC C
                clear hE231 a231
                refine one fun C hC => val hE232 (R.move hE232 rfl) rfl fun a233 hE233 => hC _ _ ?_
                clear hC C
                clear hE232 a232
                refine splitE hE233 (x := .tmp 70) rfl ?_ ?_
                · intro hb5
                  have ht5 := hb5
                  try simp only [decide_eq_true_eq, decide_eq_false_iff_not, Bool.not_eq_true', Bool.not_eq_false', beq_iff_eq, Bool.and_eq_true, Bool.or_eq_true] at ht5
                  refine oneOn hE233 rfl rfl hb5 fun C hC => val hE233 (R.move hE233 rfl) rfl fun a234 hE234 => hC _ _ ?_
                  clear hC C
                  clear hE233 a233
                  refine oneOn hE234 rfl rfl hb5 fun C hC => val hE234 (R.leq hE234 rfl rfl) rfl fun a235 hE235 => hC _ _ ?_
                  clear hC C
                  clear hE234 a234
                  refine one fun C hC => val hE235 (R.pickT hE235 rfl hb5 rfl) rfl fun a236 hE236 => hC _ _ ?_
                  clear hC C
                  clear hE235 a235
                  refine one fun C hC => val hE236 (R.assign hE236 rfl) rfl fun a237 hE237 => hC _ _ ?_
                  clear hC C
                  clear hE236 a236
                  refine wpList_nil (hK23 _ _ ?_)
                  clear hK23 K23
                  replace hE237 := hE237.keep (E' := [(0, _), (7, _), (8, _), (57, _), (62, _), (67, _)]) ⟨rfl, rfl, rfl, rfl, rfl, rfl, trivial⟩
                  refine condR hE237 rfl ?_ ?_
                  · intro hb6
                    have ht6 := hb6
                    try simp only [decide_eq_true_eq, decide_eq_false_iff_not, Bool.not_eq_true', Bool.not_eq_false', beq_iff_eq, Bool.and_eq_true, Bool.or_eq_true] at ht6
                    refine wp_seq_k fun K24 hK24 => ?_
                    refine wp_region_lit ?_
                    refine one fun C hC => val hE237 (R.move hE237 rfl) rfl fun a238 hE238 => hC _ _ ?_
                    clear hC C
                    clear hE237 a237
                    refine one fun C hC => callM hE238 (fault_c b Z.semi 17 hO202.f) cb_20 rfl hM209 rfl fun  a239 w210 hE239 hM210 => hC _ _ ?_
                    clear hC C hE238 hM209 a238
                    have hO203 := hO202.fault (x := 17) (d := 5) (by omega)
                    have hp203 := hO203.p
                    have hn203 := hO203.n
                    refine wpList_nil (hK24 _ _ ?_)
                    clear hK24 K24
                    replace hE239 := hE239.keep (E' := [(0, _), (7, _), (8, _), (57, _), (62, _), (67, _)]) ⟨rfl, rfl, rfl, rfl, rfl, rfl, trivial⟩
                    refine wp_region_lit ?_
                    refine one fun C hC => val hE239 (R.assign hE239 rfl) rfl fun a240 hE240 => hC _ _ ?_
                    clear hC C
                    clear hE239 a239
                    replace hE240 := hE240.keep (E' := [(0, _), (7, _), (8, _), (57, _), (62, _), (67, _)]) ⟨rfl, rfl, rfl, rfl, rfl, rfl, trivial⟩
                    refine wpList_nil (hK16 _ _ ?_)
                    refine wp_seq_k fun K25 hK25 => ?_
                    refine wp_region_lit ?_
                    refine one fun C hC => val hE240 (R.move hE240 rfl) rfl fun a241 hE241 => hC _ _ ?_
                    clear hC C
                    clear hE240 a240
                    refine one fun C hC => lit1 hE241 hM210 4 el_50 rfl rfl rfl  fun b93 a242 w211 hE242 hM211 => hC _ _ ?_
                    clear hC C hE241 hM210 a241
                    refine one fun C hC => val hE242 (R.assign hE242 rfl) rfl fun a243 hE243 => hC _ _ ?_
                    clear hC C
                    clear hE242 a242
                    refine wpList_nil (hK25 _ _ ?_)
                    clear hK25 K25
                    replace hE243 := hE243.keep (E' := [(0, _), (2, _), (7, _), (8, _), (57, _), (62, _), (67, _)]) ⟨rfl, rfl, rfl, rfl, rfl, rfl, rfl, trivial⟩
                    refine wp_ret (hQ _ _ ?_)
                    have hM212 := (hM211.split (FindP.out (b := b93))).row_of_pts (xs := [65533]) (enc := rune) (sz := 1) (by intro x _; rfl) rfl (by simp [maxLen])
                    clear hM211
                    have hm := hM212
                    have hx : S.numeric = ([65533], (Z.semi.fault 17)) := by rw [hS]; unfold M.numBody; rw [if_neg (by omega), hDig]; unfold M.numEnd; (try dsimp only); (repeat' split) <;> first | rfl | (exfalso; omega) | (exfalso; simp_all; done)
                    refine back1 hE243 rfl rfl (Mem.doneX (((some ⟨b93, 0, none⟩), [65533].length) : Option Addr × Nat) ?_ ?_)
                    · rw [hx]; try rfl
                    · rw [hx]; dsimp only; exact hm.cast (by ac_rfl)
                  · intro hb6
                    have ht6 := hb6
                    try simp only [decide_eq_true_eq, decide_eq_false_iff_not, Bool.not_eq_true', Bool.not_eq_false', beq_iff_eq, Bool.and_eq_true, Bool.or_eq_true] at ht6
                    refine wp_seq_k fun K26 hK26 => ?_
                    refine wp_region_lit ?_
                    refine one fun C hC => val hE237 (R.move hE237 rfl) rfl fun a238 hE238 => hC _ _ ?_
                    clear hC C
                    clear hE237 a237
                    refine one fun C hC => callF hE238 (nonchar_c _) cb_29 rfl hM209 rfl  fun  a239 w210 hE239 hM210 => hC _ _ ?_
                    clear hC C hE238 hM209 a238
                    refine one fun C hC => val hE239 (R.assign hE239 rfl) rfl fun a240 hE240 => hC _ _ ?_
                    clear hC C
                    clear hE239 a239
                    refine wpList_nil (hK26 _ _ ?_)
                    clear hK26 K26
                    replace hE240 := hE240.keep (E' := [(0, _), (7, _), (8, _), (57, _), (62, _), (67, _), (76, _)]) ⟨rfl, rfl, rfl, rfl, rfl, rfl, rfl, trivial⟩
                    refine condR hE240 rfl ?_ ?_
                    · intro hb7
                      have ht7 := hb7
                      try simp only [decide_eq_true_eq, decide_eq_false_iff_not, Bool.not_eq_true', Bool.not_eq_false', beq_iff_eq, Bool.and_eq_true, Bool.or_eq_true] at ht7
                      refine wp_region_lit ?_
                      refine one fun C hC => val hE240 (R.move hE240 rfl) rfl fun a241 hE241 => hC _ _ ?_
                      clear hC C
                      clear hE240 a240
                      refine one fun C hC => callM hE241 (fault_c b Z.semi 14 hO202.f) cb_20 rfl hM210 rfl fun  a242 w211 hE242 hM211 => hC _ _ ?_
                      clear hC C hE241 hM210 a241
                      have hO203 := hO202.fault (x := 14) (d := 5) (by omega)
                      have hp203 := hO203.p
                      have hn203 := hO203.n
                      replace hE242 := hE242.keep (E' := [(0, _), (7, _), (8, _), (57, _), (62, _), (67, _), (76, _)]) ⟨rfl, rfl, rfl, rfl, rfl, rfl, rfl, trivial⟩
                      refine wpList_nil (hK16 _ _ ?_)
                      refine wp_seq_k fun K27 hK27 => ?_
                      refine wp_region_lit ?_
                      refine one fun C hC => val hE242 (R.move hE242 rfl) rfl fun a243 hE243 => hC _ _ ?_
                      clear hC C
                      clear hE242 a242
                      refine one fun C hC => lit1 hE243 hM211 4 el_50 rfl rfl rfl  fun b93 a244 w212 hE244 hM212 => hC _ _ ?_
                      clear hC C hE243 hM211 a243
                      refine one fun C hC => val hE244 (R.assign hE244 rfl) rfl fun a245 hE245 => hC _ _ ?_
                      clear hC C
                      clear hE244 a244
                      refine wpList_nil (hK27 _ _ ?_)
                      clear hK27 K27
                      replace hE245 := hE245.keep (E' := [(0, _), (2, _), (7, _), (8, _), (57, _), (62, _), (67, _), (76, _)]) ⟨rfl, rfl, rfl, rfl, rfl, rfl, rfl, rfl, trivial⟩
                      refine wp_ret (hQ _ _ ?_)
                      have hM213 := (hM212.split (FindP.out (b := b93))).row_of_pts (xs := [k]) (enc := rune) (sz := 1) (by intro x _; rfl) rfl (by simp [maxLen])
                      clear hM212
                      have hm := hM213
                      have hx : S.numeric = ([k], (Z.semi.fault 14)) := by rw [hS]; unfold M.numBody; rw [if_neg (by omega), hDig]; unfold M.numEnd; (try dsimp only); (repeat' split) <;> first | rfl | (exfalso; omega) | (exfalso; simp_all; done)
                      refine back1 hE245 rfl rfl (Mem.doneX (((some ⟨b93, 0, none⟩), [k].length) : Option Addr × Nat) ?_ ?_)
                      · rw [hx]; try rfl
                      · rw [hx]; dsimp only; exact hm.cast (by ac_rfl)
                    · intro hb7
                      have ht7 := hb7
                      try simp only [decide_eq_true_eq, decide_eq_false_iff_not, Bool.not_eq_true', Bool.not_eq_false', beq_iff_eq, Bool.and_eq_true, Bool.or_eq_true] at ht7
                      refine wp_seq_k fun K28 hK28 => ?_
                      refine wp_region_lit ?_
                      refine one fun C hC => val hE240 (R.move hE240 rfl) rfl fun a241 hE241 => hC _ _ ?_
                      clear hC C
                      clear hE240 a240
                      refine one fun C hC => callF hE241 (control_c _) cb_28 rfl hM210 rfl  fun  a242 w211 hE242 hM211 => hC _ _ ?_
                      clear hC C hE241 hM210 a241
                      refine one fun C hC => val hE242 (R.assign hE242 rfl) rfl fun a243 hE243 => hC _ _ ?_
                      clear hC C
                      clear hE242 a242
                      refine wpList_nil (hK28 _ _ ?_)
                      clear hK28 K28
                      replace hE243 := hE243.keep (E' := [(0, _), (7, _), (8, _), (57, _), (62, _), (67, _), (76, _), (81, _)]) ⟨rfl, rfl, rfl, rfl, rfl, rfl, rfl, rfl, trivial⟩
                      refine condR hE243 rfl ?_ ?_
                      · intro hb8
                        have ht8 := hb8
                        try simp only [decide_eq_true_eq, decide_eq_false_iff_not, Bool.not_eq_true', Bool.not_eq_false', beq_iff_eq, Bool.and_eq_true, Bool.or_eq_true] at ht8
                        refine wp_seq_k fun K29 hK29 => ?_
                        refine wp_region_lit ?_
                        refine one fun C hC => val hE243 (R.move hE243 rfl) rfl fun a244 hE244 => hC _ _ ?_
                        clear hC C
                        clear hE243 a243
                        refine one fun C hC => callM hE244 (fault_c b Z.semi 3 hO202.f) cb_20 rfl hM211 rfl fun  a245 w212 hE245 hM212 => hC _ _ ?_
                        clear hC C hE244 hM211 a244
                        have hO203 := hO202.fault (x := 3) (d := 5) (by omega)
                        have hp203 := hO203.p
                        have hn203 := hO203.n
                        refine wpList_nil (hK29 _ _ ?_)
                        clear hK29 K29
                        replace hE245 := hE245.keep (E' := [(0, _), (7, _), (8, _), (57, _), (62, _), (67, _), (76, _), (81, _)]) ⟨rfl, rfl, rfl, rfl, rfl, rfl, rfl, rfl, trivial⟩
                        refine wp_seq_k fun K30 hK30 => ?_
                        refine wp_region_lit ?_
                        refine one fun C hC => val hE245 (R.move hE245 rfl) rfl fun a246 hE246 => hC _ _ ?_
                        clear hC C
                        clear hE245 a245
                        refine one fun C hC => val hE246 (R.geq hE246 rfl rfl) rfl fun a247 hE247 => hC _ _ ?_
                        clear hC C
                        clear hE246 a246
                        refine wpList_nil (hK30 _ _ ?_)
                        clear hK30 K30
                        replace hE247 := hE247.keep (E' := [(0, _), (7, _), (8, _), (57, _), (62, _), (67, _), (76, _), (81, _), (87, _)]) ⟨rfl, rfl, rfl, rfl, rfl, rfl, rfl, rfl, rfl, trivial⟩
                        refine condR hE247 rfl ?_ ?_
                        · intro hb9
                          have ht9 := hb9
                          try simp only [decide_eq_true_eq, decide_eq_false_iff_not, Bool.not_eq_true', Bool.not_eq_false', beq_iff_eq, Bool.and_eq_true, Bool.or_eq_true] at ht9
                          refine wp_region_lit ?_
                          refine one fun C hC => val hE247 (R.move hE247 rfl) rfl fun a248 hE248 => hC _ _ ?_
                          clear hC C
                          clear hE247 a247
                          refine one fun C hC => val hE248 (R.sub64 hE248 rfl rfl (by omega) (by omega)) rfl fun a249 hE249 => hC _ _ ?_
                          clear hC C
                          clear hE248 a248
                          refine one fun C hC => val hE249 (R.indexArr hE249 32 21 1 ar_win rfl rfl (k - 128).toNat (by omega) (by have := controlB_rng ht8; omega)) rfl fun a250 hE250 => hC _ _ ?_
                          clear hC C
                          clear hE249 a249
                          refine one fun C hC => val hE250 (R.loadCell hE250 sc_21 rfl (by have hc := controlB_rng ht8; have := hWin.cell (hM212.split (FindA.out (A := G))) (j := (k - 128).toNat) (by omega); simpa using this)) rfl fun a251 hE251 => hC _ _ ?_
                          clear hC C
                          clear hE250 a250
                          refine one fun C hC => val hE251 (R.assign hE251 rfl) rfl fun a252 hE252 => hC _ _ ?_
                          clear hC C
                          clear hE251 a251
                          replace hE252 := hE252.keep (E' := [(0, _), (7, _), (8, _), (57, _), (62, _), (67, _), (76, _), (81, _), (87, _)]) ⟨rfl, rfl, rfl, rfl, rfl, rfl, rfl, rfl, rfl, trivial⟩
                          refine wpList_nil (hK16 _ _ ?_)
                          refine wp_seq_k fun K31 hK31 => ?_
                          refine wp_region_lit ?_
                          refine one fun C hC => val hE252 (R.move hE252 rfl) rfl fun a253 hE253 => hC _ _ ?_
                          clear hC C
                          clear hE252 a252
                          refine one fun C hC => lit1 hE253 hM212 4 el_50 rfl rfl rfl  fun b93 a254 w213 hE254 hM213 => hC _ _ ?_
                          clear hC C hE253 hM212 a253
                          refine one fun C hC => val hE254 (R.assign hE254 rfl) rfl fun a255 hE255 => hC _ _ ?_
                          clear hC C
                          clear hE254 a254
                          refine wpList_nil (hK31 _ _ ?_)
                          clear hK31 K31
                          replace hE255 := hE255.keep (E' := [(0, _), (2, _), (7, _), (8, _), (57, _), (62, _), (67, _), (76, _), (81, _), (87, _)]) ⟨rfl, rfl, rfl, rfl, rfl, rfl, rfl, rfl, rfl, rfl, trivial⟩
                          refine wp_ret (hQ _ _ ?_)
                          have hM214 := (hM213.split (FindP.out (b := b93))).row_of_pts (xs := [windows.getD (k - 128).toNat 0]) (enc := rune) (sz := 1) (by intro x _; rfl) rfl (by simp [maxLen])
                          clear hM213
                          have hm := hM214
                          have hx : S.numeric = ([windows.getD (k - 128).toNat 0], (Z.semi.fault 3)) := by rw [hS]; unfold M.numBody; rw [if_neg (by omega), hDig]; unfold M.numEnd; (try dsimp only); (repeat' split) <;> first | rfl | (exfalso; omega) | (exfalso; simp_all; done)
                          refine back1 hE255 rfl rfl (Mem.doneX (((some ⟨b93, 0, none⟩), [windows.getD (k - 128).toNat 0].length) : Option Addr × Nat) ?_ ?_)
                          · rw [hx]; try rfl
                          · rw [hx]; dsimp only; exact hm.cast (by ac_rfl)
                        · intro hb9
                          have ht9 := hb9
                          try simp only [decide_eq_true_eq, decide_eq_false_iff_not, Bool.not_eq_true', Bool.not_eq_false', beq_iff_eq, Bool.and_eq_true, Bool.or_eq_true] at ht9
                          refine wp_skip (hK16 _ _ ?_)
                          refine wp_seq_k fun K32 hK32 => ?_
                          refine wp_region_lit ?_
                          refine one fun C hC => val hE247 (R.move hE247 rfl) rfl fun a248 hE248 => hC _ _ ?_
                          clear hC C
                          clear hE247 a247
                          refine one fun C hC => lit1 hE248 hM212 4 el_50 rfl rfl rfl  fun b93 a249 w213 hE249 hM213 => hC _ _ ?_
                          clear hC C hE248 hM212 a248
                          refine one fun C hC => val hE249 (R.assign hE249 rfl) rfl fun a250 hE250 => hC _ _ ?_
                          clear hC C
                          clear hE249 a249
                          refine wpList_nil (hK32 _ _ ?_)
                          clear hK32 K32
                          replace hE250 := hE250.keep (E' := [(0, _), (2, _), (7, _), (8, _), (57, _), (62, _), (67, _), (76, _), (81, _), (87, _)]) ⟨rfl, rfl, rfl, rfl, rfl, rfl, rfl, rfl, rfl, rfl, trivial⟩
                          refine wp_ret (hQ _ _ ?_)
                          have hM214 := (hM213.split (FindP.out (b := b93))).row_of_pts (xs := [k]) (enc := rune) (sz := 1) (by intro x _; rfl) rfl (by simp [maxLen])
                          clear hM213
                          have hm := hM214
                          have hx : S.numeric = ([k], (Z.semi.fault 3)) := by rw [hS]; unfold M.numBody; rw [if_neg (by omega), hDig]; unfold M.numEnd; (try dsimp only); (repeat' split) <;> first | rfl | (exfalso; omega) | (exfalso; simp_all; done)
                          refine back1 hE250 rfl rfl (Mem.doneX (((some ⟨b93, 0, none⟩), [k].length) : Option Addr × Nat) ?_ ?_)
                          · rw [hx]; try rfl
                          · rw [hx]; dsimp only; exact hm.cast (by ac_rfl)
                      · intro hb8
                        have ht8 := hb8
                        try simp only [decide_eq_true_eq, decide_eq_false_iff_not, Bool.not_eq_true', Bool.not_eq_false', beq_iff_eq, Bool.and_eq_true, Bool.or_eq_true] at ht8
                        refine wp_skip (hK16 _ _ ?_)
                        refine wp_seq_k fun K33 hK33 => ?_
                        refine wp_region_lit ?_
                        refine one fun C hC => val hE243 (R.move hE243 rfl) rfl fun a244 hE244 => hC _ _ ?_
                        clear hC C
                        clear hE243 a243
                        refine one fun C hC => lit1 hE244 hM211 4 el_50 rfl rfl rfl  fun b93 a245 w212 hE245 hM212 => hC _ _ ?_
                        clear hC C hE244 hM211 a244
                        refine one fun C hC => val hE245 (R.assign hE245 rfl) rfl fun a246 hE246 => hC _ _ ?_
                        clear hC C
                        clear hE245 a245
                        refine wpList_nil (hK33 _ _ ?_)
                        clear hK33 K33
                        replace hE246 := hE246.keep (E' := [(0, _), (2, _), (7, _), (8, _), (57, _), (62, _), (67, _), (76, _), (81, _)]) ⟨rfl, rfl, rfl, rfl, rfl, rfl, rfl, rfl, rfl, trivial⟩
                        refine wp_ret (hQ _ _ ?_)
                        have hM213 := (hM212.split (FindP.out (b := b93))).row_of_pts (xs := [k]) (enc := rune) (sz := 1) (by intro x _; rfl) rfl (by simp [maxLen])
                        clear hM212
                        have hm := hM213
                        have hx : S.numeric = ([k], Z.semi) := by rw [hS]; unfold M.numBody; rw [if_neg (by omega), hDig]; unfold M.numEnd; (try dsimp only); (repeat' split) <;> first | rfl | (exfalso; omega) | (exfalso; simp_all; done)
                        refine back1 hE246 rfl rfl (Mem.doneX (((some ⟨b93, 0, none⟩), [k].length) : Option Addr × Nat) ?_ ?_)
                        · rw [hx]; try rfl
                        · rw [hx]; dsimp only; exact hm.cast (by ac_rfl)
                · intro hb5
                  have ht5 := hb5
                  try simp only [decide_eq_true_eq, decide_eq_false_iff_not, Bool.not_eq_true', Bool.not_eq_false', beq_iff_eq, Bool.and_eq_true, Bool.or_eq_true] at ht5
                  refine oneOff hE233 rfl rfl hb5 rfl fun a234 hE234 => ?_
                  clear hE233 a233
                  refine oneOff hE234 rfl rfl hb5 rfl fun a235 hE235 => ?_
                  clear hE234 a234
                  refine one fun C hC => val hE235 (R.pickF hE235 rfl hb5 rfl) rfl fun a236 hE236 => hC _ _ ?_
                  clear hC C
                  clear hE235 a235
                  refine one fun C hC => val hE236 (R.assign hE236 rfl) rfl fun a237 hE237 => hC _ _ ?_
                  clear hC C
                  clear hE236 a236
                  refine wpList_nil (hK23 _ _ ?_)
                  clear hK23 K23
                  replace hE237 := hE237.keep (E' := [(0, _), (7, _), (8, _), (57, _), (62, _), (67, _)]) ⟨rfl, rfl, rfl, rfl, rfl, rfl, trivial⟩
                  refine condF hE237 rfl rfl ?_
                  refine wp_seq_k fun K34 hK34 => ?_
                  refine wp_region_lit ?_
                  refine one fun C hC => val hE237 (R.move hE237 rfl) rfl fun a238 hE238 => hC _ _ ?_
                  clear hC C
                  clear hE237 a237
                  refine one fun C hC => callF hE238 (nonchar_c _) cb_29 rfl hM209 rfl  fun  a239 w210 hE239 hM210 => hC _ _ ?_
                  clear hC C hE238 hM209 a238
                  refine one fun C hC => val hE239 (R.assign hE239 rfl) rfl fun a240 hE240 => hC _ _ ?_
                  clear hC C
                  clear hE239 a239
                  refine wpList_nil (hK34 _ _ ?_)
                  clear hK34 K34
                  replace hE240 := hE240.keep (E' := [(0, _), (7, _), (8, _), (57, _), (62, _), (67, _), (76, _)]) ⟨rfl, rfl, rfl, rfl, rfl, rfl, rfl, trivial⟩
                  refine condR hE240 rfl ?_ ?_
                  · intro hb6
                    have ht6 := hb6
                    try simp only [decide_eq_true_eq, decide_eq_false_iff_not, Bool.not_eq_true', Bool.not_eq_false', beq_iff_eq, Bool.and_eq_true, Bool.or_eq_true] at ht6
                    refine wp_region_lit ?_
                    refine one fun C hC => val hE240 (R.move hE240 rfl) rfl fun a241 hE241 => hC _ _ ?_
                    clear hC C
                    clear hE240 a240
                    refine one fun C hC => callM hE241 (fault_c b Z.semi 14 hO202.f) cb_20 rfl hM210 rfl fun  a242 w211 hE242 hM211 => hC _ _ ?_
                    clear hC C hE241 hM210 a241
                    have hO203 := hO202.fault (x := 14) (d := 5) (by omega)
                    have hp203 := hO203.p
                    have hn203 := hO203.n
                    replace hE242 := hE242.keep (E' := [(0, _), (7, _), (8, _), (57, _), (62, _), (67, _), (76, _)]) ⟨rfl, rfl, rfl, rfl, rfl, rfl, rfl, trivial⟩
                    refine wpList_nil (hK16 _ _ ?_)
                    refine wp_seq_k fun K35 hK35 => ?_
                    refine wp_region_lit ?_
                    refine one fun C hC => val hE242 (R.move hE242 rfl) rfl fun a243 hE243 => hC _ _ ?_
                    clear hC C
                    clear hE242 a242
                    refine one fun C hC => lit1 hE243 hM211 4 el_50 rfl rfl rfl  fun b93 a244 w212 hE244 hM212 => hC _ _ ?_
                    clear hC C hE243 hM211 a243
                    refine one fun C hC => val hE244 (R.assign hE244 rfl) rfl fun a245 hE245 => hC _ _ ?_
                    clear hC C
                    clear hE244 a244
                    refine wpList_nil (hK35 _ _ ?_)
                    clear hK35 K35
                    replace hE245 := hE245.keep (E' := [(0, _), (2, _), (7, _), (8, _), (57, _), (62, _), (67, _), (76, _)]) ⟨rfl, rfl, rfl, rfl, rfl, rfl, rfl, rfl, trivial⟩
                    refine wp_ret (hQ _ _ ?_)
                    have hM213 := (hM212.split (FindP.out (b := b93))).row_of_pts (xs := [k]) (enc := rune) (sz := 1) (by intro x _; rfl) rfl (by simp [maxLen])
                    clear hM212
                    have hm := hM213
                    have hx : S.numeric = ([k], (Z.semi.fault 14)) := by rw [hS]; unfold M.numBody; rw [if_neg (by omega), hDig]; unfold M.numEnd; (try dsimp only); (repeat' split) <;> first | rfl | (exfalso; omega) | (exfalso; simp_all; done)
                    refine back1 hE245 rfl rfl (Mem.doneX (((some ⟨b93, 0, none⟩), [k].length) : Option Addr × Nat) ?_ ?_)
                    · rw [hx]; try rfl
                    · rw [hx]; dsimp only; exact hm.cast (by ac_rfl)
                  · intro hb6
                    have ht6 := hb6
                    try simp only [decide_eq_true_eq, decide_eq_false_iff_not, Bool.not_eq_true', Bool.not_eq_false', beq_iff_eq, Bool.and_eq_true, Bool.or_eq_true] at ht6
                    refine wp_seq_k fun K36 hK36 => ?_
                    refine wp_region_lit ?_
                    refine one fun C hC => val hE240 (R.move hE240 rfl) rfl fun a241 hE241 => hC _ _ ?_
                    clear hC C
                    clear hE240 a240
                    refine one fun C hC => callF hE241 (control_c _) cb_28 rfl hM210 rfl  fun  a242 w211 hE242 hM211 => hC _ _ ?_
                    clear hC C hE241 hM210 a241
                    refine one fun C hC => val hE242 (R.assign hE242 rfl) rfl fun a243 hE243 => hC _ _ ?_
                    clear hC C
                    clear hE242 a242
                    refine wpList_nil (hK36 _ _ ?_)
                    clear hK36 K36
                    replace hE243 := hE243.keep (E' := [(0, _), (7, _), (8, _), (57, _), (62, _), (67, _), (76, _), (81, _)]) ⟨rfl, rfl, rfl, rfl, rfl, rfl, rfl, rfl, trivial⟩
                    refine condR hE243 rfl ?_ ?_
                    · intro hb7
                      have ht7 := hb7
                      try simp only [decide_eq_true_eq, decide_eq_false_iff_not, Bool.not_eq_true', Bool.not_eq_false', beq_iff_eq, Bool.and_eq_true, Bool.or_eq_true] at ht7
                      refine wp_seq_k fun K37 hK37 => ?_
                      refine wp_region_lit ?_
                      refine one fun C hC => val hE243 (R.move hE243 rfl) rfl fun a244 hE244 => hC _ _ ?_
                      clear hC C
                      clear hE243 a243
                      refine one fun C hC => callM hE244 (fault_c b Z.semi 3 hO202.f) cb_20 rfl hM211 rfl fun  a245 w212 hE245 hM212 => hC _ _ ?_
                      clear hC C hE244 hM211 a244
                      have hO203 := hO202.fault (x := 3) (d := 5) (by omega)
                      have hp203 := hO203.p
                      have hn203 := hO203.n
                      refine wpList_nil (hK37 _ _ ?_)
                      clear hK37 K37
                      replace hE245 := hE245.keep (E' := [(0, _), (7, _), (8, _), (57, _), (62, _), (67, _), (76, _), (81, _)]) ⟨rfl, rfl, rfl, rfl, rfl, rfl, rfl, rfl, trivial⟩
                      refine wp_seq_k fun K38 hK38 => ?_
                      refine wp_region_lit ?_
                      refine one fun C hC => val hE245 (R.move hE245 rfl) rfl fun a246 hE246 => hC _ _ ?_
                      clear hC C
                      clear hE245 a245
                      refine one fun C hC => val hE246 (R.geq hE246 rfl rfl) rfl fun a247 hE247 => hC _ _ ?_
                      clear hC C
                      clear hE246 a246
                      refine wpList_nil (hK38 _ _ ?_)
                      clear hK38 K38
                      replace hE247 := hE247.keep (E' := [(0, _), (7, _), (8, _), (57, _), (62, _), (67, _), (76, _), (81, _), (87, _)]) ⟨rfl, rfl, rfl, rfl, rfl, rfl, rfl, rfl, rfl, trivial⟩
                      refine condR hE247 rfl ?_ ?_
                      · intro hb8
                        have ht8 := hb8
                        try simp only [decide_eq_true_eq, decide_eq_false_iff_not, Bool.not_eq_true', Bool.not_eq_false', beq_iff_eq, Bool.and_eq_true, Bool.or_eq_true] at ht8
                        refine wp_region_lit ?_
                        refine one fun C hC => val hE247 (R.move hE247 rfl) rfl fun a248 hE248 => hC _ _ ?_
                        clear hC C
                        clear hE247 a247
                        refine one fun C hC => val hE248 (R.sub64 hE248 rfl rfl (by omega) (by omega)) rfl fun a249 hE249 => hC _ _ ?_
                        clear hC C
                        clear hE248 a248
                        refine one fun C hC => val hE249 (R.indexArr hE249 32 21 1 ar_win rfl rfl (k - 128).toNat (by omega) (by have := controlB_rng ht7; omega)) rfl fun a250 hE250 => hC _ _ ?_
                        clear hC C
                        clear hE249 a249
                        refine one fun C hC => val hE250 (R.loadCell hE250 sc_21 rfl (by have hc := controlB_rng ht7; have := hWin.cell (hM212.split (FindA.out (A := G))) (j := (k - 128).toNat) (by omega); simpa using this)) rfl fun a251 hE251 => hC _ _ ?_
                        clear hC C
                        clear hE250 a250
                        refine one fun C hC => val hE251 (R.assign hE251 rfl) rfl fun a252 hE252 => hC _ _ ?_
                        clear hC C
                        clear hE251 a251
                        replace hE252 := hE252.keep (E' := [(0, _), (7, _), (8, _), (57, _), (62, _), (67, _), (76, _), (81, _), (87, _)]) ⟨rfl, rfl, rfl, rfl, rfl, rfl, rfl, rfl, rfl, trivial⟩
                        refine wpList_nil (hK16 _ _ ?_)
                        refine wp_seq_k fun K39 hK39 => ?_
                        refine wp_region_lit ?_
                        refine one fun C hC => val hE252 (R.move hE252 rfl) rfl fun a253 hE253 => hC _ _ ?_
                        clear hC C
                        clear hE252 a252
                        refine one fun C hC => lit1 hE253 hM212 4 el_50 rfl rfl rfl  fun b93 a254 w213 hE254 hM213 => hC _ _ ?_
                        clear hC C hE253 hM212 a253
                        refine one fun C hC => val hE254 (R.assign hE254 rfl) rfl fun a255 hE255 => hC _ _ ?_
                        clear hC C
                        clear hE254 a254
                        refine wpList_nil (hK39 _ _ ?_)
                        clear hK39 K39
                        replace hE255 := hE255.keep (E' := [(0, _), (2, _), (7, _), (8, _), (57, _), (62, _), (67, _), (76, _), (81, _), (87, _)]) ⟨rfl, rfl, rfl, rfl, rfl, rfl, rfl, rfl, rfl, rfl, trivial⟩
                        refine wp_ret (hQ _ _ ?_)
                        have hM214 := (hM213.split (FindP.out (b := b93))).row_of_pts (xs := [windows.getD (k - 128).toNat 0]) (enc := rune) (sz := 1) (by intro x _; rfl) rfl (by simp [maxLen])
                        clear hM213
                        have hm := hM214
                        have hx : S.numeric = ([windows.getD (k - 128).toNat 0], (Z.semi.fault 3)) := by rw [hS]; unfold M.numBody; rw [if_neg (by omega), hDig]; unfold M.numEnd; (try dsimp only); (repeat' split) <;> first | rfl | (exfalso; omega) | (exfalso; simp_all; done)
                        refine back1 hE255 rfl rfl (Mem.doneX (((some ⟨b93, 0, none⟩), [windows.getD (k - 128).toNat 0].length) : Option Addr × Nat) ?_ ?_)
                        · rw [hx]; try rfl
                        · rw [hx]; dsimp only; exact hm.cast (by ac_rfl)
                      · intro hb8
                        have ht8 := hb8
                        try simp only [decide_eq_true_eq, decide_eq_false_iff_not, Bool.not_eq_true', Bool.not_eq_false', beq_iff_eq, Bool.and_eq_true, Bool.or_eq_true] at ht8
                        refine wp_skip (hK16 _ _ ?_)
                        refine wp_seq_k fun K40 hK40 => ?_
                        refine wp_region_lit ?_
                        refine one fun C hC => val hE247 (R.move hE247 rfl) rfl fun a248 hE248 => hC _ _ ?_
                        clear hC C
                        clear hE247 a247
                        refine one fun C hC => lit1 hE248 hM212 4 el_50 rfl rfl rfl  fun b93 a249 w213 hE249 hM213 => hC _ _ ?_
                        clear hC C hE248 hM212 a248
                        refine one fun C hC => val hE249 (R.assign hE249 rfl) rfl fun a250 hE250 => hC _ _ ?_
                        clear hC C
                        clear hE249 a249
                        refine wpList_nil (hK40 _ _ ?_)
                        clear hK40 K40
                        replace hE250 := hE250.keep (E' := [(0, _), (2, _), (7, _), (8, _), (57, _), (62, _), (67, _), (76, _), (81, _), (87, _)]) ⟨rfl, rfl, rfl, rfl, rfl, rfl, rfl, rfl, rfl, rfl, trivial⟩
                        refine wp_ret (hQ _ _ ?_)
                        have hM214 := (hM213.split (FindP.out (b := b93))).row_of_pts (xs := [k]) (enc := rune) (sz := 1) (by intro x _; rfl) rfl (by simp [maxLen])
                        clear hM213
                        have hm := hM214
                        have hx : S.numeric = ([k], (Z.semi.fault 3)) := by rw [hS]; unfold M.numBody; rw [if_neg (by omega), hDig]; unfold M.numEnd; (try dsimp only); (repeat' split) <;> first | rfl | (exfalso; omega) | (exfalso; simp_all; done)
                        refine back1 hE250 rfl rfl (Mem.doneX (((some ⟨b93, 0, none⟩), [k].length) : Option Addr × Nat) ?_ ?_)
                        · rw [hx]; try rfl
                        · rw [hx]; dsimp only; exact hm.cast (by ac_rfl)
                    · intro hb7
                      have ht7 := hb7
                      try simp only [decide_eq_true_eq, decide_eq_false_iff_not, Bool.not_eq_true', Bool.not_eq_false', beq_iff_eq, Bool.and_eq_true, Bool.or_eq_true] at ht7
                      refine wp_skip (hK16 _ _ ?_)
                      refine wp_seq_k fun K41 hK41 => ?_
                      refine wp_region_lit ?_
                      refine one fun C hC => val hE243 (R.move hE243 rfl) rfl fun a244 hE244 => hC _ _ ?_
                      clear hC C
                      clear hE243 a243
                      refine one fun C hC => lit1 hE244 hM211 4 el_50 rfl rfl rfl  fun b93 a245 w212 hE245 hM212 => hC _ _ ?_
                      clear hC C hE244 hM211 a244
                      refine one fun C hC => val hE245 (R.assign hE245 rfl) rfl fun a246 hE246 => hC _ _ ?_
                      clear hC C
                      clear hE245 a245
                      refine wpList_nil (hK41 _ _ ?_)
                      clear hK41 K41
                      replace hE246 := hE246.keep (E' := [(0, _), (2, _), (7, _), (8, _), (57, _), (62, _), (67, _), (76, _), (81, _)]) ⟨rfl, rfl, rfl, rfl, rfl, rfl, rfl, rfl, rfl, trivial⟩
                      refine wp_ret (hQ _ _ ?_)
                      have hM213 := (hM212.split (FindP.out (b := b93))).row_of_pts (xs := [k]) (enc := rune) (sz := 1) (by intro x _; rfl) rfl (by simp [maxLen])
                      clear hM212
                      have hm := hM213
                      have hx : S.numeric = ([k], Z.semi) := by rw [hS]; unfold M.numBody; rw [if_neg (by omega), hDig]; unfold M.numEnd; (try dsimp only); (repeat' split) <;> first | rfl | (exfalso; omega) | (exfalso; simp_all; done)
                      refine back1 hE246 rfl rfl (Mem.doneX (((some ⟨b93, 0, none⟩), [k].length) : Option Addr × Nat) ?_ ?_)
                      · rw [hx]; try rfl
                      · rw [hx]; dsimp only; exact hm.cast (by ac_rfl)
          clear hK14
          have hL14 : ∀ a w, K14 a w → K14 a w := fun _ _ h => h
          refine wp_seq_k fun K42 hK42 => ?_
          refine wp_region_lit ?_
          refine one fun C hC => val hE121 (R.move hE121 rfl) rfl fun a122 hE122 => hC _ _ ?_
          clear hC C
          clear hE121 a121
          refine one fun C hC => callM hE122 (peek_k b Z 0 0 (by omega) (by omega) hO102.pos) cb_21 rfl (hM109.cast (show _ = (star (mach V b Z) (star (pts cb 3 [.int .i64 base]) (star (row 21 1 rune oA oC out) (star G F0)))) from by ac_rfl)) rfl fun  a123 w110 hE123 hM110 => hC _ _ ?_
          clear hC C hE122 hM109 a122
          refine one fun C hC => val hE123 (R.eql hE123 rfl rfl) rfl fun a124 hE124 => hC _ _ ?_
          clear hC C
          clear hE123 a123
          refine wpList_nil (hK42 _ _ ?_)
          clear hK42 K42
          replace hE124 := hE124.keep (E' := [(0, _), (3, _), (4, _), (6, _), (7, _), (38, _), (50, _)]) ⟨rfl, rfl, rfl, rfl, rfl, rfl, rfl, trivial⟩
          refine condR hE124 rfl ?_ ?_
          · intro hb3
            have ht3 := hb3
            try simp only [decide_eq_true_eq, decide_eq_false_iff_not, Bool.not_eq_true', Bool.not_eq_false', beq_iff_eq, Bool.and_eq_true, Bool.or_eq_true] at ht3
            refine wp_region_lit ?_
            refine one fun C hC => val hE124 (R.move hE124 rfl) rfl fun a125 hE125 => hC _ _ ?_
            clear hC C
            clear hE124 a124
            refine one fun C hC => callM hE125 (read_c b Z hO102.pos hO102.f) cb_14 rfl (hM110.cast (show _ = (star (mach V b Z) (star (pts cb 3 [.int .i64 base]) (star (row 21 1 rune oA oC out) (star G F0)))) from by ac_rfl)) rfl fun  a126 w111 hE126 hM111 => hC _ _ ?_
            clear hC C hE125 hM110 a125
            have hO103 := hO102.read
            have hp103 := hO103.p
            have hn103 := hO103.n
            replace hE126 := hE126.keep (E' := [(0, _), (3, _), (4, _), (6, _), (7, _), (38, _), (50, _)]) ⟨rfl, rfl, rfl, rfl, rfl, rfl, rfl, trivial⟩
            refine wpList_nil (hL14 _ _ ?_)
            have hm := hM111
            replace hm := hm.cut (pts cb 3 [.int .i64 base])
            replace hm := hm.cut (row 21 1 rune oA oC out)
            have ej : Z.semi = Z.read := by unfold M.semi; rw [if_pos ht3]
            rw [← ej] at hm
            exact hJ14 () _ _ (hE126.keep (by refine ⟨?_, ?_, trivial⟩ <;> rfl)) (hm.cast (by ac_rfl)) (by rw [ej]; exact hO103.le (by omega)) (trivial)
          · intro hb3
            have ht3 := hb3
            try simp only [decide_eq_true_eq, decide_eq_false_iff_not, Bool.not_eq_true', Bool.not_eq_false', beq_iff_eq, Bool.and_eq_true, Bool.or_eq_true] at ht3
            refine wp_region_lit ?_
            refine one fun C hC => val hE124 (R.move hE124 rfl) rfl fun a125 hE125 => hC _ _ ?_
            clear hC C
            clear hE124 a124
            refine one fun C hC => callM hE125 (fault_c b Z 12 hO102.f) cb_20 rfl (hM110.cast (show _ = (star (mach V b Z) (star (pts cb 3 [.int .i64 base]) (star (row 21 1 rune oA oC out) (star G F0)))) from by ac_rfl)) rfl fun  a126 w111 hE126 hM111 => hC _ _ ?_
            clear hC C hE125 hM110 a125
            have hO103 := hO102.fault (x := 12) (d := 7) (by omega)
            have hp103 := hO103.p
            have hn103 := hO103.n
            replace hE126 := hE126.keep (E' := [(0, _), (3, _), (4, _), (6, _), (7, _), (38, _), (50, _)]) ⟨rfl, rfl, rfl, rfl, rfl, rfl, rfl, trivial⟩
            refine wpList_nil (hL14 _ _ ?_)
            have hm := hM111
            replace hm := hm.cut (pts cb 3 [.int .i64 base])
            replace hm := hm.cut (row 21 1 rune oA oC out)
            have ej : Z.semi = (Z.fault 12) := by unfold M.semi; rw [if_neg ht3]
            rw [← ej] at hm
            exact hJ14 () _ _ (hE126.keep (by refine ⟨?_, ?_, trivial⟩ <;> rfl)) (hm.cast (by ac_rfl)) (by rw [ej]; exact hO103.le (by omega)) (trivial)
  clear hK3
  have hL3 : ∀ a w, K3 a w → K3 a w := fun _ _ h => h
  refine wp_seq_k fun K43 hK43 => ?_
  refine wp_region_lit ?_
  refine one fun C hC => val hE7 (R.move hE7 rfl) rfl fun a8 hE8 => hC _ _ ?_
  clear hC C
  clear hE7 a7
  refine one fun C hC => callM hE8 (peek_k b S.read 0 0 (by omega) (by omega) hO1.pos) cb_21 rfl (hM4.cast (show _ = (star (mach V b S.read) (star (pts b4 3 [.int .i64 10]) (star (pts b11 21 [.int .i32 38, .int .i32 (S.peek 0)]) (star G F0)))) from by ac_rfl)) rfl fun  a9 w5 hE9 hM5 => hC _ _ ?_
  clear hC C hE8 hM4 a8
  refine one fun C hC => val hE9 (R.assign hE9 rfl) rfl fun a10 hE10 => hC _ _ ?_
  clear hC C
  clear hE9 a9
  refine wpList_nil (hK43 _ _ ?_)
  clear hK43 K43
  replace hE10 := hE10.keep (E' := [(0, _), (2, _), (3, _), (4, _), (5, _)]) ⟨rfl, rfl, rfl, rfl, rfl, trivial⟩
  refine wp_seq_k fun K44 hK44 => ?_
  refine wp_region_lit ?_
  refine one fun C hC => val hE10 (R.move hE10 rfl) rfl fun a11 hE11 => hC _ _ ?_
  clear hC C
  clear hE10 a10
  refine one fun C hC => val hE11 (R.eql hE11 rfl rfl) rfl fun a12 hE12 => hC _ _ ?_
  clear hC C
  clear hE11 a11
  refine one fun C hC => val hE12 (R.move hE12 rfl) rfl fun a13 hE13 => hC _ _ ?_
  clear hC C
  clear hE12 a12
  refine splitE hE13 (x := .tmp 16) rfl ?_ ?_
  · intro hb1
    have ht1 := hb1
    try simp only [decide_eq_true_eq, decide_eq_false_iff_not, Bool.not_eq_true', Bool.not_eq_false', beq_iff_eq, Bool.and_eq_true, Bool.or_eq_true] at ht1
    refine oneOff hE13 rfl rfl hb1 rfl fun a14 hE14 => ?_
    clear hE13 a13
    refine oneOff hE14 rfl rfl hb1 rfl fun a15 hE15 => ?_
    clear hE14 a14
    refine one fun C hC => val hE15 (R.pickT hE15 rfl hb1 rfl) rfl fun a16 hE16 => hC _ _ ?_
    clear hC C
    clear hE15 a15
    refine wpList_nil (hK44 _ _ ?_)
    clear hK44 K44
    replace hE16 := hE16.keep (E' := [(0, _), (2, _), (3, _), (4, _), (5, _), (19, _)]) ⟨rfl, rfl, rfl, rfl, rfl, rfl, trivial⟩
    refine condT hE16 rfl rfl ?_
    refine wp_seq_k fun K45 hK45 => ?_
    refine wp_region_lit ?_
    refine one fun C hC => store hE16 hM5 sc_3 rfl rfl rfl rfl  fun  a17 w6 hE17 hM6 => hC _ _ ?_
    clear hC C hE16 hM5 a16
    try simp only [List.set_cons_zero, List.set_cons_succ, Nat.zero_add] at hM6
    refine wpList_nil (hK45 _ _ ?_)
    clear hK45 K45
    replace hE17 := hE17.keep (E' := [(0, _), (2, _), (3, _), (4, _), (5, _), (19, _)]) ⟨rfl, rfl, rfl, rfl, rfl, rfl, trivial⟩
    refine wp_region_lit ?_
    refine one fun C hC => val hE17 (R.move hE17 rfl) rfl fun a18 hE18 => hC _ _ ?_
    clear hC C
    clear hE17 a17
    refine one fun C hC => val hE18 (R.move hE18 rfl) rfl fun a19 hE19 => hC _ _ ?_
    clear hC C
    clear hE18 a18
    refine one fun C hC => callM hE19 (read_c b S.read hO1.pos hO1.f) cb_14 rfl (hM6.cast (show _ = (star (mach V b S.read) (star (pts b4 3 [.int .i64 16]) (star (pts b11 21 [.int .i32 38, .int .i32 (S.peek 0)]) (star G F0)))) from by ac_rfl)) rfl fun  a20 w7 hE20 hM7 => hC _ _ ?_
    clear hC C hE19 hM6 a19
    have hO2 := hO1.read
    have hp2 := hO2.p
    have hn2 := hO2.n
    refine one fun C hC => lit1 hE20 hM7 4 el_50 rfl rfl rfl  fun b23 a21 w8 hE21 hM8 => hC _ _ ?_
    clear hC C hE20 hM7 a20
    have hM9 := (hM8.split (FindP.out (b := b11))).row_of_pts (xs := [38, S.peek 0]) (enc := rune) (sz := 1) (by intro x _; rfl) rfl (by simp [maxLen])
    clear hM8
    refine one fun C hC => appendL (xs := [38, S.peek 0]) hE21 [S.read.peek 0] el_50 rfl rfl hM9 rfl rfl rfl (by unfold maxLen; first | omega | (simp; done) | (simp; omega)) (by first | omega | (simp; done) | (simp; omega)) rfl fun A24 C24 a22 w10 hE22 hM10 => hC _ _ ?_
    clear hC C hE21 hM9 a21
    refine one fun C hC => val hE22 (R.assign hE22 rfl) rfl fun a23 hE23 => hC _ _ ?_
    clear hC C
    clear hE22 a22
    replace hE23 := hE23.keep (E' := [(0, _), (2, _), (3, _), (4, _), (5, _), (19, _)]) ⟨rfl, rfl, rfl, rfl, rfl, rfl, trivial⟩
    refine wpList_nil (hL3 _ _ ?_)
    have hm := hM10
    exact hJ3 S.read.read 16 ([38, S.peek 0] ++ [S.read.peek 0]) A24 C24 b4 _ _ (hE23.keep (by refine ⟨?_, ?_, ?_, trivial⟩ <;> rfl)) (hm.cast (by ac_rfl)) (hO2.le (by omega)) (⟨by unfold M.numeric M.isX; rw [if_pos (by simp [ht1])]; try rfl, by simp, by simp, by omega, by omega⟩)
  · intro hb1
    have ht1 := hb1
    try simp only [decide_eq_true_eq, decide_eq_false_iff_not, Bool.not_eq_true', Bool.not_eq_false', beq_iff_eq, Bool.and_eq_true, Bool.or_eq_true] at ht1
    refine oneOn hE13 rfl rfl hb1 fun C hC => val hE13 (R.move hE13 rfl) rfl fun a14 hE14 => hC _ _ ?_
    clear hC C
    clear hE13 a13
    refine oneOn hE14 rfl rfl hb1 fun C hC => val hE14 (R.eql hE14 rfl rfl) rfl fun a15 hE15 => hC _ _ ?_
    clear hC C
    clear hE14 a14
    refine one fun C hC => val hE15 (R.pickF hE15 rfl hb1 rfl) rfl fun a16 hE16 => hC _ _ ?_
    clear hC C
    clear hE15 a15
    refine wpList_nil (hK44 _ _ ?_)
    clear hK44 K44
    replace hE16 := hE16.keep (E' := [(0, _), (2, _), (3, _), (4, _), (5, _), (19, _)]) ⟨rfl, rfl, rfl, rfl, rfl, rfl, trivial⟩
    refine condR hE16 rfl ?_ ?_
    · intro hb2
      have ht2 := hb2
      try simp only [decide_eq_true_eq, decide_eq_false_iff_not, Bool.not_eq_true', Bool.not_eq_false', beq_iff_eq, Bool.and_eq_true, Bool.or_eq_true] at ht2
      refine wp_seq_k fun K46 hK46 => ?_
      refine wp_region_lit ?_
      refine one fun C hC => store hE16 hM5 sc_3 rfl rfl rfl rfl  fun  a17 w6 hE17 hM6 => hC _ _ ?_
      clear hC C hE16 hM5 a16
      try simp only [List.set_cons_zero, List.set_cons_succ, Nat.zero_add] at hM6
      refine wpList_nil (hK46 _ _ ?_)
      clear hK46 K46
      replace hE17 := hE17.keep (E' := [(0, _), (2, _), (3, _), (4, _), (5, _), (19, _)]) ⟨rfl, rfl, rfl, rfl, rfl, rfl, trivial⟩
      refine wp_region_lit ?_
      refine one fun C hC => val hE17 (R.move hE17 rfl) rfl fun a18 hE18 => hC _ _ ?_
      clear hC C
      clear hE17 a17
      refine one fun C hC => val hE18 (R.move hE18 rfl) rfl fun a19 hE19 => hC _ _ ?_
      clear hC C
      clear hE18 a18
      refine one fun C hC => callM hE19 (read_c b S.read hO1.pos hO1.f) cb_14 rfl (hM6.cast (show _ = (star (mach V b S.read) (star (pts b4 3 [.int .i64 16]) (star (pts b11 21 [.int .i32 38, .int .i32 (S.peek 0)]) (star G F0)))) from by ac_rfl)) rfl fun  a20 w7 hE20 hM7 => hC _ _ ?_
      clear hC C hE19 hM6 a19
      have hO2 := hO1.read
      have hp2 := hO2.p
      have hn2 := hO2.n
      refine one fun C hC => lit1 hE20 hM7 4 el_50 rfl rfl rfl  fun b23 a21 w8 hE21 hM8 => hC _ _ ?_
      clear hC C hE20 hM7 a20
      have hM9 := (hM8.split (FindP.out (b := b11))).row_of_pts (xs := [38, S.peek 0]) (enc := rune) (sz := 1) (by intro x _; rfl) rfl (by simp [maxLen])
      clear hM8
      refine one fun C hC => appendL (xs := [38, S.peek 0]) hE21 [S.read.peek 0] el_50 rfl rfl hM9 rfl rfl rfl (by unfold maxLen; first | omega | (simp; done) | (simp; omega)) (by first | omega | (simp; done) | (simp; omega)) rfl fun A24 C24 a22 w10 hE22 hM10 => hC _ _ ?_
      clear hC C hE21 hM9 a21
      refine one fun C hC => val hE22 (R.assign hE22 rfl) rfl fun a23 hE23 => hC _ _ ?_
      clear hC C
      clear hE22 a22
      replace hE23 := hE23.keep (E' := [(0, _), (2, _), (3, _), (4, _), (5, _), (19, _)]) ⟨rfl, rfl, rfl, rfl, rfl, rfl, trivial⟩
      refine wpList_nil (hL3 _ _ ?_)
      have hm := hM10
      exact hJ3 S.read.read 16 ([38, S.peek 0] ++ [S.read.peek 0]) A24 C24 b4 _ _ (hE23.keep (by refine ⟨?_, ?_, ?_, trivial⟩ <;> rfl)) (hm.cast (by ac_rfl)) (hO2.le (by omega)) (⟨by unfold M.numeric M.isX; rw [if_pos (by simp [ht1, ht2])]; try rfl, by simp, by simp, by omega, by omega⟩)
    · intro hb2
      have ht2 := hb2
      try simp only [decide_eq_true_eq, decide_eq_false_iff_not, Bool.not_eq_true', Bool.not_eq_false', beq_iff_eq, Bool.and_eq_true, Bool.or_eq_true] at ht2
      refine wp_skip (hL3 _ _ ?_)
      have hM6 := (hM5.split (FindP.out (b := b11))).row_of_pts (xs := [38, S.peek 0]) (enc := rune) (sz := 1) (by intro x _; rfl) rfl (by simp [maxLen])
      clear hM5
      have hm := hM6
      exact hJ3 S.read 10 [38, S.peek 0] (some ⟨b11, 0, none⟩) ([38, S.peek 0].length) b4 _ _ (hE16.keep (by refine ⟨?_, ?_, ?_, trivial⟩ <;> rfl)) (hm.cast (by ac_rfl)) (hO1.le (by omega)) (⟨by unfold M.numeric M.isX; rw [if_neg (by simp [ht1, ht2])]; try rfl, by simp, by simp, by omega, by omega⟩)

end Go.Sv
