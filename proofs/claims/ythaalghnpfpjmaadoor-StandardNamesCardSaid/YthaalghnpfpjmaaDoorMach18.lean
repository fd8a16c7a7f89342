import Derived.Test.YthaalghnpfpjmaaDoorProg
import Derived.Test.YthaalghnpfpjmaaDoorMach17
import Derived.Test.YthaalghnpfpjmaaDoorRefs6
set_option linter.all false
set_option linter.unusedVariables false
set_option linter.unusedSimpArgs false
set_option maxRecDepth 100000
namespace Go.Sv
open Go.RowKit Go.Proofs
attribute [local irreducible] row pts star blk emp fact any attrsOf machAt tagAt

namespace FMach18
theorem fb_53_0 : fieldB Tryd.prog 53 0 0 = true := by kernel_rfl
theorem fb_53_1 : fieldB Tryd.prog 53 1 1 = true := by kernel_rfl
theorem mix : Tryd.prog.follows .mixedOrders = true := by kernel_rfl
theorem sc_21 : scalarB Tryd.prog 21 = true := by kernel_rfl
theorem sc_3 : scalarB Tryd.prog 3 = true := by kernel_rfl
theorem sc_50 : scalarB Tryd.prog 50 = true := by kernel_rfl
theorem sl_50 : sliceB Tryd.prog 50 21 1 = true := by kernel_rfl
end FMach18
open FMach18
theorem peek_ro {V : Option (Option Addr × Nat)} (b : Nat) (S : M) (i : Int) (h0 : 0 ≤ i) (h1 : i ≤ 4194304) (hp : S.pos ≤ 4194304) : Fr Tryd.prog 21 [.pointer (some ⟨b, 0, none⟩), .int .i64 i] (mach V b S) (.int .i32 (S.peek i.toNat)) := by
  intro β w0 F0 X hM0 hX
  obtain ⟨x, hk, hV, hM1⟩ := machAt.open_ hM0
  clear hM0
  rename Mem _ _ _ => hM0
  replace hM0 := Mem.both hM0 hX
  refine enter (R := fun v => fact (v = .int .i32 (S.peek i.toNat))) (F := X) Tryd.func21 (by rfl) 29 rfl rfl fun a0 Q hE0 hQ hN hP => ?_
  refine wp_seq_k fun K0 hK0 => ?_
  refine wp_region_lit ?_
  refine one fun C hC => val hE0 (R.assign hE0 rfl) rfl fun a1 hE1 => hC _ _ ?_
  clear hC C
  clear hE0 a0
  refine wpList_nil (hK0 _ _ ?_)
  clear hK0 K0
  replace hE1 := hE1.keep (E' := [(0, _), (1, _), (4, _)]) ⟨rfl, rfl, rfl, trivial⟩
  refine wp_seq_k fun K1 hK1 => ?_
  refine wp_seq_k fun K2 hK2 => ?_
  refine quietR mix (by kernel_rfl) hM0 fun C hC => ?_
  refine qval hE1 (fun _ hW => by exact R.move hE1 rfl) rfl fun a2 hE2 => ?_
  clear hE1 a1
  refine qval hE2 (fun _ hW => by exact R.nil hE2 rfl) rfl fun a3 hE3 => ?_
  clear hE2 a2
  refine qval hE3 (fun _ hW => by exact R.fieldAddr hE3 53 1 1 fb_53_1 rfl) rfl fun a4 hE4 => ?_
  clear hE3 a3
  refine qval hE4 (fun _ hW => by exact R.load hE4 sc_3 rfl hW.left (by rfl)) rfl fun a5 hE5 => ?_
  clear hE4 a4
  refine qval hE5 (fun _ hW => by exact R.move hE5 rfl) rfl fun a6 hE6 => ?_
  clear hE5 a5
  refine qval hE6 (fun _ hW => by exact R.add64 hE6 rfl rfl (by omega) (by omega)) rfl fun a7 hE7 => ?_
  clear hE6 a6
  refine qval hE7 (fun _ hW => by exact R.move hE7 rfl) rfl fun a8 hE8 => ?_
  clear hE7 a7
  refine qval hE8 (fun _ hW => by exact R.nil hE8 rfl) rfl fun a9 hE9 => ?_
  clear hE8 a8
  refine qval hE9 (fun _ hW => by exact R.fieldAddr hE9 53 0 0 fb_53_0 rfl) rfl fun a10 hE10 => ?_
  clear hE9 a9
  refine qval hE10 (fun _ hW => by exact R.load hE10 sc_50 rfl hW.left (by rfl)) rfl fun a11 hE11 => ?_
  clear hE10 a10
  refine qval hE11 (fun _ hW => by exact R.lenSlice hE11 21 1 sl_50 rfl) rfl fun a12 hE12 => ?_
  clear hE11 a11
  refine qval hE12 (fun _ hW => by exact R.lss hE12 rfl rfl) rfl fun a13 hE13 => ?_
  clear hE12 a12
  refine wpQuiet_nil (hC _ fun w1 hM1 => ?_)
  clear hC C hM0
  refine hK2 _ _ ?_
  clear hK2 K2
  replace hE13 := hE13.keep (E' := [(0, _), (1, _), (4, _), (16, _)]) ⟨rfl, rfl, rfl, rfl, trivial⟩
  refine condR hE13 rfl ?_ ?_
  · intro hb1
    have ht1 := hb1
    try simp only [decide_eq_true_eq, decide_eq_false_iff_not, Bool.not_eq_true', Bool.not_eq_false', beq_iff_eq, Bool.and_eq_true, Bool.or_eq_true] at ht1
    refine wp_seq_k fun K3 hK3 => ?_
    refine quietR mix (by kernel_rfl) hM1 fun C hC => ?_
    refine qval hE13 (fun _ hW => by exact R.move hE13 rfl) rfl fun a14 hE14 => ?_
    clear hE13 a13
    refine qval hE14 (fun _ hW => by exact R.nil hE14 rfl) rfl fun a15 hE15 => ?_
    clear hE14 a14
    refine qval hE15 (fun _ hW => by exact R.fieldAddr hE15 53 0 0 fb_53_0 rfl) rfl fun a16 hE16 => ?_
    clear hE15 a15
    refine qval hE16 (fun _ hW => by exact R.load hE16 sc_50 rfl hW.left (by rfl)) rfl fun a17 hE17 => ?_
    clear hE16 a16
    refine qval hE17 (fun _ hW => by exact R.move hE17 rfl) rfl fun a18 hE18 => ?_
    clear hE17 a17
    refine qval hE18 (fun _ hW => by exact R.nil hE18 rfl) rfl fun a19 hE19 => ?_
    clear hE18 a18
    refine qval hE19 (fun _ hW => by exact R.fieldAddr hE19 53 1 1 fb_53_1 rfl) rfl fun a20 hE20 => ?_
    clear hE19 a19
    refine qval hE20 (fun _ hW => by exact R.load hE20 sc_3 rfl hW.left (by rfl)) rfl fun a21 hE21 => ?_
    clear hE20 a20
    refine qval hE21 (fun _ hW => by exact R.move hE21 rfl) rfl fun a22 hE22 => ?_
    clear hE21 a21
    refine qval hE22 (fun _ hW => by exact R.add64 hE22 rfl rfl (by omega) (by omega)) rfl fun a23 hE23 => ?_
    clear hE22 a22
    refine qval hE23 (fun _ hW => by exact R.indexRow hE23 21 1 sl_50 rfl rfl hW.left (S.pos + i.toNat) (by omega) (by omega) rfl) rfl fun a24 hE24 => ?_
    clear hE23 a23
    refine qval hE24 (fun _ hW => by exact R.loadInt hE24 sc_21 rfl hW.left (S.pos + i.toNat) rfl (getElem?_of_lt (l := S.inp) (j := S.pos + i.toNat) (by omega))) rfl fun a25 hE25 => ?_
    clear hE24 a24
    refine qval hE25 (fun _ hW => by exact R.assign hE25 rfl) rfl fun a26 hE26 => ?_
    clear hE25 a25
    refine wpQuiet_nil (hC _ fun w2 hM2 => ?_)
    clear hC C hM1
    refine hK3 _ _ ?_
    clear hK3 K3
    replace hE26 := hE26.keep (E' := [(0, _), (1, _), (4, _), (16, _)]) ⟨rfl, rfl, rfl, rfl, trivial⟩
    refine wp_ret (hQ _ _ ?_)
    refine back1 hE26 rfl rfl (Mem.mkFact ?_ hM2.right)
    rw [M.peek]; first | rw [getElem?_of_lt (by omega)]; rfl | rw [List.getElem?_eq_none (by omega)]; rfl
  · intro hb1
    have ht1 := hb1
    try simp only [decide_eq_true_eq, decide_eq_false_iff_not, Bool.not_eq_true', Bool.not_eq_false', beq_iff_eq, Bool.and_eq_true, Bool.or_eq_true] at ht1
    refine wp_skip (hK1 _ _ ?_)
    refine wp_seq_k fun K4 hK4 => ?_
    refine wp_region_lit ?_
    refine one fun C hC => val hE13 (R.assign hE13 rfl) rfl fun a14 hE14 => hC _ _ ?_
    clear hC C
    clear hE13 a13
    refine wpList_nil (hK4 _ _ ?_)
    clear hK4 K4
    replace hE14 := hE14.keep (E' := [(0, _), (1, _), (4, _), (16, _)]) ⟨rfl, rfl, rfl, rfl, trivial⟩
    refine wp_ret (hQ _ _ ?_)
    refine back1 hE14 rfl rfl (Mem.mkFact ?_ hM1.right)
    rw [M.peek]; first | rw [getElem?_of_lt (by omega)]; rfl | rw [List.getElem?_eq_none (by omega)]; rfl
theorem peek_ro0 {V : Option (Option Addr × Nat)} (b : Nat) (S : M) (hp : S.pos ≤ 4194304) : Fr Tryd.prog 21 [.pointer (some ⟨b, 0, none⟩), .int .i64 0] (mach V b S) (.int .i32 (S.peek 0)) := peek_ro b S 0 (by omega) (by omega) hp

end Go.Sv
