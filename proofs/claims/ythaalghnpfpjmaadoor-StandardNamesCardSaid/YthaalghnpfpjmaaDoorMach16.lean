import Derived.Test.YthaalghnpfpjmaaDoorProg
import Derived.Test.YthaalghnpfpjmaaDoorMach15
import Derived.Test.YthaalghnpfpjmaaDoorRules4
set_option linter.all false
set_option linter.unusedVariables false
set_option linter.unusedSimpArgs false
set_option maxRecDepth 100000
namespace Go.Sv
open Go.RowKit Go.Proofs
attribute [local irreducible] row pts star blk emp fact any attrsOf machAt tagAt

namespace FMach16
theorem al_118 : (Tryd.prog.info? 118).bind (·.zero) = some (.agg [.string ByteArray.empty, .string ByteArray.empty, .string ByteArray.empty, .string ByteArray.empty, .string ByteArray.empty, .string ByteArray.empty, .string ByteArray.empty, .string ByteArray.empty, .string ByteArray.empty, .string ByteArray.empty, .string ByteArray.empty, .string ByteArray.empty, .string ByteArray.empty, .string ByteArray.empty, .string ByteArray.empty, .string ByteArray.empty].toArray) := by kernel_rfl
theorem ar_l : arrayB Tryd.prog 118 16 9 1 = true := by kernel_rfl
theorem sc_9 : scalarB Tryd.prog 9 = true := by kernel_rfl
theorem ss_118 : structB Tryd.prog 118 16 = true := by kernel_rfl
end FMach16
open FMach16
def encStr (s : ByteArray) : List Value := [.string s]
instance : Enc encStr 1 := ⟨fun _ => rfl, fun x u hu => by simp [encStr] at hu; subst hu; rfl⟩
def str2 : ByteArray := ⟨#[116, 101, 120, 116, 97, 114, 101, 97, 32, 116, 105, 116, 108, 101]⟩
def str3 : ByteArray := ⟨#[105, 102, 114, 97, 109, 101, 32, 110, 111, 101, 109, 98, 101, 100, 32, 110, 111, 102, 114, 97, 109, 101, 115, 32, 110, 111, 115, 99, 114, 105, 112, 116, 32, 115, 116, 121, 108, 101, 32, 120, 109, 112]⟩
/-- What names.lists hands back: at 2 and 3 these. -/
def ListsOk (vs : List Value) : Prop := vs.length = 16 ∧ vs[2]? = some (.string str2) ∧ vs[3]? = some (.string str3)
/-- Where the table of strings.asciiSpace lies. -/
def AscG (G : HProp) : Prop := ∃ E R, G = star (pts 4 E (Lib.asciiSpaceTab.map (Value.int .u8))) R
theorem AscG.tab {G : HProp} (h : AscG G) {β : Base} {w : World} {F : HProp} (hM : Mem β w (star G F)) : Lib.TabIs Tryd.prog w "strings.asciiSpace" .u8 Lib.asciiSpaceTab := by
  obtain ⟨E, R, rfl⟩ := h
  have hb := Mem.heapAt (hM.cast (star_assoc _ _ _))
  unfold Lib.TabIs World.var?
  rw [show Tryd.prog.globalNamed "strings.asciiSpace" = some 4 by kernel_rfl]
  simp only [Option.bind_some, hb]

set_option maxHeartbeats 4000000 in
theorem lists_c  : Fx Tryd.prog 81 [] emp (fun vs : {vs : List Value // ListsOk vs} => .agg vs.1.toArray) (fun _ => emp) := by
  intro β w0 F0 hM0
  replace hM0 := hM0.ofEmp
  refine enter Tryd.func81 (by rfl) 19 rfl rfl fun a0 Q hE0 hQ hN hP => ?_
  refine wp_seq_k fun K0 hK0 => ?_
  refine wp_region_lit ?_
  refine one fun C hC => alloc hE0 hM0 _ al_118 [.string ByteArray.empty, .string ByteArray.empty, .string ByteArray.empty, .string ByteArray.empty, .string ByteArray.empty, .string ByteArray.empty, .string ByteArray.empty, .string ByteArray.empty, .string ByteArray.empty, .string ByteArray.empty, .string ByteArray.empty, .string ByteArray.empty, .string ByteArray.empty, .string ByteArray.empty, .string ByteArray.empty, .string ByteArray.empty] rfl rfl  fun b0 a1 w1 hE1 hM1 => hC _ _ ?_
  clear hC C hE0 hM0 a0
  refine wpList_nil (hK0 _ _ ?_)
  clear hK0 K0
  replace hE1 := hE1.keep (E' := [(0, _)]) ⟨rfl, trivial⟩
  refine wp_seq_k fun K1 hK1 => ?_
  refine wp_region_lit ?_
  refine one fun C hC => alloc hE1 hM1 _ al_118 [.string ByteArray.empty, .string ByteArray.empty, .string ByteArray.empty, .string ByteArray.empty, .string ByteArray.empty, .string ByteArray.empty, .string ByteArray.empty, .string ByteArray.empty, .string ByteArray.empty, .string ByteArray.empty, .string ByteArray.empty, .string ByteArray.empty, .string ByteArray.empty, .string ByteArray.empty, .string ByteArray.empty, .string ByteArray.empty] rfl rfl  fun b1 a2 w2 hE2 hM2 => hC _ _ ?_
  clear hC C hE1 hM1 a1
  refine wpList_nil (hK1 _ _ ?_)
  clear hK1 K1
  replace hE2 := hE2.keep (E' := [(0, _), (1, _)]) ⟨rfl, rfl, trivial⟩
  refine wp_seq_k fun K2 hK2 => ?_
  refine wp_region_lit ?_
  refine one fun C hC => val hE2 (R.indexArr0 hE2 16 9 ar_l rfl rfl 0 rfl (by decide)) rfl fun a3 hE3 => hC _ _ ?_
  clear hC C
  clear hE2 a2
  refine one fun C hC => store hE3 hM2 sc_9 rfl rfl rfl rfl  fun  a4 w3 hE4 hM3 => hC _ _ ?_
  clear hC C hE3 hM2 a3
  try simp only [List.set_cons_zero, List.set_cons_succ, Nat.zero_add] at hM3
  refine wpList_nil (hK2 _ _ ?_)
  clear hK2 K2
  replace hE4 := hE4.keep (E' := [(0, _), (1, _)]) ⟨rfl, rfl, trivial⟩
  refine wp_seq_k fun K3 hK3 => ?_
  refine wp_region_lit ?_
  refine one fun C hC => val hE4 (R.indexArr0 hE4 16 9 ar_l rfl rfl 1 rfl (by decide)) rfl fun a5 hE5 => hC _ _ ?_
  clear hC C
  clear hE4 a4
  refine one fun C hC => store hE5 hM3 sc_9 rfl rfl rfl rfl  fun  a6 w4 hE6 hM4 => hC _ _ ?_
  clear hC C hE5 hM3 a5
  try simp only [List.set_cons_zero, List.set_cons_succ, Nat.zero_add] at hM4
  refine wpList_nil (hK3 _ _ ?_)
  clear hK3 K3
  replace hE6 := hE6.keep (E' := [(0, _), (1, _)]) ⟨rfl, rfl, trivial⟩
  refine wp_seq_k fun K4 hK4 => ?_
  refine wp_region_lit ?_
  refine one fun C hC => val hE6 (R.indexArr0 hE6 16 9 ar_l rfl rfl 2 rfl (by decide)) rfl fun a7 hE7 => hC _ _ ?_
  clear hC C
  clear hE6 a6
  refine one fun C hC => store hE7 hM4 sc_9 rfl rfl rfl rfl  fun  a8 w5 hE8 hM5 => hC _ _ ?_
  clear hC C hE7 hM4 a7
  try simp only [List.set_cons_zero, List.set_cons_succ, Nat.zero_add] at hM5
  refine wpList_nil (hK4 _ _ ?_)
  clear hK4 K4
  replace hE8 := hE8.keep (E' := [(0, _), (1, _)]) ⟨rfl, rfl, trivial⟩
  refine wp_seq_k fun K5 hK5 => ?_
  refine wp_region_lit ?_
  refine one fun C hC => val hE8 (R.indexArr0 hE8 16 9 ar_l rfl rfl 3 rfl (by decide)) rfl fun a9 hE9 => hC _ _ ?_
  clear hC C
  clear hE8 a8
  refine one fun C hC => store hE9 hM5 sc_9 rfl rfl rfl rfl  fun  a10 w6 hE10 hM6 => hC _ _ ?_
  clear hC C hE9 hM5 a9
  try simp only [List.set_cons_zero, List.set_cons_succ, Nat.zero_add] at hM6
  refine wpList_nil (hK5 _ _ ?_)
  clear hK5 K5
  replace hE10 := hE10.keep (E' := [(0, _), (1, _)]) ⟨rfl, rfl, trivial⟩
  refine wp_seq_k fun K6 hK6 => ?_
  refine wp_region_lit ?_
  refine one fun C hC => val hE10 (R.indexArr0 hE10 16 9 ar_l rfl rfl 4 rfl (by decide)) rfl fun a11 hE11 => hC _ _ ?_
  clear hC C
  clear hE10 a10
  refine one fun C hC => store hE11 hM6 sc_9 rfl rfl rfl rfl  fun  a12 w7 hE12 hM7 => hC _ _ ?_
  clear hC C hE11 hM6 a11
  try simp only [List.set_cons_zero, List.set_cons_succ, Nat.zero_add] at hM7
  refine wpList_nil (hK6 _ _ ?_)
  clear hK6 K6
  replace hE12 := hE12.keep (E' := [(0, _), (1, _)]) ⟨rfl, rfl, trivial⟩
  refine wp_seq_k fun K7 hK7 => ?_
  refine wp_region_lit ?_
  refine one fun C hC => val hE12 (R.indexArr0 hE12 16 9 ar_l rfl rfl 5 rfl (by decide)) rfl fun a13 hE13 => hC _ _ ?_
  clear hC C
  clear hE12 a12
  refine one fun C hC => store hE13 hM7 sc_9 rfl rfl rfl rfl  fun  a14 w8 hE14 hM8 => hC _ _ ?_
  clear hC C hE13 hM7 a13
  try simp only [List.set_cons_zero, List.set_cons_succ, Nat.zero_add] at hM8
  refine wpList_nil (hK7 _ _ ?_)
  clear hK7 K7
  replace hE14 := hE14.keep (E' := [(0, _), (1, _)]) ⟨rfl, rfl, trivial⟩
  refine wp_seq_k fun K8 hK8 => ?_
  refine wp_region_lit ?_
  refine one fun C hC => val hE14 (R.indexArr0 hE14 16 9 ar_l rfl rfl 6 rfl (by decide)) rfl fun a15 hE15 => hC _ _ ?_
  clear hC C
  clear hE14 a14
  refine one fun C hC => store hE15 hM8 sc_9 rfl rfl rfl rfl  fun  a16 w9 hE16 hM9 => hC _ _ ?_
  clear hC C hE15 hM8 a15
  try simp only [List.set_cons_zero, List.set_cons_succ, Nat.zero_add] at hM9
  refine wpList_nil (hK8 _ _ ?_)
  clear hK8 K8
  replace hE16 := hE16.keep (E' := [(0, _), (1, _)]) ⟨rfl, rfl, trivial⟩
  refine wp_seq_k fun K9 hK9 => ?_
  refine wp_region_lit ?_
  refine one fun C hC => val hE16 (R.indexArr0 hE16 16 9 ar_l rfl rfl 7 rfl (by decide)) rfl fun a17 hE17 => hC _ _ ?_
  clear hC C
  clear hE16 a16
  refine one fun C hC => store hE17 hM9 sc_9 rfl rfl rfl rfl  fun  a18 w10 hE18 hM10 => hC _ _ ?_
  clear hC C hE17 hM9 a17
  try simp only [List.set_cons_zero, List.set_cons_succ, Nat.zero_add] at hM10
  refine wpList_nil (hK9 _ _ ?_)
  clear hK9 K9
  replace hE18 := hE18.keep (E' := [(0, _), (1, _)]) ⟨rfl, rfl, trivial⟩
  refine wp_seq_k fun K10 hK10 => ?_
  refine wp_region_lit ?_
  refine one fun C hC => val hE18 (R.indexArr0 hE18 16 9 ar_l rfl rfl 8 rfl (by decide)) rfl fun a19 hE19 => hC _ _ ?_
  clear hC C
  clear hE18 a18
  refine one fun C hC => store hE19 hM10 sc_9 rfl rfl rfl rfl  fun  a20 w11 hE20 hM11 => hC _ _ ?_
  clear hC C hE19 hM10 a19
  try simp only [List.set_cons_zero, List.set_cons_succ, Nat.zero_add] at hM11
  refine wpList_nil (hK10 _ _ ?_)
  clear hK10 K10
  replace hE20 := hE20.keep (E' := [(0, _), (1, _)]) ⟨rfl, rfl, trivial⟩
  refine wp_seq_k fun K11 hK11 => ?_
  refine wp_region_lit ?_
  refine one fun C hC => val hE20 (R.indexArr0 hE20 16 9 ar_l rfl rfl 9 rfl (by decide)) rfl fun a21 hE21 => hC _ _ ?_
  clear hC C
  clear hE20 a20
  refine one fun C hC => store hE21 hM11 sc_9 rfl rfl rfl rfl  fun  a22 w12 hE22 hM12 => hC _ _ ?_
  clear hC C hE21 hM11 a21
  try simp only [List.set_cons_zero, List.set_cons_succ, Nat.zero_add] at hM12
  refine wpList_nil (hK11 _ _ ?_)
  clear hK11 K11
  replace hE22 := hE22.keep (E' := [(0, _), (1, _)]) ⟨rfl, rfl, trivial⟩
  refine wp_seq_k fun K12 hK12 => ?_
  refine wp_region_lit ?_
  refine one fun C hC => val hE22 (R.indexArr0 hE22 16 9 ar_l rfl rfl 10 rfl (by decide)) rfl fun a23 hE23 => hC _ _ ?_
  clear hC C
  clear hE22 a22
  refine one fun C hC => store hE23 hM12 sc_9 rfl rfl rfl rfl  fun  a24 w13 hE24 hM13 => hC _ _ ?_
  clear hC C hE23 hM12 a23
  try simp only [List.set_cons_zero, List.set_cons_succ, Nat.zero_add] at hM13
  refine wpList_nil (hK12 _ _ ?_)
  clear hK12 K12
  replace hE24 := hE24.keep (E' := [(0, _), (1, _)]) ⟨rfl, rfl, trivial⟩
  refine wp_seq_k fun K13 hK13 => ?_
  refine wp_region_lit ?_
  refine one fun C hC => val hE24 (R.indexArr0 hE24 16 9 ar_l rfl rfl 11 rfl (by decide)) rfl fun a25 hE25 => hC _ _ ?_
  clear hC C
  clear hE24 a24
  refine one fun C hC => store hE25 hM13 sc_9 rfl rfl rfl rfl  fun  a26 w14 hE26 hM14 => hC _ _ ?_
  clear hC C hE25 hM13 a25
  try simp only [List.set_cons_zero, List.set_cons_succ, Nat.zero_add] at hM14
  refine wpList_nil (hK13 _ _ ?_)
  clear hK13 K13
  replace hE26 := hE26.keep (E' := [(0, _), (1, _)]) ⟨rfl, rfl, trivial⟩
  refine wp_seq_k fun K14 hK14 => ?_
  refine wp_region_lit ?_
  refine one fun C hC => val hE26 (R.indexArr0 hE26 16 9 ar_l rfl rfl 12 rfl (by decide)) rfl fun a27 hE27 => hC _ _ ?_
  clear hC C
  clear hE26 a26
  refine one fun C hC => store hE27 hM14 sc_9 rfl rfl rfl rfl  fun  a28 w15 hE28 hM15 => hC _ _ ?_
  clear hC C hE27 hM14 a27
  try simp only [List.set_cons_zero, List.set_cons_succ, Nat.zero_add] at hM15
  refine wpList_nil (hK14 _ _ ?_)
  clear hK14 K14
  replace hE28 := hE28.keep (E' := [(0, _), (1, _)]) ⟨rfl, rfl, trivial⟩
  refine wp_seq_k fun K15 hK15 => ?_
  refine wp_region_lit ?_
  refine one fun C hC => val hE28 (R.indexArr0 hE28 16 9 ar_l rfl rfl 13 rfl (by decide)) rfl fun a29 hE29 => hC _ _ ?_
  clear hC C
  clear hE28 a28
  refine one fun C hC => store hE29 hM15 sc_9 rfl rfl rfl rfl  fun  a30 w16 hE30 hM16 => hC _ _ ?_
  clear hC C hE29 hM15 a29
  try simp only [List.set_cons_zero, List.set_cons_succ, Nat.zero_add] at hM16
  refine wpList_nil (hK15 _ _ ?_)
  clear hK15 K15
  replace hE30 := hE30.keep (E' := [(0, _), (1, _)]) ⟨rfl, rfl, trivial⟩
  refine wp_seq_k fun K16 hK16 => ?_
  refine wp_region_lit ?_
  refine one fun C hC => val hE30 (R.indexArr0 hE30 16 9 ar_l rfl rfl 14 rfl (by decide)) rfl fun a31 hE31 => hC _ _ ?_
  clear hC C
  clear hE30 a30
  refine one fun C hC => store hE31 hM16 sc_9 rfl rfl rfl rfl  fun  a32 w17 hE32 hM17 => hC _ _ ?_
  clear hC C hE31 hM16 a31
  try simp only [List.set_cons_zero, List.set_cons_succ, Nat.zero_add] at hM17
  refine wpList_nil (hK16 _ _ ?_)
  clear hK16 K16
  replace hE32 := hE32.keep (E' := [(0, _), (1, _)]) ⟨rfl, rfl, trivial⟩
  refine wp_seq_k fun K17 hK17 => ?_
  refine wp_region_lit ?_
  refine one fun C hC => val hE32 (R.indexArr0 hE32 16 9 ar_l rfl rfl 15 rfl (by decide)) rfl fun a33 hE33 => hC _ _ ?_
  clear hC C
  clear hE32 a32
  refine one fun C hC => store hE33 hM17 sc_9 rfl rfl rfl rfl  fun  a34 w18 hE34 hM18 => hC _ _ ?_
  clear hC C hE33 hM17 a33
  try simp only [List.set_cons_zero, List.set_cons_succ, Nat.zero_add] at hM18
  refine wpList_nil (hK17 _ _ ?_)
  clear hK17 K17
  replace hE34 := hE34.keep (E' := [(0, _), (1, _)]) ⟨rfl, rfl, trivial⟩
  refine wp_seq_k fun K18 hK18 => ?_
  refine wp_region_lit ?_
  refine one fun C hC => val hE34 (R.loadAgg hE34 ss_118 rfl hM18 (by rfl) (by rfl)) rfl fun a35 hE35 => hC _ _ ?_
  clear hC C
  clear hE34 a34
  refine one fun C hC => storeAgg hE35 hM18 ss_118 rfl rfl rfl rfl rfl  fun  a36 w19 hE36 hM19 => hC _ _ ?_
  clear hC C hE35 hM18 a35
  try simp only [setSeg, List.set_cons_zero, List.set_cons_succ, Nat.zero_add, Nat.reduceAdd] at hM19
  refine wpList_nil (hK18 _ _ ?_)
  clear hK18 K18
  replace hE36 := hE36.keep (E' := [(0, _), (1, _)]) ⟨rfl, rfl, trivial⟩
  refine wp_ret (hQ _ _ ?_)
  refine backCell hE36 rfl rfl ss_118 hM19 rfl (Mem.doneX (⟨_, ⟨rfl, rfl, rfl⟩⟩ : {vs : List Value // ListsOk vs}) rfl (((hM19.cutB b0).cutB b1).cast (emp_star _).symm))

theorem flat_str (l : List ByteArray) : l.flatMap encStr = l.map Value.string := by
  induction l with
  | nil => rfl
  | cons y r ih => rw [List.flatMap_cons, ih]; rfl
theorem fields_c (G : HProp) (hA : AscG G) (s : ByteArray) (hs : s.size < 4294967281) (ha : ∀ (j : Nat) (c : UInt8), s.data.toList[j]? = some c → c.toNat < 128) (L : List ByteArray) (hL : (Lib.fields s.data.toList).map (fun l => (⟨l.toArray⟩ : ByteArray)) = L) (hn : L.length ≤ 1000) :
    Fx Tryd.prog 80 [.string s] G (fun g : Nat => .slice (some ⟨g, 0, none⟩) L.length L.length) (fun g => star (row 9 1 encStr (some ⟨g, 0, none⟩) L.length L) G) := by
  intro β w F hM
  refine (Tryd.strings_Fields s w hs ha (hA.tab hM)).mono fun e w' hh => ?_
  obtain ⟨rfl, rfl⟩ := hh
  have hl : (Lib.fields s.data.toList).length = L.length := by rw [← hL, List.length_map]
  refine ⟨_, rfl, Mem.doneX w.heap.size (by rw [hl]) ?_⟩
  have h2 := (hM.newPts ((Lib.fields s.data.toList).map fun l => Value.string ⟨l.toArray⟩).toArray 9).row_of_pts (xs := L) (enc := encStr) (sz := 1) (fun x _ => rfl) (by rw [flat_str, ← hL, List.map_map]; rfl) (by unfold maxLen; omega)
  exact h2.cast (by ac_rfl)

end Go.Sv
