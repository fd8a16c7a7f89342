import Derived.Test.YthaalghnpfpjmaaDoorProg
import Derived.Test.YthaalghnpfpjmaaDoorMach11
import Derived.Test.YthaalghnpfpjmaaDoorRules4
set_option linter.all false
set_option linter.unusedVariables false
set_option linter.unusedSimpArgs false
set_option maxRecDepth 100000
namespace Go.Sv
open Go.RowKit Go.Proofs
attribute [local irreducible] row pts star blk emp fact any attrsOf machAt tagAt

namespace FMach12
theorem el_90 : elemB Tryd.prog 90 93 4 32 = true := by kernel_rfl
end FMach12
open FMach12
def encEnt (x : Ent) : List Value := [.string ⟨x.name.toArray⟩, .int .i32 x.first, .int .i32 x.second, .bool x.bare]
instance : Enc encEnt 4 := ⟨fun _ => rfl, fun x u hu => by simp [encEnt] at hu; rcases hu with rfl | rfl | rfl | rfl <;> rfl⟩
theorem ents_len : ents.length = 301 := by kernel_rfl
theorem entities_c : Fx Tryd.prog 53 [] emp (fun q : Option Addr × Nat => .slice q.1 ents.length q.2) (fun q => row 93 4 encEnt q.1 q.2 ents) := by
  intro β w0 F0 hM0
  replace hM0 := hM0.ofEmp
  refine enter Tryd.func53 (by rfl) 303 rfl rfl fun a0 Q hE0 hQ hN hP => ?_
  refine wp_seq_k fun K0 hK0 => ?_
  refine wp_region_lit ?_
  refine one fun C hC => val hE0 (R.assign hE0 rfl) rfl fun a1 hE1 => hC _ _ ?_
  clear hC C
  refine wpList_nil (hK0 _ _ ?_)
  refine wp_seq_k fun K1 hK1 => ?_
  refine wp_region_lit ?_
  refine greatLit 301 (vs := ents.map fun x => (encEnt x).toArray) hE1 hM0 (by kernel_rfl) (by kernel_rfl) (by rw [List.length_map, ents_len]) (by decide) (by kernel_rfl) el_90 (by decide) (by decide) (fun v hv => by obtain ⟨x, _, rfl⟩ := List.mem_map.1 hv; rfl) (by decide) fun b a2 w2 hE2 hM2 => ?_
  refine hK1 _ _ (wp_ret (hQ _ _ ?_))
  have e : (ents.map fun x => (encEnt x).toArray).flatMap (fun v => v.toList) = ents.flatMap encEnt := by rw [List.flatMap_map]
  rw [e] at hM2
  have hr := hM2.row_of_pts (xs := ents) (enc := encEnt) (sz := 4) (fun x _ => rfl) rfl (by rw [ents_len]; decide)
  exact back1 hE2 rfl rfl (Mem.doneX ((some ⟨b, 0, none⟩, ents.length) : Option Addr × Nat) (by rw [ents_len]) hr)

end Go.Sv
