import Derived.Test.YthaalghnpfpjmaaDoorRefs5
import Derived.Test.YthaalghnpfpjmaaDoorRules4
set_option linter.all false
/-! Own words: the longest name ahead is of single bytes: so many runes. -/
namespace Go.Sv
set_option maxRecDepth 10000
theorem encode_lo {r : Int} (h0 : 0 ≤ r) (h1 : r < 128) : (Utf8.encode r).data.toList = [r.toNat.toUInt8] := by
  obtain ⟨n, rfl⟩ := Int.eq_ofNat_of_zero_le h0
  rw [encode_nat (by omega) (by omega), if_pos (by omega)]
  rfl
theorem encode_hi {r : Int} (h0 : 128 ≤ r) (h1 : r ≤ 1114111) : ∃ c t, (Utf8.encode r).data.toList = c :: t ∧ 128 ≤ c.toNat := by
  obtain ⟨n, rfl⟩ := Int.eq_ofNat_of_zero_le (show 0 ≤ r by omega)
  by_cases hs : n < 55296 ∨ 57343 < n
  · rw [encode_nat (by omega) hs, if_neg (by omega)]
    split
    · exact ⟨_, _, rfl, by rw [UInt8.toNat_ofNat']; omega⟩
    · split
      · exact ⟨_, _, rfl, by rw [UInt8.toNat_ofNat']; omega⟩
      · exact ⟨_, _, rfl, by rw [UInt8.toNat_ofNat']; omega⟩
  · have hb := encB_bad (n := n) (by omega) (by omega)
    unfold encB at hb
    cases h : (Utf8.encode (n : Int)).data.toList with
    | nil => rw [h] at hb; cases hb
    | cons c t =>
      rw [h] at hb
      have h1 : ((c.toNat : Nat) : Int) = 239 := (List.cons.inj hb).1
      exact ⟨c, t, rfl, by omega⟩
theorem encs_cons (r : Int) (l : List Int) : encs (r :: l) = (Utf8.encode r).data.toList ++ encs l := rfl
theorem encs_take : ∀ (l : List Int) (n : Nat), (∀ x ∈ l, 0 ≤ x ∧ x ≤ 1114111) → n ≤ (encs l).length → (∀ c ∈ (encs l).take n, c.toNat < 128) → n ≤ l.length
  | [], n, _, h, _ => by simpa [encs] using h
  | r :: l, 0, _, _, _ => by simp
  | r :: l, n + 1, hr, h, hc => by
    have h0 := hr r List.mem_cons_self
    by_cases hlo : r < 128
    · rw [encs_cons, encode_lo h0.1 hlo] at h hc
      have := encs_take l n (fun x hx => hr x (List.mem_cons_of_mem _ hx)) (by simpa using h) (fun c hcm => hc c (by simp [hcm]))
      simpa using this
    · obtain ⟨c, t, e, h128⟩ := encode_hi (by omega) h0.2
      rw [encs_cons, e] at hc
      have := hc c (by simp)
      omega
/-- What the search holds at any time. -/
def LInv (s : List UInt8) (acc : Nat × List Int) : Prop := acc.1 ≤ s.length ∧ (∀ c ∈ s.take acc.1, c.toNat < 128) ∧ (acc.1 ≠ 0 → 0 < acc.2.length) ∧ acc.2.length ≤ 2
def EntOk (x : Ent) : Prop := ∀ c ∈ x.name, c.toNat < 128
theorem says_len (x : Ent) : 0 < x.says.length ∧ x.says.length ≤ 2 := by unfold Ent.says; split <;> simp
theorem prefix_take {p s : List UInt8} (h : p.isPrefixOf s = true) : p.length ≤ s.length ∧ s.take p.length = p := by
  have h2 := List.isPrefixOf_iff_prefix.1 h
  exact ⟨h2.length_le, (List.prefix_iff_eq_take.1 h2).symm⟩
theorem entStep_inv {s : List UInt8} {acc : Nat × List Int} {x : Ent} (h : LInv s acc) (hx : EntOk x) : LInv s (entStep s acc x) := by
  unfold entStep
  split
  · rename_i hp
    obtain ⟨h1, h2⟩ := prefix_take hp
    split
    · rename_i h59
      split
      · obtain ⟨hl, hs⟩ := List.getElem?_eq_some_iff.1 h59
        refine ⟨hl, fun c hc => ?_, fun _ => (says_len x).1, (says_len x).2⟩
        simp only [List.take_add_one, h2, h59] at hc
        simp at hc
        rcases hc with hc | rfl
        · exact hx c hc
        · decide
      · exact h
    · split
      · split
        · exact ⟨h1, fun c hc => hx c (by simpa [h2] using hc), fun _ => (says_len x).1, (says_len x).2⟩
        · exact h
      · exact h
  · exact h
theorem foldl_inv {s : List UInt8} : ∀ (es : List Ent) (acc : Nat × List Int), (∀ x ∈ es, EntOk x) → LInv s acc → LInv s (es.foldl (entStep s) acc)
  | [], _, _, h => h
  | x :: es, acc, hx, h => foldl_inv es _ (fun y hy => hx y (List.mem_cons_of_mem _ hy)) (entStep_inv h (hx x List.mem_cons_self))
theorem ents_ascii : ents.all (fun x => x.name.all fun c => decide (c.toNat < 128)) = true := by decide +kernel
theorem longest_inv (s : List UInt8) : LInv s (longest s) := by
  refine foldl_inv ents (0, []) (fun x hx c hc => ?_) ⟨by simp, by simp, fun h => absurd rfl h, by simp⟩
  have := List.all_eq_true.1 ents_ascii x hx
  simpa using List.all_eq_true.1 this c hc
namespace M
theorem ahead_len (S : M) : S.ahead.length = min 100 (S.inp.length - S.pos) := by simp [ahead]
theorem ahead_rng {S : M} {c : Nat} (h : S.Ok c) : ∀ x ∈ S.ahead, 0 ≤ x ∧ x ≤ 1114111 := fun x hx => h.r x (List.drop_subset _ _ (List.take_subset _ _ hx))
theorem named_len {S : M} {c : Nat} (h : S.Ok c) : (longest (encs S.ahead)).1 ≤ S.ahead.length :=
  encs_take S.ahead _ (ahead_rng h) (longest_inv _).1 (longest_inv _).2.1
theorem numEnd_pos (n : Int) (S : M) : 0 < (numEnd n S).1.length := by unfold numEnd; (repeat' split) <;> simp
theorem numBody_pos {b : Int} {out : List Int} {S : M} (h : 0 < out.length) : 0 < (numBody b out S).1.length := by
  unfold numBody; split
  · exact h
  · exact numEnd_pos _ _
theorem numeric_pos (S : M) : 0 < S.numeric.1.length := by
  unfold numeric; split
  · exact numBody_pos (by simp)
  · exact numBody_pos (by simp)
theorem wordsN_pos : ∀ (k : Nat) (S : M) (o : List Int), 0 < o.length → 0 < (wordsN k S o).1.length
  | 0, _, _, h => h
  | k + 1, S, o, h => by unfold wordsN; split; exact wordsN_pos k _ _ (by simp); exact h
theorem reference_pos (S : M) (a : Bool) : 0 < (S.reference a).1.length := by
  unfold reference
  split
  · exact S.numeric_pos
  · split
    · split
      · exact wordsN_pos _ _ _ (by simp)
      · rename_i hn
        have hl := (longest_inv (runesBytes S.ahead).data.toList).2.2.1 hn
        unfold named1
        simp only []
        split
        · simp
        · split <;> exact hl
    · simp
theorem reference_ok (S : M) (a : Bool) (c d : Nat) (h : S.Ok c) (hd : d + 8 ≤ c) : (S.reference a).2.Ok (d + (S.reference a).1.length) := by
  unfold reference
  split
  · exact h.numeric (by omega)
  · split
    · split
      · exact (Ok.wordsN (S.inp.length + 1) [38] (c := d + 1) (h.le (by simp; omega))).unknown (by (try simp only []); omega)
      · rename_i hn
        have hl := longest_inv (runesBytes S.ahead).data.toList
        have hnl := named_len h
        rw [← runesBytes_list] at hnl
        have ha := ahead_len S
        have hp := h.p
        have h2 := hl.2.2.2
        have hps : S.pos + (longest (runesBytes S.ahead).data.toList).1 ≤ S.inp.length := by omega
        unfold named1
        simp only []
        split
        · refine h.skipTo ?_ hps
          simp only [List.length_cons, List.length_take, List.length_drop]
          omega
        · split
          · exact (h.skipTo (d := c) (by omega) hps).fault (by (try simp only []); omega)
          · exact h.skipTo (by (try simp only []); omega) hps
    · exact h.le (by simp; omega)
end M
end Go.Sv
