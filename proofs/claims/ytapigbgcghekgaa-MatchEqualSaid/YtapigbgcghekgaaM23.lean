import Derived.Test.YtapigbgcghekgaaM22
set_option linter.unusedVariables false
set_option linter.unusedSimpArgs false
set_option maxRecDepth 100000
set_option maxHeartbeats 4000000
namespace Go.Proofs
open Go.Iv
def keysT : List Int := tCanon.map (·.1) ++ tCompat.map (·.1)
theorem done_keys : (keysT.all fun c => doneN false 40 [c] && doneN true 40 [c] && decide ((partsN false 40 [c]).length ≤ 4) && decide ((partsN true 40 [c]).length ≤ 4)) = true := by kernel_rfl
theorem findM_mem {l : List (Int × List Int)} {c : Int} (h : c ∉ l.map (·.1)) : findM l c = none := by
  induction l with
  | nil => rfl
  | cons x l ih =>
    simp only [List.map_cons, List.mem_cons, not_or] at h
    unfold findM
    rw [if_neg (fun e => h.1 e.symm)]
    exact ih h.2
theorem jamo : ((List.range 256).all fun i => (nextF (4352 + (i : Int)) false).length == 0 && (nextF (4352 + (i : Int)) true).length == 0) = true := by kernel_rfl
theorem jamo_next (c : Int) (k : Bool) (h1 : 4352 ≤ c) (h2 : c < 4608) : nextF c k = [] := by
  have := List.all_eq_true.1 jamo (c - 4352).toNat (List.mem_range.2 (by omega))
  have e : (4352 : Int) + ((c - 4352).toNat : Int) = c := by omega
  rw [e] at this
  simp only [Bool.and_eq_true, beq_iff_eq] at this
  cases k
  · exact List.length_eq_zero_iff.1 this.1
  · exact List.length_eq_zero_iff.1 this.2
theorem wr_id {n : Int} (h1 : -9223372036854775808 ≤ n) (h2 : n ≤ 9223372036854775807) : wr n = n := wrap64 h1 h2
theorem splitF_jamo (c : Int) : ∀ x ∈ splitF c, 4352 ≤ x ∧ x < 4608 := by
  intro x hx
  unfold splitF at hx
  split at hx
  · rename_i h
    have h1 : 44032 ≤ c ∧ c < 55204 := by
      unfold inF at h
      rw [wrap64 (by omega) (by omega)] at h
      simpa using h
    have e1 : wr (c - 44032) = c - 44032 := wr_id (by omega) (by omega)
    have d1 : (c - 44032).tdiv 28 = (c - 44032) / 28 := Int.tdiv_eq_ediv_of_nonneg (by omega)
    have e2 : wr ((c - 44032) / 28) = (c - 44032) / 28 := wr_id (by omega) (by omega)
    have d2 : ((c - 44032) / 28).tdiv 21 = (c - 44032) / 28 / 21 := Int.tdiv_eq_ediv_of_nonneg (by omega)
    have e3 : wr ((c - 44032) / 28 / 21) = (c - 44032) / 28 / 21 := wr_id (by omega) (by omega)
    have m1 : ((c - 44032) / 28).tmod 21 = (c - 44032) / 28 % 21 := Int.tmod_eq_emod_of_nonneg (by omega)
    have m2 : (c - 44032).tmod 28 = (c - 44032) % 28 := Int.tmod_eq_emod_of_nonneg (by omega)
    rw [e1, d1, e2, d2, e3, m1, m2] at hx
    rw [wr_id (n := 4352 + (c - 44032) / 28 / 21) (by omega) (by omega), wr_id (n := 4449 + (c - 44032) / 28 % 21) (by omega) (by omega), wr_id (n := 4519 + (c - 44032) % 28) (by omega) (by omega)] at hx
    simp only [List.mem_append, List.mem_cons, List.not_mem_nil, or_false] at hx
    rcases hx with (rfl | rfl) | hx
    · omega
    · omega
    · split at hx
      · simp at hx; omega
      · simp at hx
  · simp at hx
theorem done_flat (k : Bool) : ∀ (l : List Int) (n : Nat), (∀ x ∈ l, nextF x k = []) → l.length ≤ n → doneN k n l = true ∧ partsN k n l = l
  | [], n, _, _ => by cases n <;> exact ⟨rfl, rfl⟩
  | x :: l, 0, _, h => by simp at h
  | x :: l, n + 1, hx, h => by
    have h1 := hx x (by simp)
    obtain ⟨h2, h3⟩ := done_flat k l n (fun y hy => hx y (by simp [hy])) (by simpa using h)
    unfold doneN partsN
    rw [h1]
    simp [h2, h3]
theorem done_all (c : Int) (k : Bool) : doneN k 40 [c] = true ∧ (partsF c k).length ≤ 4 := by
  unfold partsF
  by_cases hs : (splitF c).length = 0
  · by_cases hk : c ∈ keysT
    · have := List.all_eq_true.1 done_keys c hk
      simp only [Bool.and_eq_true, decide_eq_true_eq] at this
      cases k
      · exact ⟨this.1.1.1, this.1.2⟩
      · exact ⟨this.1.1.2, this.2⟩
    · unfold keysT at hk
      rw [List.mem_append, not_or] at hk
      have h1 : canonF c = [] := by
        unfold canonF
        rw [findM_mem]
        · rfl
        · unfold tripM
          rw [List.map_map]
          exact hk.1
      have h2 : compatF c = [] := by
        unfold compatF
        rw [findM_mem hk.2]
        rfl
      have hn : nextF c k = [] := by
        unfold nextF
        rw [if_pos hs, h1, h2]
        split <;> rfl
      obtain ⟨q1, q2⟩ := done_flat k [c] 40 (by simpa using hn) (by simp)
      rw [q2]
      exact ⟨q1, by simp⟩
  · have hn : nextF c k = splitF c := by unfold nextF; rw [if_neg hs]
    have hl := splitF_len c
    obtain ⟨q1, q2⟩ := done_flat k (splitF c) 39 (fun x hx => jamo_next x k (splitF_jamo c x hx).1 (splitF_jamo c x hx).2) (by omega)
    have e1 : doneN k 40 [c] = doneN k 39 (splitF c) := by
      conv => lhs; unfold doneN
      rw [hn, List.append_nil]
    have e2 : partsN k 40 [c] = splitF c := by
      conv => lhs; unfold partsN
      rw [hn, if_neg hs, List.append_nil]
      exact q2
    rw [e1, e2]
    exact ⟨q1, by omega⟩
end Go.Proofs
