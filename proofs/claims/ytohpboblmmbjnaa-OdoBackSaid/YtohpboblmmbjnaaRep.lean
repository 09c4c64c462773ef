/- The contract of slices.Repeat at a list of one number, and of Orders. -/
import Derived.Test.YtohpboblmmbjnaaO3
import Derived.Test.YtohpboblmmbjnaaMath
import Derived.Laws.CopyOwn
import Derived.RangeFuncRecord
namespace Go.Proofs.Ytohpboblmmbjnaa.P
open Go.RowKit Go.Proofs.YtohpboblmmbjnaaW.PrintWords Go.Proofs.YtohpboblmmbjnaaW.PrintLast Go.Proofs.YtohpboblmmbjnaaW.PrintMore

/-- A row of n cells, of which the first m are filled. -/
def fill (n m : Nat) (x : Int) : List Value := List.replicate m (.int .i64 x) ++ List.replicate (n - m) (.int .i64 0)
theorem fill_length {n m : Nat} (x : Int) (h : m ≤ n) : (fill n m x).length = n := by simp [fill]; omega
theorem fill_splice {n m k : Nat} (x : Int) (h : m + k ≤ n) : splice (fill n m x) m (List.replicate k (.int .i64 x)) = fill n (m + k) x := by
  unfold splice fill
  rw [List.take_append_of_le_length (by simp), List.take_of_length_le (by simp), List.length_replicate, ← List.append_assoc, List.replicate_append_replicate, List.drop_append]
  rw [List.drop_of_length_le (by simp), List.nil_append, List.length_replicate, List.drop_replicate]
  congr 2
  omega
theorem fill_at {n m j : Nat} (x : Int) (h : j < m) : (fill n m x)[j]? = some (.int .i64 x) := by
  unfold fill
  rw [List.getElem?_append_left (by simpa using h), List.getElem?_replicate]
  simp [h]
theorem fill_full (n : Nat) (x : Int) : fill n n x = encs (Value.int .i64) (List.replicate n x) := by simp [fill, encs]

/-- The first copy: of the one element, if there is room. -/
theorem first_copy (x : Int) (n : Nat) (ad : Addr) (c : Nat) (w : World) (hx : w.cell? (ad.add 0) = some (.int .i64 x)) (nd : Nat) :
    ∃ w2 : World, (Builtin.copy_ #[22, 22] 3 #[.slice (some ⟨w.heap.size, 0, none⟩) n n, .slice (some ad) 1 c]).run Try.prog ((w.drewN nd).alloc (.cells (madeCells #[.int .i64 0] n) 3)) = .ok (goInt (Nat.min 1 n)) w2 ∧
      w2.heap[w.heap.size]? = some (.cells (fill n (Nat.min 1 n) x).toArray 3 (0, 0)) ∧ Below w.heap.size w w2 := by
  have hsz : (Try.prog.info? 3).map (·.size) = some 1 := by kernel_rfl
  have hB : Below w.heap.size w ((w.drewN nd).alloc (.cells (madeCells #[.int .i64 0] n) 3)) := below_alloc (pw_below_drewN (Below.refl _ _) _) _
  have hg : ((w.drewN nd).alloc (.cells (madeCells #[.int .i64 0] n) 3)).heap[w.heap.size]? = some (.cells (fill n 0 x).toArray 3 (0, 0)) := by
    have h := World.alloc_heap_new (w.drewN nd) (.cells (madeCells #[.int .i64 0] n) 3)
    have e : madeCells #[Value.int .i64 0] n = (fill n 0 x).toArray := by
      rw [← Array.toArray_toList (xs := madeCells #[Value.int .i64 0] n), toList_madeCells_one]
      simp [fill]
    rw [e] at h ⊢
    exact h
  rcases Nat.eq_zero_or_pos n with h | h
  · subst h
    exact ⟨_, run_copy_none _ 22 22 3 3 _ _ 0 0 1 c Try.underlying22 hsz rfl, hg, hB⟩
  · have hm : Nat.min 1 n = 1 := Nat.min_eq_left h
    rw [hm]
    refine ⟨_, run_copy_row (P := Try.prog) _ 22 22 3 3 w.heap.size 0 n n ad 1 c (fill n 0 x).toArray 3 [.int .i64 x] Try.underlying22 hsz hg (by simp [hm]) ?_ ?_ ?_, ?_, below_setRow hB (Nat.le_refl _) _⟩
    · intro j v hj
      obtain ⟨h1, h2⟩ := List.getElem?_eq_some_iff.1 hj
      simp at h1
      subst h1
      simp at h2
      rw [← h2]
      exact pw_cell_below hB hx
    · simp [fill]; omega
    · intro v hv
      simp at hv
      rw [hv]; rfl
    · show (World.setRow _ w.heap.size (splice (fill n 0 x) 0 (List.replicate 1 (.int .i64 x))).toArray).heap[w.heap.size]? = _
      rw [fill_splice x (by omega)]
      exact setRow_heap _ w.heap.size _ _ 3 _ hg

set_option maxHeartbeats 2000000 in
set_option maxRecDepth 100000 in
theorem slices_Repeat_one (x : Int) (n : Nat) (hn : n ≤ 64) (A : Option Addr) (c : Nat) (w : World) (hC : Kd.C (Kd.int .i64) w A 1 [x]) :
    Calls Try.prog 33 #[.slice A 1 c, .int .i64 n] w fun e w' => ∃ v, e = .returned v ∧ Kd.R (Kd.int .i64) 3 w' w.heap.size (fun _ => True) v (List.replicate n x) ∧ Below w.heap.size w w' := by
  have hmul : Aside0 (bits_Mul.f 1 (n : Int) = some (0, (n : Int))) := ⟨by
    unfold bits_Mul.f
    have h := mul64_is 1 n (by omega) (by omega)
    rw [Nat.one_mul, Nat.div_eq_of_lt (by omega), Nat.mod_eq_of_lt (by omega)] at h
    rw [show ((1 : Nat) : Int) = 1 from rfl] at h
    rw [h]; rfl⟩
  obtain ⟨ad, rfl, hx0⟩ := Kd.at_int hC 0 (by decide) (by decide)
  have hcp := first_copy x n ad c w hx0
  clear hx0 hC
  obtain ⟨f2, hf2⟩ := Classical.axiomOfChoice hcp
  have hrun := fun nd => (hf2 nd).1
  have HF := Aside0.mk (fun nd => (hf2 nd).2)
  clear hf2 hcp
  have hsz : (Try.prog.info? 3).map (·.size) = some 1 := by kernel_rfl
  have hmk := print_make_of (P := Try.prog) 22 3 (.int .i64 0) 8 Try.underlying22 info3 rfl (by decide) n (by omega)
  have b0 : decide ((n : Int) < 0) = false := decide_eq_false (by omega)
  have b1 : decide ((9223372036854775807 : Int) < n) = false := decide_eq_false (by omega)
  obtain ⟨m0, hm0⟩ : ∃ m0, Nat.min 1 n = m0 := ⟨_, rfl⟩
  have hm1 : m0 ≤ n := by rw [← hm0]; exact Nat.min_le_right _ _
  have hm2 : Aside0 (m0 = n ∨ 1 ≤ m0) := ⟨by
    rcases Nat.eq_zero_or_pos n with h | h
    · left; rw [← hm0, h]; rfl
    · right; rw [← hm0]; exact Nat.le_min.2 ⟨Nat.le_refl _, h⟩⟩
  rw [hm0] at hrun HF
  clear hm0
  go_enter Try.func33, Try.ntmps33
  go_wp2_with (go_at_call 40; refine (bits_Mul.calls 1 n 0 n _ hmul.out).mono ?_; rintro e w1 ⟨rfl, ⟨nd, rfl⟩⟩)
  obtain ⟨HG, HB⟩ : Aside0 ((f2 nd).heap[w.heap.size]? = some (.cells (fill n m0 x).toArray 3 (0, 0))) ∧ Aside0 (Below w.heap.size w (f2 nd)) := ⟨⟨(HF.out nd).1⟩, ⟨(HF.out nd).2⟩⟩
  obtain ⟨W0, hW0⟩ : ∃ W0, f2 nd = W0 := ⟨_, rfl⟩
  rw [hW0] at HG HB ⊢
  clear HF hrun hmk hW0
  go_loopw [8] (fun v W => ∃ m : Nat, v = .int .i64 m ∧ m ≤ n ∧ Aside0 (m = n ∨ 1 ≤ m) ∧ Aside0 (W.heap[w.heap.size]? = some (.cells (fill n m x).toArray 3 (0, 0))) ∧ Aside0 (Below w.heap.size w W)) (fun v _ => n - (intOf v).toNat)
  case atStart => exact ⟨m0, rfl, hm1, hm2, HG, HB⟩
  case round =>
    obtain ⟨m, rfl, hm, hm12, hg, hb⟩ := hrel
    by_cases hlt : m < n
    · have h1m : 1 ≤ m := by
        rcases hm12.out with h | h
        · omega
        · exact h
      obtain ⟨q, hq⟩ : ∃ q, Nat.min m (n - m) = q := ⟨_, rfl⟩
      have hq1 : 1 ≤ q := by rw [← hq]; exact Nat.le_min.2 ⟨h1m, by omega⟩
      have hq2 : m + q ≤ n := by
        have : q ≤ n - m := by rw [← hq]; exact Nat.min_le_right _ _
        omega
      have hqm : q ≤ m := by rw [← hq]; exact Nat.min_le_left _ _
      obtain ⟨cs, hcs⟩ : ∃ cs, List.replicate q (Value.int .i64 x) = cs := ⟨_, rfl⟩
      have hcl : cs.length = q := by rw [← hcs]; simp
      have s0 := Aside0.mk hcl
      have s1 : Aside0 (cs.length = Nat.min m (n - m)) := ⟨by rw [hcl, hq]⟩
      have s2 : Aside0 (∀ j v, cs[j]? = some v → wr.cell? ((⟨w.heap.size, 0, none⟩ : Addr).add j) = some v) := ⟨fun j v hj => by
        rw [← hcs] at hj
        obtain ⟨h1, h2⟩ := List.getElem?_eq_some_iff.1 hj
        rw [List.length_replicate] at h1
        rw [List.getElem_replicate] at h2
        rw [add_plain, blk_cell hg.out, ← h2]
        have := fill_at (n := n) x (show j < m by omega)
        simpa using this⟩
      have s3 : Aside0 (m + cs.length ≤ (fill n m x).length) := ⟨by rw [fill_length x hm, hcl]; exact hq2⟩
      have s4 : Aside0 (∀ v ∈ cs, v.oneCell' = true) := ⟨fun v hv => by
        rw [← hcs] at hv
        rw [(List.mem_replicate.1 hv).2]; rfl⟩
      have s5 : Aside0 (splice (fill n m x) m cs = fill n (m + q) x) := ⟨by rw [← hcs]; exact fill_splice x hq2⟩
      have hne : ¬ n = m := by omega
      clear hcs hcl hq
      go_wp2_with fail
      go_region_law (refine step_copy_splice rfl (.tmp 41) (.tmp 44) 22 22 rfl 3 Try.underlying22 hsz (some ⟨w.heap.size, m, none⟩) (some ⟨w.heap.size, 0, none⟩) (n - m) (n - m) m n (by simp [Act.eval, Act.put]) (by simp [Act.eval, Act.put]) w.heap.size m (fill n m x) 3 hg.out cs s1.out (fun _ => ⟨rfl, _, rfl, s2.out⟩) s3.out s4.out w.heap.size w (below_drew hb.out) (Nat.le_refl _) ?_; intro w4 hg4 hb4; rw [s0.out])
      rw [s5.out] at hg4
      have HG4 := Aside0.mk hg4.out
      have HB4 := Aside0.mk hb4
      clear hg4 hb4
      simp [Act.put]
      rw [show IntKind.i64.wrap ((m : Int) + (q : Int)) = ((m + q : Nat) : Int) from by rw [IntKind.wrap_i64]; omega]
      go_roundw
      case rel => exact ⟨_, _, _, _, _, _, _, _, _, _, _, _, _, _, ⟨m + q, rfl, hq2, ⟨.inr (by omega)⟩, HG4, HB4⟩, rfl⟩
      case measure => simp [intOf]; omega
    · have hge : n ≤ m := by omega
      obtain rfl : m = n := by omega
      go_wp2
      go_ret
      refine ⟨_, rfl, Kd.R_of_own ⟨by simp [encs], .inr ⟨w.heap.size, m, (fill m m x).toArray, by simp, Nat.le_refl _, hg.out, by simp, by unfold maxLen; omega, by simp [fill_length x (Nat.le_refl m)], ?_⟩⟩ (fun _ _ => trivial), hb.out⟩
      rw [fill_full]
      simp [encs]
end Go.Proofs.Ytohpboblmmbjnaa.P
