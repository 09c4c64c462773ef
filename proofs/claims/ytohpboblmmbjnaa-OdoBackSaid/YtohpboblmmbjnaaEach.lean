/- odo's each: through the numbers that may stand next, with how many lists each begins; memory is as it was between two rounds. -/
import Derived.Test.YtohpboblmmbjnaaRng
import Derived.Test.YtohpboblmmbjnaaCount
import Derived.Shelf.Abstract
import Derived.Shelf.RegionOpen
import Derived.OwnWalkIn
import Derived.TacticsInMore
import Derived.LoopNIn
import Derived.LoopIn
namespace Go.Proofs.Ytohpboblmmbjnaa.P
open Go Go.RowKit Go.Shelf Go.Proofs.YtohpboblmmbjnaaW.PrintWords Go.Proofs.YtohpboblmmbjnaaW.PrintLast Go.Proofs.YtohpboblmmbjnaaW.PrintMore Go.Proofs.Odo
attribute [local go_sem] Oper.semAt_some

theorem heap_twice {h : Array Obj} {g i : Nat} {u v : Value} {c : Array Value} {t : TypeId} {fr : Nat × Nat} (hh : h[g]? = some (.cells c t fr)) (hc : c[i]? = some v) :
    ((h.modify g fun
      | .cells c elem frozen => .cells (if (none : Option Nat).isSome then c else c.setIfInBounds i u) elem frozen
      | o => o).modify g fun
      | .cells c elem frozen => .cells (if (none : Option Nat).isSome then c else c.setIfInBounds i v) elem frozen
      | o => o) = h := by
  apply Array.ext
  · simp
  · intro j h1 h2
    rw [Array.getElem_modify, Array.getElem_modify]
    split
    · rename_i hj
      subst hj
      obtain ⟨hg, he⟩ := Array.getElem?_eq_some_iff.1 hh
      rw [he]
      simp only [Option.isSome_none, Bool.false_eq_true, if_false]
      congr 1
      apply Array.ext
      · simp
      · intro q q1 q2
        rw [Array.getElem_setIfInBounds (by simpa using q2)]
        split
        · rename_i hq
          subst hq
          rw [Array.getElem?_eq_getElem q2] at hc
          exact (Option.some.inj hc).symm
        · rename_i hq
          rw [Array.getElem_setIfInBounds q2, if_neg hq]
    · rfl
/-- A cell stored over and stored back: memory as it was. -/
theorem setCell_back {W : World} {g i : Nat} {u v : Value} (h : W.cell? ⟨g, i, none⟩ = some v) (m : Nat) : ((W.setCell ⟨g, i, none⟩ u).drewN m).setCell ⟨g, i, none⟩ v = W.drewN m := by
  unfold World.cell? at h
  cases ho : W.heap[g]? with
  | none => simp [ho] at h
  | some o =>
    cases o with
    | cells c t fr =>
      have hc : c[i]? = some v := by simpa [ho] using h
      have e := heap_twice (u := u) ho hc
      unfold World.setCell World.drewN
      exact congrArg (fun hp : Array Obj => ({ W with heap := hp, drawn := W.drawn + m } : World)) e
    | _ => simp [ho] at h

/-- The row of the numbers that are left. -/
def LeftRow (g cap : Nat) (v : List Nat) (W : World) : Prop := W.ownsRow 0 3 1 (.slice (some ⟨g, 0, none⟩) v.length cap) v.length (nums .i64 (ints v))

set_option maxHeartbeats 2000000 in
set_option maxRecDepth 100000 in
theorem each_stops (n : Nat) (hn : 1 ≤ n) (g cap : Nat) (v : List Nat) (k : Nat) (c : Nat → Int) (b : Nat → Bool) (hv : ∀ x ∈ v, x < 9223372036854775808) (hl : v.length ≤ 64)
    (hc : ∀ i, i < v.length → v.getD i 0 ≠ 0 → odo_weaves_count.f k (ints (less v i)) = some (c i, b i)) :
    EachStops Fence.wide n Try.prog 74 #[.slice (some ⟨g, 0, none⟩) v.length cap] v.length (fun i => decide (v.getD i 0 ≠ 0)) (fun i => #[.int .i64 i, .int .u64 (c i)]) (LeftRow g cap v) := by
  intro l J Jx W hJd hJr hJs hY h0
  refine callsIn_of_wp Try.func74 rfl trivial ?_ rfl
  simp only [Try.ntmps74, List.size_toArray, List.length_cons, List.length_nil, Nat.reduceAdd, Nat.reduceSub, Array.replicate_succ, Array.replicate_zero, List.push_toArray, List.append_toArray, List.nil_append, List.cons_append]
  gi_wp2
  gi_loopw [9] (fun p wr => ∃ q : Nat, p = .int .i64 q ∧ q ≤ v.length ∧ J q wr) (fun p _ => v.length - (intOf p).toNat)
  case atStart => exact ⟨0, rfl, Nat.zero_le _, h0⟩
  case round =>
    obtain ⟨q, rfl, hq, hj⟩ := hrel
    by_cases hlt : q < v.length
    · have hrow := hJr q wr hj
      have hat := own_at hrow (q : Int) (by omega) (by omega)
      rw [Int.toNat_natCast, rd_ints] at hat
      obtain ⟨hcell, hfz⟩ := hat
      by_cases hz : v.getD q 0 = 0
      · have hj' := hJs q wr hj hlt (decide_eq_false (fun h => h hz))
        rw [hz] at hcell
        gi_wp2
        exact ⟨⟨q + 1, by go_num, by omega, hj'⟩, by simp [intOf]; omega⟩
      · have hyes : decide (v.getD q 0 ≠ 0) = true := decide_eq_true hz
        have hcq := hc q hlt hz
        have hxlt := hv _ (by rw [List.getD_eq_getElem?_getD, List.getElem?_eq_getElem hlt]; exact List.getElem_mem hlt : v.getD q 0 ∈ v)
        have hset : (ints v).set q ((v.getD q 0 : Nat) - 1 : Int) = ints (less v q) := by
          unfold less ints
          rw [List.map_set]
          congr 1
          show _ = ((v.getD q 0 - 1 : Nat) : Int)
          omega
        obtain ⟨x, hx⟩ : ∃ x, v.getD q 0 = x := ⟨_, rfl⟩
        rw [hx] at hcell hxlt hset hz
        have hst := (own_store hrow (q : Int) ((x : Int) - 1)).1
        rw [Int.toNat_natCast, hset] at hst
        have hl2 : (ints (less v q)).length = v.length := by rw [ints_length, less_length]
        have HCw : Aside0 (Kd.C (Kd.int .i64) (wr.setCell ⟨g, q, none⟩ (.int .i64 ((x : Int) - 1))) (some ⟨g, 0, none⟩) (ints (less v q)).length (ints (less v q))) := ⟨by
          rw [← hl2] at hst
          exact (Kd.R_reads' (d := Kd.int .i64) (Kd.R_of_own (ok := fun _ => True) hst (fun _ _ => trivial))).2.2⟩
        have hcapl : Aside0 ((ints (less v q)).length ≤ cap) := ⟨by
          rcases hrow.2 with ⟨h, _⟩ | ⟨g', cap', cur, h, _, _, h1, _⟩
          · cases h
          · injection h with _ _ h3
            rw [hl2, h3]; exact h1⟩
        have hcall := odo_weaves_count.calls k (some ⟨g, 0, none⟩) cap (ints (less v q)) (c q) (b q) _ HCw.out hcapl.out hcq
        rw [hl2] at hcall
        have HC := Aside0.mk hcall
        have HE := Aside0.mk (fun (m : Nat) => setCell_back (u := .int .i64 ((x : Int) - 1)) hcell m)
        have hx1 : 1 ≤ x := by omega
        have hbz : ((x : Int) == 0) = false := beq_eq_false_iff_ne.2 (by omega)
        clear hset hst hl2 hcq hx hz hcall HCw hcapl
        gi_wp2_with fail
        refine ⟨trivial, ?_⟩
        refine (callsIn_wide.2 HC.out).mono ?_
        rintro e w1 ⟨rfl, ⟨nd, rfl⟩⟩
        obtain ⟨fn, tmps, assign, body, hy, hR⟩ := hY q (wr.drewN nd) (hJd q wr nd hj) hlt hyes
        rw [← HE.out nd] at hy hR
        gi_wp2_with fail
        refine hR.mono ?_
        clear HE HC hR hy
        rintro e W' (⟨rfl, hJ'⟩ | ⟨rfl, hx'⟩)
        · gi_wp2
          exact ⟨⟨q + 1, by go_num, by omega, hJ'⟩, by simp [intOf]; omega⟩
        · gi_wp2
          refine bodyPost_ret (results_none rfl _ _ _) rfl ?_
          exact ⟨⟨_, rfl⟩, .inr hx'⟩
    · have hge : v.length ≤ q := by omega
      obtain rfl : q = v.length := by omega
      gi_wp2
      go_end0
      exact ⟨⟨_, rfl⟩, .inl hj⟩
end Go.Proofs.Ytohpboblmmbjnaa.P
