/- Two final states of one list of values are the same. -/
import Derived.Test.YtemhpbdlonfikaaFin
import Derived.Test.YtemhpbdlonfikaaVa
namespace Go.Proofs.Ytemhpbdlonfikaa.P
open Go Go.RowKit Go.Proofs.YtemhpbdlonfikaaW.PrintWords Go.Proofs.YtemhpbdlonfikaaW.PrintLast Go.Proofs.YtemhpbdlonfikaaW.PrintMore

theorem run_forIn_same {P : Program} {β : Type} {b : β} {f : Nat → β → Sem (ForInStep β)} {w : World} : ∀ (l : List Nat), (∀ i ∈ l, (f i b).run P w = .ok (.yield b) w) → (forIn l b f : Sem β).run P w = .ok b w
  | [], _ => by simp
  | x :: l, h => by
    rw [List.forIn_cons, Sem.run_bind, h x (by simp), Result.andThen_ok]
    exact run_forIn_same l (fun i hi => h i (by simp [hi]))
theorem eq_arr (w : World) (d : Nat) (x : Nat → Int) : (Op.equalIn (d + 2) 30 (.agg (((List.range 48).map fun i => Value.int .i64 (x i)).toArray)) (.agg (((List.range 48).map fun i => Value.int .i64 (x i)).toArray))).run Try.prog w = .ok true w := by
  have hu30 := Try.underlying30
  have hu2 := Try.underlying2
  have hs : (sizeOf 2).run Try.prog w = .ok 1 w := by
    obtain ⟨i0, hi, hz⟩ := Option.map_eq_some_iff.1 info2
    simp only [Prod.mk.injEq] at hz
    simp [sizeOf, typeInfo, hi, hz.2.1]
  unfold Op.equalIn
  simp only [Sem.run_bind, run_underlying hu30, Result.andThen_ok, hs]
  rw [Std.Legacy.Range.forIn_eq_forIn_range', run_forIn_same]
  · rfl
  · intro i hi
    have hi2 : i < 48 := by simpa [List.mem_range'] using hi
    have hp : (part 2 (List.map (fun i => Value.int IntKind.i64 (x i)) (List.range 48)).toArray (i * 1)).run Try.prog w = .ok (.int .i64 (x i)) w := by
      have ha : (isAgg 2).run Try.prog w = .ok false w := by simp [isAgg, run_underlying hu2]
      have hc : (List.map (fun i => Value.int IntKind.i64 (x i)) (List.range 48)).toArray[i * 1]? = some (.int .i64 (x i)) := by simp [hi2]
      unfold part
      simp only [Sem.run_bind, ha, Result.andThen_ok, hc]
      rfl
    simp only [Sem.run_bind, hp, Result.andThen_ok, run_equalIn_int w d 2 .i64 .i64 (x i) (x i) hu2]
    simp
theorem nums_map (L : List Int) (h : L.length = 48) : nums .i64 L = (List.range 48).map fun i => Value.int .i64 (L.getD i 0) := by
  apply List.ext_getElem
  · simp [nums, h]
  · intro i h1 h2
    have h3 : i < L.length := by simpa [nums] using h1
    simp [nums, List.getD_eq_getElem?_getD, List.getElem?_eq_getElem h3]
set_option maxRecDepth 100000 in
theorem fin_eql (w : World) {l : List Int} (hl : l.length ≤ 48) : (binOp .eql 32 (.agg (finV l).toArray) (.agg (finV l).toArray)).run Try.prog w = .ok (.bool true) w := by
  have hu32 := Try.underlying32
  have hu30 := Try.underlying30
  have hu3 := Try.underlying3
  have hL : (l ++ List.replicate (48 - l.length) 0).length = 48 := by simp; omega
  obtain ⟨L, hLL⟩ : ∃ L, l ++ List.replicate (48 - l.length) (0 : Int) = L := ⟨_, rfl⟩
  rw [hLL] at hL
  have hF : (finV l).toArray = ((Value.int .i64 l.length) :: (List.range 48).map fun i => Value.int .i64 (L.getD i 0)).toArray := by unfold finV; rw [hLL, nums_map L hL]
  have hp0 : (part 3 (finV l).toArray 0).run Try.prog w = .ok (.int .i64 l.length) w := by
    have ha : (isAgg 3).run Try.prog w = .ok false w := by simp [isAgg, run_underlying hu3]
    have hc : (finV l).toArray[0]? = some (.int .i64 l.length) := rfl
    unfold part
    simp only [Sem.run_bind, ha, Result.andThen_ok, hc]
    rfl
  have hp1 : (part 30 (finV l).toArray 1).run Try.prog w = .ok (.agg (((List.range 48).map fun i => Value.int .i64 (L.getD i 0)).toArray)) w := by
    have ha : (isAgg 30).run Try.prog w = .ok true w := by simp [isAgg, run_underlying hu30]
    have hs : (sizeOf 30).run Try.prog w = .ok 48 w := by
      have hi : (Try.prog.info? 30).map (·.size) = some 48 := by kernel_rfl
      obtain ⟨i0, hi, hz⟩ := Option.map_eq_some_iff.1 hi
      simp [sizeOf, typeInfo, hi, hz]
    unfold part
    simp only [Sem.run_bind, ha, Result.andThen_ok, if_true, hs]
    rw [hF]
    simp
    exact List.take_of_length_le (by simp)
  have he0 : (Op.equalIn 9999 3 (.int .i64 l.length) (.int .i64 l.length)).run Try.prog w = .ok true w := by
    rw [show (9999 : Nat) = 9998 + 1 from rfl, run_equalIn_int w 9998 3 .i64 .i64 _ _ hu3]; simp
  have he1 : (Op.equalIn 9999 30 (.agg (((List.range 48).map fun i => Value.int .i64 (L.getD i 0)).toArray)) (.agg (((List.range 48).map fun i => Value.int .i64 (L.getD i 0)).toArray))).run Try.prog w = .ok true w := eq_arr w 9997 (fun i => L.getD i 0)
  rw [run_eql_struct]
  have hq := eqA_of (d := 9999) (t := 32) (xs := (finV l).toArray) (ys := (finV l).toArray) (r := true) hu32 (by kernel_rfl) (eqf_cons (s := true) (f := { name := "N", type := 3, offset := 0, embedded := false, tag := "", pkgPath := "", byteOffset := 0 }) (by kernel_rfl) hp0 hp0 he0 (eqf_last (f := { name := "V", type := 30, offset := 1, embedded := false, tag := "", pkgPath := "", byteOffset := 8 }) (by kernel_rfl) hp1 hp1 he1))
  rw [show (10000 : Nat) = 9999 + 1 from rfl, hq]
  rfl
end Go.Proofs.Ytemhpbdlonfikaa.P
