/- The printed contracts, told of a program and a state as one fact each. -/
import Derived.Test.YtemhpbdlonfikaaStep
namespace Go.Proofs.Ytemhpbdlonfikaa.P
open Go Go.RowKit Go.Proofs.YtemhpbdlonfikaaW.PrintWords Go.Proofs.YtemhpbdlonfikaaW.PrintLast Go.Proofs.YtemhpbdlonfikaaW.PrintMore

theorem valid_call {w : World} {p : Pg} {pv : List Value} (hp : PgV w pv p) {r : Int} (hv : Ev (fun k => prog_Valid.f k p.th p.rg p.lo p.r0 p.m0) r) :
    Calls Try.prog 36 #[.agg pv.toArray] w fun e W' => e = .returned (.int .i64 r) ∧ Below w.heap.size w W' := by
  obtain ⟨A0, A1, A2, A3, A4, c0, c1, c2, c3, c4, rfl, h0, l0, h1, l1, h2, l2, h3, l3, h4, l4⟩ := hp
  obtain ⟨K, hK⟩ := hv.rounds
  exact prog_Valid.calls K A0 c0 p.th A1 c1 p.rg A2 c2 p.lo A3 c3 p.r0 A4 c4 p.m0 r w h0 l0 h1 l1 h2 l2 h3 l3 h4 l4 hK
theorem valid_call2 {w : World} {p : Pg} {pv : List Value} (hp : PgV w pv p) {r : Int} (hv : Ev (fun k => weirref09_Valid.f k p.th p.rg p.lo p.r0 p.m0) r) :
    Calls Try.prog 26 #[.agg pv.toArray] w fun e W' => e = .returned (.int .i64 r) ∧ Below w.heap.size w W' := by
  obtain ⟨A0, A1, A2, A3, A4, c0, c1, c2, c3, c4, rfl, h0, l0, h1, l1, h2, l2, h3, l3, h4, l4⟩ := hp
  obtain ⟨K, hK⟩ := hv.rounds
  exact weirref09_Valid.calls K A0 c0 p.th A1 c1 p.rg A2 c2 p.lo A3 c3 p.r0 A4 c4 p.m0 r w h0 l0 h1 l1 h2 l2 h3 l3 h4 l4 hK
theorem over_call {w : World} {p : Pg} {s : St} {pv sv : List Value} (hp : PgV w pv p) (hs : StV w sv s) {r : Bool} (hv : Ev (fun k => sc_over.f k p.th p.rg p.lo p.r0 p.m0 s.p s.q s.rg s.me s.bf s.lk) r) :
    Calls Try.prog 41 #[.agg pv.toArray, .agg sv.toArray] w fun e W' => e = .returned (.bool r) ∧ Below w.heap.size w W' := by
  obtain ⟨A0, A1, A2, A3, A4, c0, c1, c2, c3, c4, rfl, h0, l0, h1, l1, h2, l2, h3, l3, h4, l4⟩ := hp
  obtain ⟨B0, B1, B2, B3, B4, d0, d1, d2, d3, d4, rfl, k0, m0, k1, m1, k2, m2, k3, m3, k4, m4⟩ := hs
  obtain ⟨K, hK⟩ := hv.rounds
  exact sc_over.calls K A0 c0 p.th A1 c1 p.rg A2 c2 p.lo A3 c3 p.r0 A4 c4 p.m0 B0 d0 s.p B1 d1 s.q B2 d2 s.rg B3 d3 s.me B4 d4 s.bf s.lk r w h0 l0 h1 l1 h2 l2 h3 l3 h4 l4 k0 m0 k1 m1 k2 m2 k3 m3 k4 m4 hK
theorem done_call {w : World} {p : Pg} {s : St} {pv sv : List Value} (hp : PgV w pv p) (hs : StV w sv s) {r : Bool} (hv : Ev (fun k => weirref11_Done.f k p.th p.rg p.lo p.r0 p.m0 s.p s.q s.rg s.me s.bf s.lk) r) :
    Calls Try.prog 43 #[.agg pv.toArray, .agg sv.toArray] w fun e W' => e = .returned (.bool r) ∧ Below w.heap.size w W' := by
  obtain ⟨A0, A1, A2, A3, A4, c0, c1, c2, c3, c4, rfl, h0, l0, h1, l1, h2, l2, h3, l3, h4, l4⟩ := hp
  obtain ⟨B0, B1, B2, B3, B4, d0, d1, d2, d3, d4, rfl, k0, m0, k1, m1, k2, m2, k3, m3, k4, m4⟩ := hs
  obtain ⟨K, hK⟩ := hv.rounds
  exact weirref11_Done.calls K A0 c0 p.th A1 c1 p.rg A2 c2 p.lo A3 c3 p.r0 A4 c4 p.m0 B0 d0 s.p B1 d1 s.q B2 d2 s.rg B3 d3 s.me B4 d4 s.bf s.lk r w h0 l0 h1 l1 h2 l2 h3 l3 h4 l4 k0 m0 k1 m1 k2 m2 k3 m3 k4 m4 hK
theorem first_e (p : Pg) : ∀ b ∈ (firstM p).bf, b = [] := fun _b hb => (List.mem_replicate.1 hb).2
theorem start_ok {w : World} {p : Pg} {pv : List Value} (hp : PgV w pv p) (hP : SmallPg p) (hv : Ev (fun k => prog_Valid.f k p.th p.rg p.lo p.r0 p.m0) 0) :
    Calls Try.prog 18 #[.agg pv.toArray] w fun e W' => ∃ sv, Six sv (firstM p) ∧ e = .returned (.tuple #[.agg sv.toArray, .int .i64 0]) ∧ StO w [] W' sv (firstM p) := by
  obtain ⟨A0, A1, A2, A3, A4, c0, c1, c2, c3, c4, rfl, h0, l0, h1, l1, h2, l2, h3, l3, h4, l4⟩ := hp
  obtain ⟨K, hK⟩ := (start_is hP hv).rounds
  refine (sc_Start.calls K A0 c0 p.th A1 c1 p.rg A2 c2 p.lo A3 c3 p.r0 A4 c4 p.m0 _ _ _ _ _ _ _ w h0 l0 h1 l1 h2 l2 h3 l3 h4 l4 hK).mono ?_
  rintro e W' ⟨v0, v1, v2, v3, v4, rfl, r0, r1, r2, r3, r4, hb⟩
  have hO := bag_state r0 r1 r2 r3 r4 hb (first_e p)
  obtain ⟨E0, f0, rfl⟩ := Kd.R_slice r0
  obtain ⟨E1, f1, rfl⟩ := Kd.R_slice r1
  obtain ⟨E2, f2, rfl, _⟩ := Kd.S_reads r2
  obtain ⟨E3, f3, rfl⟩ := Kd.R_slice r3
  obtain ⟨E4, f4, rfl, _⟩ := Kd.S_reads r4
  exact ⟨_, ⟨E0, E1, E2, E3, E4, f0, f1, f2, f3, f4, rfl⟩, rfl, hO⟩
theorem start_bad {w : World} {p : Pg} {pv : List Value} (hp : PgV w pv p) {r : Int} (hr : r ≠ 0) (hv : Ev (fun k => prog_Valid.f k p.th p.rg p.lo p.r0 p.m0) r) :
    Calls Try.prog 18 #[.agg pv.toArray] w fun e W' => ∃ sv, Six sv ⟨[], [], [], [], [], 0⟩ ∧ e = .returned (.tuple #[.agg sv.toArray, .int .i64 r]) ∧ Below w.heap.size w W' := by
  obtain ⟨A0, A1, A2, A3, A4, c0, c1, c2, c3, c4, rfl, h0, l0, h1, l1, h2, l2, h3, l3, h4, l4⟩ := hp
  obtain ⟨K, hK⟩ := (start_not hr hv).rounds
  refine (sc_Start.calls K A0 c0 p.th A1 c1 p.rg A2 c2 p.lo A3 c3 p.r0 A4 c4 p.m0 _ _ _ _ _ _ _ w h0 l0 h1 l1 h2 l2 h3 l3 h4 l4 hK).mono ?_
  rintro e W' ⟨v0, v1, v2, v3, v4, rfl, r0, r1, r2, r3, r4, hb⟩
  obtain ⟨E0, f0, rfl⟩ := Kd.R_slice r0
  obtain ⟨E1, f1, rfl⟩ := Kd.R_slice r1
  obtain ⟨E2, f2, rfl, _⟩ := Kd.S_reads r2
  obtain ⟨E3, f3, rfl⟩ := Kd.R_slice r3
  obtain ⟨E4, f4, rfl, _⟩ := Kd.S_reads r4
  exact ⟨_, ⟨E0, E1, E2, E3, E4, f0, f1, f2, f3, f4, rfl⟩, rfl, hb⟩
theorem first_call {w : World} {p : Pg} {pv : List Value} (hp : PgV w pv p) (hP : SmallPg p) :
    Calls Try.prog 28 #[.agg pv.toArray] w fun e W' => ∃ sv, Six sv (firstM p) ∧ e = .returned (.agg sv.toArray) ∧ StV W' sv (firstM p) ∧ Below w.heap.size w W' := by
  obtain ⟨A0, A1, A2, A3, A4, c0, c1, c2, c3, c4, rfl, h0, l0, h1, l1, h2, l2, h3, l3, h4, l4⟩ := hp
  obtain ⟨K, hK⟩ := (first_is hP).rounds
  refine (weirref11_First.calls K A0 c0 p.th A1 c1 p.rg A2 c2 p.lo A3 c3 p.r0 A4 c4 p.m0 _ _ _ _ _ _ w h0 l0 h1 l1 h2 l2 h3 l3 h4 l4 hK).mono ?_
  rintro e W' ⟨v0, v1, v2, v3, v4, rfl, r0, r1, r2, r3, r4, hb⟩
  have hO := bag_state r0 r1 r2 r3 r4 hb (first_e p)
  obtain ⟨E0, f0, rfl⟩ := Kd.R_slice r0
  obtain ⟨E1, f1, rfl⟩ := Kd.R_slice r1
  obtain ⟨E2, f2, rfl, _⟩ := Kd.S_reads r2
  obtain ⟨E3, f3, rfl⟩ := Kd.R_slice r3
  obtain ⟨E4, f4, rfl, _⟩ := Kd.S_reads r4
  exact ⟨_, ⟨E0, E1, E2, E3, E4, f0, f1, f2, f3, f4, rfl⟩, rfl, hO.read, hb⟩

/-! ### a run -/
def runM (p : Pg) : St → List Int → Option St
  | s, [] => some s
  | s, i :: l => match turnM p s i with
    | some t => runM p t l
    | none => none
/-- What is kept along a run. -/
structure Good (p : Pg) (s : St) : Prop where
  ok : StOK p s
  pl : PlainSt s
theorem rd_replicate (n : Nat) (i : Int) : rd (List.replicate n 0) i = 0 := by
  unfold rd
  rw [List.getD_eq_getElem?_getD, List.getElem?_replicate]
  split <;> rfl
theorem good_first {p : Pg} (hP : SmallPg p) : Good p (firstM p) := by
  refine ⟨⟨by simp [firstM], by simp [firstM], hP.r0, by simp [firstM], hP.m0, fun i h0 h1 => ?_, fun i h0 h1 => ?_⟩, ⟨rfl, fun i => rd_replicate _ _, first_e p⟩⟩
  · show 0 ≤ rd (List.replicate p.th.length 0) i ∧ _
    rw [show rd (firstM p).p i = 0 from rd_replicate _ _, rd_replicate]
    exact ⟨by omega, by omega⟩
  · obtain ⟨n, rfl⟩ : ∃ n : Nat, i = n := ⟨i.toNat, by omega⟩
    exact hP.r0r n (by omega)
theorem Good.turn {p : Pg} {s t : St} {i : Int} (h : Good p s) (ht : turnM p s i = some t) : Good p t := by
  refine ⟨h.ok.turn ht, ?_⟩
  unfold turnM at ht
  split at ht
  · injection ht with ht
    subst ht
    exact ⟨h.pl.lk, h.pl.q, h.pl.e⟩
  · cases ht
theorem Good.small {p : Pg} {s : St} (h : Good p s) (hP : SmallPg p) : SmallSt s := by
  refine ⟨by rw [h.ok.lp]; exact hP.th, by rw [h.ok.lq]; exact hP.th, by rw [h.ok.lr]; exact hP.th, by rw [h.ok.lb]; exact hP.th, by rw [h.ok.lm]; exact hP.lo, fun i => ?_, h.pl.e⟩
  rcases Nat.lt_or_ge i p.th.length with hi | hi
  · rw [h.ok.rl i (by omega) (by omega)]; exact hP.row i
  · unfold rd_L5
    rw [Int.toNat_natCast, List.getD_eq_getElem?_getD, List.getElem?_eq_none (by rw [h.ok.lr]; exact hi)]; exact Nat.zero_le _
/-- What Play answers: the final state's values and the code. -/
def playM (p : Pg) (r : Int) (order : List Int) : List Int × Int :=
  if r = 0 then match runM p (firstM p) order with
    | some s => if overB p s 0 p.th.length then (finM p.rg p.lo.length s.rg s.me, 0) else ([], 150)
    | none => ([], 150)
  else ([], r)
theorem playM_le (p : Pg) (r : Int) (order : List Int) : (playM p r order).1.length ≤ 48 := by
  unfold playM
  split
  · split
    · split
      · exact finM_le _ _ _ _
      · exact Nat.zero_le _
    · exact Nat.zero_le _
  · exact Nat.zero_le _
end Go.Proofs.Ytemhpbdlonfikaa.P
