-- Printed by xprint.py, a program of this session over the kit's printer.
import Derived.Test.YtemhpbdlonfikaaP3
import Derived.Shelf.Strings.BuilderK
import Derived.Shelf.Strings.Builder1
import Derived.Shelf.Strings.BuilderF
import Derived.Test.YtemhpbdlonfikaaProg
import Derived.Outline
namespace Go.Proofs.Ytemhpbdlonfikaa.P
open Go.RowKit Go.Proofs.YtemhpbdlonfikaaW.PrintWords Go.Proofs.YtemhpbdlonfikaaW.PrintLast Go.Proofs.YtemhpbdlonfikaaW.PrintMore
attribute [local go_sem] max2_int min2_int max_two min_two max_three min_three max_four min_four   -- for this text's walks alone

/-! ### word_Put: function 89 -/
def word_Put.l0 : Nat → Int → List Int → Option (ByteArray)
 | 0, _, _ => none
 | k + 1, x3, x4 => if x3 ≥ 128 then (if x4.length < 140737488355328 then (word_Put.l0 k (x3 / 128) (x4 ++ [Go.bits .or .u8 ((x3) % 256) 128])) else (none)) else (if x4.length < 140737488355328 then (some (strOfNums (x4 ++ [(x3) % 256]))) else (none))
def word_Put.f (k : Nat) (a0 : Int) : Option (ByteArray) := word_Put.l0 k (Go.bits .xor .u64 (IntKind.u64.wrap (wrap64 (a0 * 2))) (IntKind.u64.wrap (a0 / 9223372036854775808))) ([] : List Int)
theorem word_Put.mono_l : ∀ k, (∀ y0 y1, LeO (word_Put.l0 k y0 y1) (word_Put.l0 (k + 1) y0 y1))
 | 0 => fun _ _ r h => by simp [word_Put.l0] at h
 | k + 1 => by
  have ih0 := word_Put.mono_l k
  ·
   intro y0 y1; unfold word_Put.l0
   repeat' first
   | (with_reducible exact ih0 _ _)
   | (with_reducible exact LeO.refl _)
   | (with_reducible exact LeO.none _)
   | (with_reducible refine LeO.ite ?_ ?_)
   | (with_reducible refine LeO.bind ?_ (fun _ => ?_))
   | exact ih0 _ _
   | exact LeO.none _
   | refine LeO.ite ?_ ?_
   | refine LeO.bind ?_ (fun _ => ?_)
theorem word_Put.mono : ∀ a0 k, LeO (word_Put.f k a0) (word_Put.f (k + 1) a0) := by
 intro a0 k; have ih0 := word_Put.mono_l k; unfold word_Put.f
 repeat' first
   | (with_reducible exact ih0 _ _)
   | (with_reducible exact LeO.refl _)
   | (with_reducible exact LeO.none _)
   | (with_reducible refine LeO.ite ?_ ?_)
   | (with_reducible refine LeO.bind ?_ (fun _ => ?_))
   | exact ih0 _ _
   | exact LeO.none _
   | refine LeO.ite ?_ ?_
   | refine LeO.bind ?_ (fun _ => ?_)
set_option maxHeartbeats 8000000 in
set_option maxRecDepth 100000 in
theorem word_Put.calls (k : Nat) (a0 : Int) (r : ByteArray) (w : World) (h : word_Put.f k a0 = some r) :
  Calls Try.prog 89 #[.int .i64 a0] w fun e w' => e = .returned (.string r) ∧ Below w.heap.size w w' := by
 have HB := Aside0.mk (Below.refl w.heap.size w); have H : (word_Put.l0 k (Go.bits .xor .u64 (IntKind.u64.wrap (wrap64 (a0 * 2))) (IntKind.u64.wrap (a0 / 9223372036854775808))) ([] : List Int)) = some r := h; clear h; have H' := Aside0.mk H; clear H; go_enter Try.func89, Try.ntmps89; go_wp2
 go_loopg [3, 4] k (fun kq v3 v4 w' => ∃ (x3_1 : Int) (x4_1 : List Int), v3 = .int .u64 x3_1 ∧ Aside0 (word_Put.l0 kq x3_1 x4_1 = some r) ∧ Aside0 (kq ≤ k) ∧ Aside0 (Kd.R (Kd.int .u8) 5 w' w.heap.size (fun _ => True) v4 x4_1) ∧ Aside0 (Below w.heap.size w w'))
 case atStart => exact ⟨(Go.bits .xor .u64 (IntKind.u64.wrap (wrap64 (a0 * 2))) (IntKind.u64.wrap (a0 / 9223372036854775808))), (([] : List Int)), ff_, H', ⟨Nat.le_refl _⟩, ⟨by first | exact Kd.R_nil _ _ _ _ _ | exact Kd.N_nil _ _ _ _ _ | exact Kd.V_nil _ _ _ _ _ | exact Kd.Q_nil _ _ _ _ _ | exact Kd.S_nil _ _ _ _ _⟩, ⟨bel_⟩⟩
 case round =>
  clear H'; obtain ⟨x3_1, x4_1, rfl, HA, HK1, HO_4, HB⟩ := hrel
  cases gk with
  | zero => exact absurd HA.out (by simp [word_Put.l0])
  | succ k1 =>
   have H := HA.out; clear HA; simp only [word_Put.l0] at H
   by_cases c2 : x3_1 ≥ 128
   ·
    rw [if_pos c2] at H; have c2b0 : decide (128 ≤ x3_1) = true := decide_eq_true c2; clear c2
    by_cases c3 : x4_1.length < 140737488355328
    ·
     rw [if_pos c3] at H; have LMc3 := Aside0.mk c3; clear c3; obtain ⟨y575, hy575⟩ : ∃ y_ : List Int, y_ = (x4_1 ++ [Go.bits .or .u8 ((x3_1) % 256) 128]) := ⟨_, rfl⟩; replace H : (word_Put.l0 k1 (x3_1 / 128) y575) = some r := by first | (rw [hy575]; with_reducible exact H) | (have H2_ := (Option.bind_some _ _).symm.trans H; rw [hy575]; with_reducible exact H2_) | (have H2_ := (Option.bind_some _ _).symm.trans H; with_reducible exact H2_) | with_reducible exact H | (rw [hy575]; exact H) | exact H
     have Ny575 := Aside0.mk hy575; clear hy575; have H' := Aside0.mk H; clear H
     go_wp2_with (first | ((with_reducible refine gate_builtin (b := .append) (xs := #[.tmp 14, .tmp 18]) rfl ?_); at_builtin; refine Kd.R_append (Kd.int .u8) (w0 := w) w.heap.size rfl (.tmp 14) (.tmp 18) 142 5 (.int .u8 0) 1 rfl Try.underlying142 info5 rfl (by decide) (by omega) u4 x4_1 (Go.bits .or .u8 ((x3_1) % 256) 128) [.int .u8 (Go.bits .or .u8 ((x3_1) % 256) 128)] (fun _ => True) (fun _ => False) rfl rfl ?aP (fun _ hk => hk.elim) ?aF ?aO ?aB ?aS ?aL ?_; (case aP => exact rfl); (case aB => exact bel_); (case aF => exact (fun _ _ => trivial)); (case aO => exact (rs_ HO_4)); (case aS => exact (below_size bel_)); (case aL => have := LMc3.out; omega); intro v576 w4 ho hb hg hat; rw [← Ny575.out] at ho; have n0_ := Aside0.mk (hb); have n1_ := Aside0.mk (ho); clear HB; clear HO_4; have HB := n0_; have HO577 := n1_; clear n0_ n1_; clear ho hb hg hat))
     go_roundg k1
     case measure => have := HK1.out; omega
     case rel => exact ⟨(x3_1 / 128), (y575), ff_, H', ⟨by have := HK1.out; omega⟩, ⟨rs_ HO577⟩, ⟨bel_⟩⟩
    ·
     rw [if_neg c3] at H; exact absurd H (by simp)
   ·
    rw [if_neg c2] at H; have c2b0 : decide (128 ≤ x3_1) = false := decide_eq_false c2; clear c2
    by_cases c5 : x4_1.length < 140737488355328
    ·
     rw [if_pos c5] at H; have LMc5 := Aside0.mk c5; clear c5; obtain ⟨y578, hy578⟩ : ∃ y_ : List Int, y_ = (x4_1 ++ [(x3_1) % 256]) := ⟨_, rfl⟩; replace H : (some (strOfNums y578)) = some r := by first | (rw [hy578]; with_reducible exact H) | (have H2_ := (Option.bind_some _ _).symm.trans H; rw [hy578]; with_reducible exact H2_) | (have H2_ := (Option.bind_some _ _).symm.trans H; with_reducible exact H2_) | with_reducible exact H | (rw [hy578]; exact H) | exact H
     have Ny578 := Aside0.mk hy578; clear hy578; obtain rfl := Option.some.inj H
     go_wp2_with (first | ((with_reducible refine gate_builtin (b := .append) (xs := #[.tmp 22, .tmp 25]) rfl ?_); at_builtin; refine Kd.R_append (Kd.int .u8) (w0 := w) w.heap.size rfl (.tmp 22) (.tmp 25) 142 5 (.int .u8 0) 1 rfl Try.underlying142 info5 rfl (by decide) (by omega) u4 x4_1 ((x3_1) % 256) [.int .u8 ((x3_1) % 256)] (fun _ => True) (fun _ => False) rfl rfl ?aP (fun _ hk => hk.elim) ?aF ?aO ?aB ?aS ?aL ?_; (case aP => exact rfl); (case aB => exact bel_); (case aF => exact (fun _ _ => trivial)); (case aO => exact (rs_ HO_4)); (case aS => exact (below_size bel_)); (case aL => have := LMc5.out; omega); intro v579 w6 ho hb hg hat; rw [← Ny578.out] at ho; have n0_ := Aside0.mk (hb); have n1_ := Aside0.mk (ho); clear HB; clear HO_4; have HB := n0_; have HO580 := n1_; clear n0_ n1_; clear ho hb hg hat; have hcv7 := own_string (P := Try.prog) Try.underlying142 Try.underlying5 Try.underlying9 (Kd.own_of_R HO580.out)))
     go_ret
     exact ⟨ee_, bel_⟩
    ·
     rw [if_neg c5] at H; exact absurd H (by simp)

end Go.Proofs.Ytemhpbdlonfikaa.P
/- Codes of whole numbers, in plain words: the zigzag, and groups of seven bits; what Put answers. -/
namespace Go.Proofs.Ytemhpbdlonfikaa.P
open Go Go.RowKit Go.Proofs.YtemhpbdlonfikaaW.PrintWords Go.Proofs.YtemhpbdlonfikaaW.PrintLast Go.Proofs.YtemhpbdlonfikaaW.PrintMore

/-- A whole number of 64 bits. -/
def I64 (v : Int) : Prop := -9223372036854775808 ≤ v ∧ v < 9223372036854775808
def zig (v : Int) : Nat := if 0 ≤ v then (2 * v).toNat else (-2 * v - 1).toNat
def unzig (u : Nat) : Int := if u % 2 = 0 then (u / 2 : Nat) else -((u / 2 : Nat) : Int) - 1
theorem zig_unzig (u : Nat) : zig (unzig u) = u := by unfold unzig zig; split <;> split <;> omega
theorem zig_lt {v : Int} (h : I64 v) : zig v < 18446744073709551616 := by obtain ⟨h1, h2⟩ := h; unfold zig; split <;> omega
theorem unzig_in {u : Nat} (h : u < 18446744073709551616) : I64 (unzig u) := by unfold unzig I64; split <;> omega
/-- Groups of seven bits, the lowest first. -/
def leb (u : Nat) : List Int := if u < 128 then [(u : Int)] else ((u % 128 + 128 : Nat) : Int) :: leb (u / 128)
termination_by u
decreasing_by omega
theorem leb_small {u : Nat} (h : u < 128) : leb u = [(u : Int)] := by rw [leb, if_pos h]
theorem leb_more {u : Nat} (h : ¬ u < 128) : leb u = ((u % 128 + 128 : Nat) : Int) :: leb (u / 128) := by rw [leb, if_neg h]
theorem leb_len (n : Nat) : ∀ u, u < 128 ^ (n + 1) → (leb u).length ≤ n + 1 := by
  induction n with
  | zero => intro u h; rw [leb_small (by simpa using h)]; simp
  | succ n ih =>
    intro u h
    by_cases h1 : u < 128
    · rw [leb_small h1]; simp
    · rw [leb_more h1, List.length_cons]
      have := ih (u / 128) (by rw [Nat.div_lt_iff_lt_mul (by omega)]; rw [Nat.pow_succ] at h; exact h)
      omega
theorem leb_len10 {u : Nat} (h : u < 18446744073709551616) : (leb u).length ≤ 10 := leb_len 9 u (Nat.lt_of_lt_of_le h (by decide))
theorem leb_pos (u : Nat) : 0 < (leb u).length := by rw [leb]; split <;> simp
theorem leb_byte (u : Nat) : ∀ x ∈ leb u, 0 ≤ x ∧ x < 256 := by
  induction u using Nat.strongRecOn with
  | ind u ih =>
    intro x hx
    by_cases h1 : u < 128
    · rw [leb_small h1, List.mem_singleton] at hx; omega
    · rw [leb_more h1, List.mem_cons] at hx
      rcases hx with rfl | hx
      · omega
      · exact ih (u / 128) (by omega) x hx
/-- A value's code. -/
def putB (v : Int) : ByteArray := strOfNums (leb (zig v))
def putU (v : Int) : List UInt8 := (leb (zig v)).map fun n => UInt8.ofNat n.toNat
theorem putU_len {v : Int} (h : I64 v) : (putU v).length ≤ 10 := by unfold putU; rw [List.length_map]; exact leb_len10 (zig_lt h)
theorem putB_size (v : Int) : (putB v).size = (putU v).length := by unfold putB putU; rw [strOfNums_size, List.length_map]

theorem or128 (y : Int) (h0 : 0 ≤ y) (h1 : y < 256) : bits .or .u8 y 128 = y % 128 + 128 := by
  have h : ∀ k : Fin 256, bits .or .u8 ((k.1 : Nat) : Int) 128 = ((k.1 : Nat) : Int) % 128 + 128 := by decide +kernel
  obtain ⟨n, rfl⟩ : ∃ n : Nat, y = n := ⟨y.toNat, by omega⟩
  exact h ⟨n, by omega⟩
theorem bits_xor64 (x y : Int) : bits .xor .u64 x y = IntKind.u64.wrap (((BitVec.ofInt 64 x) ^^^ (BitVec.ofInt 64 y)).toNat : Int) := rfl
theorem xor_zig {v : Int} (h : I64 v) : bits .xor .u64 (IntKind.u64.wrap (wrap64 (v * 2))) (IntKind.u64.wrap (v / 9223372036854775808)) = (zig v : Int) := by
  obtain ⟨h1, h2⟩ := h
  have hw : ∀ x : Int, IntKind.u64.wrap x = x % 18446744073709551616 := fun x => by simp [IntKind.wrap, IntKind.signed, IntKind.bits]
  by_cases h0 : 0 ≤ v
  · have e1 : v / 9223372036854775808 = 0 := by omega
    have e2 : IntKind.u64.wrap (wrap64 (v * 2)) = 2 * v := by rw [hw]; unfold wrap64; omega
    rw [e1, e2]
    have e3 : IntKind.u64.wrap 0 = 0 := by rw [hw]; rfl
    rw [e3]
    unfold zig
    rw [if_pos h0, bits_xor64, hw]
    have : (BitVec.ofInt 64 (2 * v) ^^^ BitVec.ofInt 64 0) = BitVec.ofInt 64 (2 * v) := by simp
    rw [this, BitVec.toNat_ofInt]
    omega
  · have e1 : v / 9223372036854775808 = -1 := by omega
    have e2 : IntKind.u64.wrap (wrap64 (v * 2)) = 18446744073709551616 + 2 * v := by rw [hw]; unfold wrap64; omega
    rw [e1, e2]
    have e3 : IntKind.u64.wrap (-1) = 18446744073709551615 := by rw [hw]; rfl
    rw [e3]
    unfold zig
    rw [if_neg h0, bits_xor64, hw]
    have h5 : BitVec.ofInt 64 18446744073709551615 = BitVec.allOnes 64 := by decide
    rw [h5, BitVec.xor_allOnes, BitVec.toNat_not, BitVec.toNat_ofInt]
    omega

theorem put_l (u : Nat) : ∀ (acc : List Int), acc.length + (leb u).length < 1000 → u < 18446744073709551616 → Ev (fun k => word_Put.l0 k u acc) (strOfNums (acc ++ leb u)) := by
  induction u using Nat.strongRecOn with
  | ind u ih =>
    intro acc hl hu
    by_cases h1 : u < 128
    · refine Ev.step (f := fun _ => some (strOfNums (acc ++ leb u))) (fun k => ?_) (Ev.now _)
      simp only [word_Put.l0]
      rw [if_neg (by omega), if_pos (by have := leb_pos u; omega), leb_small h1]
      congr 3
      simp; omega
    · have hlen : (leb u).length = (leb (u / 128)).length + 1 := by rw [leb_more h1, List.length_cons]
      have e1 : ((u : Int) / 128) = ((u / 128 : Nat) : Int) := by omega
      have e2 : bits .or .u8 ((u : Int) % 256) 128 = ((u % 128 + 128 : Nat) : Int) := by rw [or128 _ (by omega) (by omega)]; omega
      refine Ev.step (f := fun k => word_Put.l0 k ((u / 128 : Nat) : Int) (acc ++ [((u % 128 + 128 : Nat) : Int)])) (fun k => ?_) ?_
      · simp only [word_Put.l0]
        rw [if_pos (by omega), if_pos (by omega), e1, e2]
      · have := ih (u / 128) (by omega) (acc ++ [((u % 128 + 128 : Nat) : Int)]) (by rw [List.length_append]; simp; omega) (by omega)
        rw [List.append_assoc, List.singleton_append, ← leb_more h1] at this
        exact this
theorem put_is {v : Int} (h : I64 v) : Ev (fun k => word_Put.f k v) (putB v) := by
  have := put_l (zig v) [] (by have := leb_len10 (zig_lt h); simp; omega) (zig_lt h)
  refine Ev.congr (f := fun k => word_Put.l0 k (zig v : Nat) []) (fun k => ?_) this
  unfold word_Put.f
  rw [xor_zig h]
end Go.Proofs.Ytemhpbdlonfikaa.P
/- strings.Builder's WriteString, of a builder that the call itself has made: its own walk. -/
namespace Go.Proofs.Ytemhpbdlonfikaa.P
open Go Go.RowKit Go.Proofs.YtemhpbdlonfikaaW.PrintWords Go.Proofs.YtemhpbdlonfikaaW.PrintLast Go.Proofs.YtemhpbdlonfikaaW.PrintMore

theorem info144 : (Try.prog.info? 144).map (·.size) = some 2 := by kernel_rfl
theorem lies144 : liesAt Try.prog Try.prog.depth 144 (2 / Try.prog.cellsOf 144) 0 144 1 = true := by kernel_rfl
theorem infoU8 : (Try.prog.info? 5).map (fun i => (i.zero, i.size, i.bytes)) = some (some (.int .u8 0), 1, 1) := by kernel_rfl

set_option maxHeartbeats 1000000 in
set_option maxRecDepth 100000 in
theorem check_used (b : Nat) (w : World) (h0 : w.cell? ⟨b, 0, none⟩ = some (.pointer (some ⟨b, 0, none⟩))) :
    Calls Try.prog 109 #[.pointer (some ⟨b, 0, none⟩)] w fun e w' => e = .returned (.tuple #[]) ∧ w' = w := by
  obtain ⟨j, hj, _⟩ := Option.map_eq_some_iff.1 info144
  have hu141 := Try.underlying141
  have hu144 := Try.underlying144
  go_enter Try.func109, Try.ntmps109
  go_wp2
  rw [Lib.run_neq_ptr_same w _ Try.underlying141 hj]
  go_wp2
  go_end0
  exact ⟨rfl, rfl⟩
set_option maxHeartbeats 1000000 in
set_option maxRecDepth 100000 in
theorem check_fresh (b : Nat) (w : World) (h0 : w.cell? ⟨b, 0, none⟩ = some (.pointer none)) (hsh : w.shape? b = some (144, 2)) (hfz : w.frozen? ⟨b, 0, none⟩ = false) :
    Calls Try.prog 109 #[.pointer (some ⟨b, 0, none⟩)] w fun e w' => e = .returned (.tuple #[]) ∧ w' = w.setCell ⟨b, 0, none⟩ (.pointer (some ⟨b, 0, none⟩)) := by
  obtain ⟨j, hj, hjs⟩ := Option.map_eq_some_iff.1 info144
  have hu141 := Try.underlying141
  have hu144 := Try.underlying144
  have hu180 := Try.underlying180
  go_enter Try.func109, Try.ntmps109
  go_wp2
  rw [Lib.run_to_unsafe w ⟨b, 0, none⟩ Try.underlying141 Try.underlying180 hj (by rw [hjs]; decide) hsh (Nat.zero_lt_succ 1)]
  simp only [Result.andThen]
  rw [Oper.upon_value]
  go_wp2
  rw [run_callFunc_extern Try.func117 (by kernel_rfl) (by kernel_rfl) (by kernel_rfl) (e := Extern.AbiNoEscape.same) (by kernel_rfl)]
  rw [Lib.run_noEscape]
  simp only [Result.andThen]
  rw [Oper.upon_value]
  go_wp2
  rw [Lib.run_from_unsafe w ⟨b, 0, none⟩ Try.underlying180 Try.underlying141 hj hsh lies144]
  simp only [Result.andThen]
  rw [Oper.upon_value]
  go_wp2
  go_end0
  exact ⟨rfl, rfl⟩
theorem check_k (B b : Nat) (bs : List Value) (w : World) (h : Lib.IsBuilderF 144 5 B b bs w) :
    Calls Try.prog 109 #[.pointer (some ⟨b, 0, none⟩)] w fun e w' => e = .returned (.tuple #[]) ∧ (Lib.BuilderAtF 144 5 B b (.pointer (some ⟨b, 0, none⟩)) bs w' ∧ Below B w w' ∧ Lib.OthersKept 5 (some b) w w') := by
  rcases h with h | h
  · refine (check_fresh b w h.cell0 h.shape h.frozen0).mono ?_
    rintro e w' ⟨rfl, rfl⟩
    exact ⟨rfl, h.used _, (Below.refl B w).setCell (p := ⟨b, 0, none⟩) h.1 _, (Lib.OthersKept.refl _ _ w).setCell ⟨b, 0, none⟩ rfl _⟩
  · refine (check_used b w h.cell0).mono ?_
    rintro e w' ⟨rfl, rfl⟩
    exact ⟨rfl, h, Below.refl B _, Lib.OthersKept.refl _ _ _⟩
set_option maxHeartbeats 2000000 in
set_option maxRecDepth 100000 in
theorem write_k (B b : Nat) (bs : List Value) (s : ByteArray) (w : World) (h : Lib.IsBuilderF 144 5 B b bs w) (hlen : bs.length + s.size ≤ 140737488355328) (hBw : B ≤ w.heap.size) :
    Calls Try.prog 88 #[.pointer (some ⟨b, 0, none⟩), .string s] w fun e w' => e = .returned (.tuple #[.int .i64 s.size, .nilIface]) ∧ (Lib.IsBuilderF 144 5 B b (bs ++ Lib.strCells s) w' ∧ Below B w w' ∧ Lib.OthersKept 5 (some b) w w') := by
  obtain ⟨i0, hi, hz0, hz1, hz2⟩ := info_parts infoU8
  have hu141 := Try.underlying141
  have hu142 := Try.underlying142
  have hu144 := Try.underlying144
  go_enter Try.func88, Try.ntmps88
  go_wp2_with (go_at_call 109; refine (check_k B b bs _ h).mono ?_)
  rintro e w1 ⟨rfl, h1, hb1, hk1⟩
  obtain ⟨hB, v, hbk, hown, hne⟩ := h1
  have c0 : w1.cell? ⟨b, 0, none⟩ = some (.pointer (some ⟨b, 0, none⟩)) := by rw [Lib.cell_of_heap hbk]; rfl
  have c1 : w1.cell? ⟨b, 1, none⟩ = some v := by rw [Lib.cell_of_heap hbk]; rfl
  go_wp2_with (at_builtin; refine Lib.wpList_append_own_stringF _ rfl _ _ 142 9 rfl B 5 i0 Try.underlying142 Try.underlying9 hi hz0 hz1 hz2 _ _ _ rfl hown s rfl ?c3 ?c4 ?c5 ?_)
  case c3 => unfold maxLen; omega
  case c4 => omega
  case c5 => have := hb1.size; omega
  intro v' w2 hown' hgrow _
  have hlt : b < w1.heap.size := by
    rcases Nat.lt_or_ge b w1.heap.size with h' | h'
    · exact h'
    · simp [Array.getElem?_eq_none h'] at hbk
  have hb2 : w2.heap[b]? = some (.cells #[.pointer (some ⟨b, 0, none⟩), v] 144 (0, 0)) := by
    rw [hgrow.block b hlt (fun e => hne e.symm)]
    exact hbk
  have d0 : w2.cell? ⟨b, 0, none⟩ = some (.pointer (some ⟨b, 0, none⟩)) := by rw [Lib.cell_of_heap hb2]; rfl
  have d1 : w2.cell? ⟨b, 1, none⟩ = some v := by rw [Lib.cell_of_heap hb2]; rfl
  have f1 : w2.frozen? ⟨b, 1, none⟩ = false := Lib.frozen_of_heap hb2 1
  obtain ⟨ao, n', cap, rfl⟩ : ∃ ao n' cap, v' = .slice ao n' cap := by
    rcases hown'.2 with ⟨hv, _⟩ | ⟨g, cap, cur, fz, hv, _⟩
    · exact ⟨_, _, _, hv⟩
    · exact ⟨_, _, _, hv⟩
  go_wp2
  go_ret2
  refine ⟨rfl, .inr ?_, ?_, (hk1.grown hgrow (Lib.ownsRowF_kind hown)).setCell ⟨b, 1, none⟩ rfl _⟩
  · exact Lib.BuilderAtF.put (T := 144) (e := 5) hB hb2 (bs' := bs ++ Lib.strCells s) (by simpa [Lib.strCells_length] using hown') (by decide)
  · exact (hb1.grown hgrow (by have := hb1.size; omega) (fun k hk => (hown.lt k hk).1)).setCell (p := ⟨b, 1, none⟩) hB _
end Go.Proofs.Ytemhpbdlonfikaa.P
/- sc.text's closure: it puts each value's code behind the builder's bytes. -/
namespace Go.Proofs.Ytemhpbdlonfikaa.P
open Go Go.RowKit Go.Proofs.YtemhpbdlonfikaaW.PrintWords Go.Proofs.YtemhpbdlonfikaaW.PrintLast Go.Proofs.YtemhpbdlonfikaaW.PrintMore

/-- What a builder's user knows behind a while: the bytes, what lay below, and what is no row of bytes. -/
structure Blt (b : Nat) (W0 W : World) (l : List UInt8) : Prop where
  is : Lib.IsBuilderF 144 5 b b (Lib.byteCells l) W
  below : Below b W0 W
  kept : Lib.OthersKept 5 (some b) W0 W
theorem Blt.le {b : Nat} {W0 W : World} {l : List UInt8} (h : Blt b W0 W l) : b ≤ W.heap.size := by
  rcases h.is with ⟨_, v, hb, _⟩ | ⟨_, v, hb, _⟩
  · exact Nat.le_of_lt (Array.getElem?_eq_some_iff.1 hb).1
  · exact Nat.le_of_lt (Array.getElem?_eq_some_iff.1 hb).1
theorem isB_later {b : Nat} {W W1 : World} {bs : List Value} (h : Lib.IsBuilderF 144 5 b b bs W) (hb : Below W.heap.size W W1) : Lib.IsBuilderF 144 5 b b bs W1 := by
  have key : ∀ p, Lib.BuilderAtF 144 5 b b p bs W → Lib.BuilderAtF 144 5 b b p bs W1 := fun p ⟨h0, v, h1, h2, h3⟩ =>
    ⟨h0, v, (hb.block b (Array.getElem?_eq_some_iff.1 h1).1).trans h1, h2.kept (row := none) ⟨hb.os, hb.tape, hb.output, hb.size, fun k hk _ => hb.block k hk⟩ (by cases v.ownBlock with
      | none => exact .inl rfl
      | some g => exact .inr (fun e => by cases e)), h3⟩
  exact h.imp (key _) (key _)
theorem kept_later {b : Nat} {W W1 : World} (hb : Below W.heap.size W W1) : Lib.OthersKept 5 (some b) W W1 :=
  fun k o hk _ _ => (hb.block k (Array.getElem?_eq_some_iff.1 hk).1).trans hk
theorem Blt.later {b : Nat} {W0 W W1 : World} {l : List UInt8} (h : Blt b W0 W l) (hb : Below W.heap.size W W1) : Blt b W0 W1 l :=
  ⟨isB_later h.is hb, h.below.trans (hb.mono h.le), h.kept.trans (kept_later hb)⟩
theorem Blt.more {b : Nat} {W0 W W1 : World} {l l' : List UInt8} (h : Blt b W0 W l) (h1 : Lib.IsBuilderF 144 5 b b (Lib.byteCells l') W1) (hb : Below b W W1) (hk : Lib.OthersKept 5 (some b) W W1) : Blt b W0 W1 l' :=
  ⟨h1, h.below.trans hb, h.kept.trans hk⟩
theorem Blt.then_ {b : Nat} {W0 W W1 : World} {l l' : List UInt8} (h : Blt b W0 W l) (k : Blt b W W1 l') : Blt b W0 W1 l' := h.more k.is k.below k.kept

theorem put_len {l : List Int} (h : ∀ x ∈ l, I64 x) : (l.flatMap putU).length ≤ 10 * l.length := by
  induction l with
  | nil => simp
  | cons x l ih =>
    rw [List.flatMap_cons, List.length_append, List.length_cons]
    have := putU_len (h x List.mem_cons_self)
    have := ih (fun y hy => h y (List.mem_cons_of_mem _ hy))
    omega
theorem rd_in {l : List Int} {j : Nat} (h : j < l.length) : rd l (j : Int) ∈ l := by
  unfold rd
  rw [Int.toNat_natCast, List.getD_eq_getElem?_getD, List.getElem?_eq_getElem h]
  exact List.getElem_mem h
theorem take_put {l : List Int} {j : Nat} (h : j < l.length) : (l.take (j + 1)).flatMap putU = (l.take j).flatMap putU ++ putU (rd l (j : Int)) := by
  rw [List.take_succ_eq_append_getElem h, List.flatMap_append]
  simp [rd, List.getD_eq_getElem?_getD, List.getElem?_eq_getElem h]

set_option maxHeartbeats 2000000 in
set_option maxRecDepth 100000 in
theorem put_call {W : World} {b : Nat} {bs : List UInt8} {A : Option Addr} {c : Nat} {l : List Int} (hC : ∀ W', Below b W W' → Lib.OthersKept 5 (some b) W W' → Kd.C (Kd.int .i64) W' A l.length l)
    (hB : Lib.IsBuilderF 144 5 b b (Lib.byteCells bs) W) (hl : bs.length + 10 * l.length ≤ 1000000) (hr : ∀ x ∈ l, I64 x) :
    Calls Try.prog 87 #[.slice A l.length c, .pointer (some ⟨b, 0, none⟩)] W fun e W' => e = .returned (.tuple #[]) ∧ Blt b W W' (bs ++ l.flatMap putU) := by
  have HC := Aside0.mk hC
  have H0 : Aside0 (Blt b W W (bs ++ (l.take 0).flatMap putU)) := ⟨⟨by simpa using hB, Below.refl _ _, Lib.OthersKept.refl _ _ _⟩⟩
  have HL := Aside0.mk hl
  have HR := Aside0.mk hr
  have hmax : l.length ≤ 100000 := by omega
  clear hC hB hl hr
  go_enter Try.func87, Try.ntmps87
  go_wp2
  go_loopw [7] (fun v w' => ∃ j : Nat, v = .int .i64 j ∧ j ≤ l.length ∧ Aside0 (Blt b W w' (bs ++ (l.take j).flatMap putU))) (fun v _ => l.length - (intOf v).toNat)
  case atStart => exact ⟨0, rfl, Nat.zero_le _, H0⟩
  case round =>
    clear H0
    obtain ⟨j, rfl, hj, HS⟩ := hrel
    by_cases hlt : j < l.length
    · obtain ⟨ad, e0, hx0⟩ := Kd.at_int (HC.out _ HS.out.below HS.out.kept) (j : Int) (Int.natCast_nonneg j) (Int.ofNat_lt.2 hlt)
      subst e0
      rw [Int.toNat_natCast] at hx0
      obtain ⟨x, hx⟩ : ∃ x, rd l (j : Int) = x := ⟨_, rfl⟩
      rw [hx] at hx0
      have HX := Aside0.mk hx
      have HT := Aside0.mk (take_put hlt)
      have HI := Aside0.mk (show I64 x by rw [← hx]; exact HR.out _ (rd_in hlt))
      have HLT := Aside0.mk hlt
      obtain ⟨K, hK⟩ := (put_is HI.out).rounds
      have HK := Aside0.mk hK
      clear hx hK
      go_wp2_with (first
        | (go_at_call 89; (with_reducible refine (word_Put.calls K x (putB x) _ HK.out).mono ?_); rintro e w1 ⟨rfl, hb1⟩; have HS1 := Aside0.mk (HS.out.later hb1); clear hb1)
        | (go_at_call 88; (with_reducible refine (write_k b b _ (putB x) _ HS1.out.is ?_ HS1.out.le).mono ?_); (· have h1 := put_len (l := l.take j) (fun y hy => HR.out y (List.mem_of_mem_take hy)); have h2 := HL.out; have h3 := putU_len HI.out; have h4 : (l.take j).length ≤ j := List.length_take_le _ _; have h5 := HLT.out; rw [Lib.byteCells_length, List.length_append, putB_size]; omega); rintro e w2 ⟨rfl, h2, hb2, hk2⟩; have HS2 := Aside0.mk (HS1.out.more (l' := bs ++ (l.take (j + 1)).flatMap putU) (by rw [HT.out, HX.out, ← List.append_assoc, Lib.byteCells_append]; exact h2) hb2 hk2); clear h2 hb2 hk2))
      go_roundw
      case rel => exact ⟨j + 1, by go_num, hlt, HS2⟩
      case measure => simp [intOf]; omega
    · have hje : j = l.length := by omega
      have HE := Aside0.mk hje
      have hge : ¬ ((j : Int) < (l.length : Int)) := by omega
      clear hj
      go_wp2
      go_end0
      refine ⟨rfl, ?_⟩
      have h := HS.out
      rw [HE.out, List.take_length] at h
      exact h
end Go.Proofs.Ytemhpbdlonfikaa.P
/- Contracts of Go's library, off the kit's shelf, in this translation's numbers. -/
namespace Go.Proofs
open Go.Shelf
def Try.lays169_ren : Go.Shelf.Ren := ⟨fun | 169 => 90 | n => n, fun | 70 => 141 | 9 => 9 | 0 => 0 | 72 => 144 | 37 => 142 | 127 => 173 | 3 => 3 | 5 => 5 | n => n, fun | n => n⟩
theorem Try.lays169 : Go.Proofs.Lays.n169 Try.prog Try.lays169_ren := {
  mixed := by kernel_rfl
  f169 := Try.func90.trans (congrArg some (by kernel_rfl))
  t0 := Try.underlying0
  a0 := Try.isAgg0
  z0 := Try.sizeOf0
  v0 := Try.zeroValue0
  t3 := Try.underlying3
  a3 := Try.isAgg3
  z3 := Try.sizeOf3
  v3 := Try.zeroValue3
  t9 := Try.underlying9
  a9 := Try.isAgg9
  z9 := Try.sizeOf9
  v9 := Try.zeroValue9
  t37 := Try.underlying142
  a37 := Try.isAgg142
  z37 := Try.sizeOf142
  v37 := Try.zeroValue142
  t70 := Try.underlying141
  a70 := Try.isAgg141
  z70 := Try.sizeOf141
  v70 := Try.zeroValue141
  t72 := Try.underlying144
  a72 := Try.isAgg144
  z72 := Try.sizeOf144
  v72 := Try.zeroValue144
  t127 := Try.underlying173
  a127 := Try.isAgg173
  z127 := Try.sizeOf173
  v127 := Try.zeroValue173 }
theorem Try.Builder_Extra_169 : Builder.Extra Try.prog Try.lays169_ren := {
  sizeBuilder := by kernel_rfl
  liesBuilder := by kernel_rfl
  t5 := Try.underlying5
  a5 := Try.isAgg5
  z5 := Try.sizeOf5
  v5 := Try.zeroValue5
  infoByte := by kernel_rfl
  cellsByte := by kernel_rfl
  sizeByte := by kernel_rfl
  neB5 := by decide }
open Go.RowKit in
theorem Try.Builder_String_any_k (B b : Nat) (l : List UInt8) (w : World) (h : Lib.IsBuilderF 144 5 B b (Lib.byteCells l) w) (hBw : B ≤ w.heap.size) :
    Calls Try.prog 90 #[.pointer (some ⟨b, 0, none⟩)] w fun e w' => e = .returned (.string ⟨l.toArray⟩) ∧ (Lib.IsBuilderF 144 5 B b (Lib.byteCells l) w' ∧ Below B w w' ∧ Lib.OthersKept 5 (some b) w w') := Any.Builder_String_any_k Try.lays169 Try.Builder_Extra_169 B b l w h hBw
end Go.Proofs
/- sc.text: a state's text. -/
namespace Go.Proofs.Ytemhpbdlonfikaa.P
open Go Go.RowKit Go.Proofs.YtemhpbdlonfikaaW.PrintWords Go.Proofs.YtemhpbdlonfikaaW.PrintLast Go.Proofs.YtemhpbdlonfikaaW.PrintMore

/-- The threads' part of a state's text, as far as a thread. -/
def thrU (p q : List Int) (rg : List (List Int)) (n : Nat) : List UInt8 := (List.range n).flatMap fun (i : Nat) => putU (rd p (i : Int)) ++ putU (rd q (i : Int)) ++ (rd_L5 rg (i : Int)).flatMap putU
def wrU (l : List S59) : List UInt8 := l.flatMap fun x => putU x.f0 ++ putU x.f1
def bufU (bf : List (List S59)) : List UInt8 := bf.flatMap fun l => putU l.length ++ wrU l
def textU (p q : List Int) (rg : List (List Int)) (me : List Int) (bf : List (List S59)) (lk : Int) : List UInt8 := thrU p q rg p.length ++ me.flatMap putU ++ bufU bf ++ putU lk
structure TextOK (p q : List Int) (rg : List (List Int)) (me : List Int) (bf : List (List S59)) (lk : Int) : Prop where
  lp : p.length ≤ 64
  lq : p.length = q.length
  lr : p.length = rg.length
  lrr : ∀ r ∈ rg, r.length ≤ 64
  lm : me.length ≤ 64
  lb : bf.length ≤ 64
  lbb : ∀ r ∈ bf, r.length ≤ 64
  np : ∀ x ∈ p, I64 x
  nq : ∀ x ∈ q, I64 x
  nr : ∀ r ∈ rg, ∀ x ∈ r, I64 x
  nm : ∀ x ∈ me, I64 x
  nb : ∀ r ∈ bf, ∀ x ∈ r, I64 x.f0 ∧ I64 x.f1
  nl : I64 lk
instance (v : Int) : Decidable (I64 v) := inferInstanceAs (Decidable (_ ∧ _))
instance (p q : List Int) (rg : List (List Int)) (me : List Int) (bf : List (List S59)) (lk : Int) : Decidable (TextOK p q rg me bf lk) :=
  decidable_of_iff (p.length ≤ 64 ∧ p.length = q.length ∧ p.length = rg.length ∧ (∀ r ∈ rg, r.length ≤ 64) ∧ me.length ≤ 64 ∧ bf.length ≤ 64 ∧ (∀ r ∈ bf, r.length ≤ 64) ∧ (∀ x ∈ p, I64 x) ∧ (∀ x ∈ q, I64 x) ∧ (∀ r ∈ rg, ∀ x ∈ r, I64 x) ∧ (∀ x ∈ me, I64 x) ∧ (∀ r ∈ bf, ∀ x ∈ r, I64 x.f0 ∧ I64 x.f1) ∧ I64 lk)
    ⟨fun ⟨a, b, c, d, e, f, g, h, i, j, k, l, m⟩ => ⟨a, b, c, d, e, f, g, h, i, j, k, l, m⟩, fun h => ⟨h.lp, h.lq, h.lr, h.lrr, h.lm, h.lb, h.lbb, h.np, h.nq, h.nr, h.nm, h.nb, h.nl⟩⟩
/-- What sc.text answers of a state that is small enough. -/
def sc_text.f (p q : List Int) (rg : List (List Int)) (me : List Int) (bf : List (List S59)) (lk : Int) : Option ByteArray :=
  if TextOK p q rg me bf lk then some ⟨(textU p q rg me bf lk).toArray⟩ else none

theorem thrU_succ (p q : List Int) (rg : List (List Int)) (n : Nat) : thrU p q rg (n + 1) = thrU p q rg n ++ [rd p n, rd q n].flatMap putU ++ (rd_L5 rg n).flatMap putU := by
  unfold thrU
  rw [List.range_succ, List.flatMap_append]
  simp
theorem rd5_in {l : List (List Int)} {j : Nat} (h : j < l.length) : rd_L5 l (j : Int) ∈ l := by
  unfold rd_L5
  rw [Int.toNat_natCast, List.getD_eq_getElem?_getD, List.getElem?_eq_getElem h]
  exact List.getElem_mem h
theorem thr_len {p q : List Int} {rg : List (List Int)} (hq : p.length = q.length) (hr : p.length = rg.length) (np : ∀ x ∈ p, I64 x) (nq : ∀ x ∈ q, I64 x) (nr : ∀ r ∈ rg, ∀ x ∈ r, I64 x) (lr : ∀ r ∈ rg, r.length ≤ 64) :
    ∀ n, n ≤ p.length → (thrU p q rg n).length ≤ 660 * n := by
  intro n
  induction n with
  | zero => intro _; simp [thrU]
  | succ n ih =>
    intro h
    rw [thrU_succ, List.length_append, List.length_append]
    have h1 := ih (by omega)
    have h2 := put_len (l := [rd p n, rd q n]) (fun x hx => by
      rw [List.mem_cons, List.mem_singleton] at hx
      rcases hx with rfl | rfl
      · exact np _ (rd_in (by omega))
      · exact nq _ (rd_in (by omega)))
    have h3 := put_len (nr _ (rd5_in (l := rg) (j := n) (by omega)))
    have h4 := lr _ (rd5_in (l := rg) (j := n) (by omega))
    simp only [List.length_cons, List.length_nil] at h2
    omega
theorem C_of_block {W : World} {g : Nat} {e : TypeId} {l : List Int} (h : W.heap[g]? = some (.cells (l.map (Value.int .i64)).toArray e (0, 0))) (hl : l.length ≤ 1000000) : Kd.C (Kd.int .i64) W (some ⟨g, 0, none⟩) l.length l := by
  refine ⟨rfl, by omega, fun _ => ⟨_, rfl, fun j p hj => ?_⟩⟩
  refine ⟨[.int .i64 p], rfl, rfl, fun i u hu => ?_⟩
  obtain ⟨hjl, e⟩ := List.getElem?_eq_some_iff.1 hj
  rcases i with _ | i
  · simp only [List.getElem?_cons_zero, Option.some.injEq] at hu
    subst hu
    show W.cell? (Addr.add ⟨g, 0, none⟩ (j * 1 + 0)) = _
    have e2 : (l.map (Value.int .i64)).toArray[j]? = some (.int .i64 p) := by simp [hj]
    have e3 : Addr.add ⟨g, 0, none⟩ (j * 1 + 0) = ⟨g, j, none⟩ := by rw [Nat.mul_one, Nat.add_zero, add_plain]
    rw [e3]
    exact (blk_cell h _).trans e2
  · simp at hu

theorem rd7_in {l : List (List S59)} {j : Nat} (h : j < l.length) : rd_L7 l (j : Int) ∈ l := by
  unfold rd_L7
  rw [Int.toNat_natCast, List.getD_eq_getElem?_getD, List.getElem?_eq_getElem h]
  exact List.getElem_mem h
theorem rdT_in {l : List S59} {j : Nat} (h : j < l.length) : rd_T59 l (j : Int) ∈ l := by
  unfold rd_T59
  rw [Int.toNat_natCast, List.getD_eq_getElem?_getD, List.getElem?_eq_getElem h]
  exact List.getElem_mem h
theorem bufU_succ {bf : List (List S59)} {j : Nat} (h : j < bf.length) : bufU (bf.take (j + 1)) = bufU (bf.take j) ++ putU (rd_L7 bf (j : Int)).length ++ wrU (rd_L7 bf (j : Int)) := by
  unfold bufU
  rw [List.take_succ_eq_append_getElem h, List.flatMap_append]
  simp [rd_L7, List.getD_eq_getElem?_getD, List.getElem?_eq_getElem h]
theorem wrU_succ {l : List S59} {j : Nat} (h : j < l.length) : wrU (l.take (j + 1)) = wrU (l.take j) ++ [(rd_T59 l (j : Int)).f0, (rd_T59 l (j : Int)).f1].flatMap putU := by
  unfold wrU
  rw [List.take_succ_eq_append_getElem h, List.flatMap_append]
  simp [rd_T59, List.getD_eq_getElem?_getD, List.getElem?_eq_getElem h]
theorem wrU_len {l : List S59} (h : ∀ x ∈ l, I64 x.f0 ∧ I64 x.f1) : (wrU l).length ≤ 20 * l.length := by
  induction l with
  | nil => simp [wrU]
  | cons x l ih =>
    have h1 := ih (fun y hy => h y (List.mem_cons_of_mem _ hy))
    obtain ⟨h2, h3⟩ := h x List.mem_cons_self
    have := putU_len h2
    have := putU_len h3
    unfold wrU at h1 ⊢
    rw [List.flatMap_cons, List.length_append, List.length_append, List.length_cons]
    omega
theorem len_in {n : Nat} (h : n ≤ 1000000) : I64 (n : Int) := ⟨by omega, by omega⟩
theorem bufU_len {bf : List (List S59)} (h : ∀ r ∈ bf, ∀ x ∈ r, I64 x.f0 ∧ I64 x.f1) (hl : ∀ r ∈ bf, r.length ≤ 64) : (bufU bf).length ≤ 1300 * bf.length := by
  induction bf with
  | nil => simp [bufU]
  | cons r bf ih =>
    have h1 := ih (fun y hy => h y (List.mem_cons_of_mem _ hy)) (fun y hy => hl y (List.mem_cons_of_mem _ hy))
    have h2 := wrU_len (h r List.mem_cons_self)
    have h3 := hl r List.mem_cons_self
    have h4 := putU_len (len_in (n := r.length) (by omega))
    unfold bufU at h1 ⊢
    rw [List.flatMap_cons, List.length_append, List.length_append, List.length_cons]
    omega
theorem pair_in {x y : Int} (hx : I64 x) (hy : I64 y) : ∀ z ∈ [x, y], I64 z := fun z hz => by
  rw [List.mem_cons, List.mem_singleton] at hz
  rcases hz with rfl | rfl
  · exact hx
  · exact hy
theorem one_in {x : Int} (hx : I64 x) : ∀ z ∈ [x], I64 z := fun z hz => by rw [List.mem_singleton] at hz; rw [hz]; exact hx
/-- A list that was laid a moment ago, handed to the closure. -/
theorem lit_k {W : World} {b : Nat} {l : List Int} (hb : b < W.heap.size) (hl : l.length ≤ 1000000) : ∀ W', Below b (W.alloc (.cells (l.map (Value.int .i64)).toArray 2)) W' → Lib.OthersKept 5 (some b) (W.alloc (.cells (l.map (Value.int .i64)).toArray 2)) W' →
    Kd.C (Kd.int .i64) W' (some ⟨W.heap.size, 0, none⟩) l.length l := fun W' _ hk =>
  C_of_block (hk _ _ (heap_alloc_new W _) (fun e => by injection e with e; omega) (fun c fz e => by injection e with _ e _; exact absurd e (by decide))) hl

theorem Blt.lt {b : Nat} {W0 W : World} {l : List UInt8} (h : Blt b W0 W l) : b < W.heap.size := by
  rcases h.is with ⟨_, v, hb, _⟩ | ⟨_, v, hb, _⟩
  · exact (Array.getElem?_eq_some_iff.1 hb).1
  · exact (Array.getElem?_eq_some_iff.1 hb).1
theorem put_two {W0 W : World} {b : Nat} {bs : List UInt8} {x y : Int} {c : Nat} (h : Blt b W0 W bs) (hl : bs.length ≤ 900000) (hx : I64 x) (hy : I64 y) :
    Calls Try.prog 87 #[.slice (some ⟨W.heap.size, 0, none⟩) 2 c, .pointer (some ⟨b, 0, none⟩)] (W.alloc (.cells #[.int .i64 x, .int .i64 y] 2)) fun e W' => e = .returned (.tuple #[]) ∧ Blt b W0 W' (bs ++ [x, y].flatMap putU) := by
  have h1 := h.later ((Below.refl _ W).alloc (Nat.le_refl _) (.cells #[.int .i64 x, .int .i64 y] 2))
  exact (put_call (l := [x, y]) (lit_k (l := [x, y]) h.lt (by simp)) h1.is (by simp; omega) (pair_in hx hy)).mono fun e W' ⟨he, hb⟩ => ⟨he, h1.then_ hb⟩
theorem put_twoA {W0 W : World} {b : Nat} {bs : List UInt8} {x y : Int} {c : Nat} {o : Obj} (h : Blt b W0 W bs) (hl : bs.length ≤ 900000) (hx : I64 x) (hy : I64 y) :
    Calls Try.prog 87 #[.slice (some ⟨W.heap.size + 1, 0, none⟩) 2 c, .pointer (some ⟨b, 0, none⟩)] ((W.alloc o).alloc (.cells #[.int .i64 x, .int .i64 y] 2)) fun e W' => e = .returned (.tuple #[]) ∧ Blt b W0 W' (bs ++ [x, y].flatMap putU) := by
  have h1 := put_two (c := c) (h.later ((Below.refl _ _).alloc (Nat.le_refl _) o)) hl hx hy
  have e : (W.alloc o).heap.size = W.heap.size + 1 := by simp
  rw [e] at h1
  exact h1
theorem lit_kd {W : World} {b : Nat} {l : List Int} (hb : b < W.heap.size) (hl : l.length ≤ 1000000) : ∀ W', Below b (W.alloc (.cells (l.map (Value.int .i64)).toArray 2)).drew W' → Lib.OthersKept 5 (some b) (W.alloc (.cells (l.map (Value.int .i64)).toArray 2)).drew W' →
    Kd.C (Kd.int .i64) W' (some ⟨W.heap.size, 0, none⟩) l.length l := fun W' _ hk =>
  C_of_block (hk _ _ (show (W.alloc (.cells (l.map (Value.int .i64)).toArray 2)).drew.heap[W.heap.size]? = some _ from heap_alloc_new W _) (fun e => by injection e with e; omega) (fun c fz e => by injection e with _ e _; exact absurd e (by decide))) hl
theorem put_twoD {W0 W : World} {b : Nat} {bs : List UInt8} {x y : Int} {c : Nat} (h : Blt b W0 W bs) (hl : bs.length ≤ 900000) (hx : I64 x) (hy : I64 y) :
    Calls Try.prog 87 #[.slice (some ⟨W.heap.size, 0, none⟩) 2 c, .pointer (some ⟨b, 0, none⟩)] (W.alloc (.cells #[.int .i64 x, .int .i64 y] 2)).drew fun e W' => e = .returned (.tuple #[]) ∧ Blt b W0 W' (bs ++ [x, y].flatMap putU) := by
  have h1 := (h.later ((Below.refl _ W).alloc (Nat.le_refl _) (.cells #[.int .i64 x, .int .i64 y] 2))).later ((Below.refl _ _).drew)
  exact (put_call (l := [x, y]) (lit_kd (l := [x, y]) h.lt (by simp)) h1.is (by simp; omega) (pair_in hx hy)).mono fun e W' ⟨he, hb⟩ => ⟨he, h1.then_ hb⟩
theorem put_one {W0 W : World} {b : Nat} {bs : List UInt8} {x : Int} {c : Nat} (h : Blt b W0 W bs) (hl : bs.length ≤ 900000) (hx : I64 x) :
    Calls Try.prog 87 #[.slice (some ⟨W.heap.size, 0, none⟩) 1 c, .pointer (some ⟨b, 0, none⟩)] (W.alloc (.cells #[.int .i64 x] 2)) fun e W' => e = .returned (.tuple #[]) ∧ Blt b W0 W' (bs ++ putU x) := by
  have h1 := h.later ((Below.refl _ W).alloc (Nat.le_refl _) (.cells #[.int .i64 x] 2))
  exact (put_call (l := [x]) (lit_k (l := [x]) h.lt (by simp)) h1.is (by simp; omega) (one_in hx)).mono fun e W' ⟨he, hb⟩ => ⟨he, by have h2 := h1.then_ hb; simpa using h2⟩
theorem put_row {W0 W : World} {b : Nat} {bs : List UInt8} {A : Option Addr} {c : Nat} {l : List Int} (h : Blt b W0 W bs) (hC : ∀ W', Below b W0 W' → Kd.C (Kd.int .i64) W' A l.length l) (hl : bs.length ≤ 900000) (hll : l.length ≤ 64) (hx : ∀ x ∈ l, I64 x) :
    Calls Try.prog 87 #[.slice A l.length c, .pointer (some ⟨b, 0, none⟩)] W fun e W' => e = .returned (.tuple #[]) ∧ Blt b W0 W' (bs ++ l.flatMap putU) :=
  (put_call (fun W' hb _ => hC W' (h.below.trans hb)) h.is (by omega) hx).mono fun e W' ⟨he, hb⟩ => ⟨he, h.then_ hb⟩
theorem fresh_blt (w : World) (o : Obj) : Blt (w.heap.size + 1) ((w.alloc o).alloc (.cells #[.pointer none, .slice none 0 0] 144)) ((w.alloc o).alloc (.cells #[.pointer none, .slice none 0 0] 144)) [] := by
  have h := Lib.IsBuilderF.of (Lib.fresh_isBuilder 144 5 (w.alloc o))
  have e : (w.alloc o).heap.size = w.heap.size + 1 := by simp
  rw [e] at h
  exact ⟨h, Below.refl _ _, Lib.OthersKept.refl _ _ _⟩

set_option maxHeartbeats 8000000 in
set_option maxRecDepth 100000 in
theorem sc_text.calls (A0_0 : Option Addr) (c0_0 : Nat) (p : List Int) (A0_1 : Option Addr) (c0_1 : Nat) (q : List Int) (A0_2 : Option Addr) (c0_2 : Nat) (rg : List (List Int)) (A0_3 : Option Addr) (c0_3 : Nat) (me : List Int) (A0_4 : Option Addr) (c0_4 : Nat) (bf : List (List S59)) (lk : Int) (r : ByteArray) (w : World)
    (h0 : Kd.C (Kd.int .i64) w A0_0 p.length p) (_l0 : p.length ≤ c0_0) (h1 : Kd.C (Kd.int .i64) w A0_1 q.length q) (_l1 : q.length ≤ c0_1) (h2 : Kd.C (Kd.slice 2 (Kd.int .i64)) w A0_2 rg.length rg) (_l2 : rg.length ≤ c0_2) (h3 : Kd.C (Kd.int .i64) w A0_3 me.length me) (_l3 : me.length ≤ c0_3) (h4 : Kd.C (Kd.slice 59 k59) w A0_4 bf.length bf) (_l4 : bf.length ≤ c0_4)
    (h : sc_text.f p q rg me bf lk = some r) :
    Calls Try.prog 46 #[.agg #[.slice A0_0 p.length c0_0, .slice A0_1 q.length c0_1, .slice A0_2 rg.length c0_2, .slice A0_3 me.length c0_3, .slice A0_4 bf.length c0_4, .int .i64 lk]] w fun e W' => e = .returned (.string r) ∧ Below w.heap.size w W' := by
  have hOK : TextOK p q rg me bf lk ∧ r = ⟨(textU p q rg me bf lk).toArray⟩ := by
    unfold sc_text.f at h
    split at h
    · rename_i hc; exact ⟨hc, (Option.some.inj h).symm⟩
    · cases h
  obtain ⟨hO, rfl⟩ := hOK
  clear h
  have H0 := Aside0.mk h0
  have H1 := Aside0.mk h1
  have H2 := Aside0.mk h2
  have H3 := Aside0.mk h3
  have H4 := Aside0.mk h4
  have HO := Aside0.mk hO
  have lp := hO.lp
  have lm := hO.lm
  have lb := hO.lb
  clear h0 h1 h2 h3 h4 hO
  have hu42 := Try.underlying42
  have hu59 := Try.underlying59
  obtain ⟨px, hpx⟩ : ∃ px : Array Value, px = #[.slice A0_0 p.length c0_0, .slice A0_1 q.length c0_1, .slice A0_2 rg.length c0_2, .slice A0_3 me.length c0_3, .slice A0_4 bf.length c0_4, .int .i64 lk] := ⟨_, rfl⟩
  have HBX : Aside0 (((w.alloc (.cells px 42)).alloc (.cells #[.pointer none, .slice none 0 0] 144)).heap[w.heap.size]? = some (.cells px 42 (0, 0))) := ⟨blk_alloc (heap_alloc_new w _) _⟩
  have HBW : Aside0 (Below w.heap.size w ((w.alloc (.cells px 42)).alloc (.cells #[.pointer none, .slice none 0 0] 144))) := ⟨below_alloc (below_alloc (Below.refl _ _) _) _⟩
  have HIS : Aside0 (Blt (w.heap.size + 1) ((w.alloc (.cells px 42)).alloc (.cells #[.pointer none, .slice none 0 0] 144)) ((w.alloc (.cells px 42)).alloc (.cells #[.pointer none, .slice none 0 0] 144)) []) :=
    ⟨fresh_blt _ _⟩
  rw [hpx] at HBX HBW HIS
  go_enter Try.func46, Try.ntmps46
  go_wp2
  generalize hW : World.alloc (World.alloc w _) _ = W3
  replace HBX : Aside0 (W3.heap[w.heap.size]? = some (.cells #[.slice A0_0 p.length c0_0, .slice A0_1 q.length c0_1, .slice A0_2 rg.length c0_2, .slice A0_3 me.length c0_3, .slice A0_4 bf.length c0_4, .int .i64 lk] 42 (0, 0))) := ⟨by rw [← hW]; exact HBX.out⟩
  have HWB : Aside0 (∀ W', Below (w.heap.size + 1) W3 W' → Below w.heap.size w W') := ⟨fun W' h => (show Below w.heap.size w W3 by rw [← hW]; exact HBW.out).trans (h.mono (Nat.le_succ _))⟩
  replace HIS : Aside0 (Blt (w.heap.size + 1) W3 W3 []) := ⟨by rw [← hW]; exact HIS.out⟩
  have HBX' : Aside0 (∀ W', Below (w.heap.size + 1) W3 W' → W'.heap[w.heap.size]? = some (.cells #[.slice A0_0 p.length c0_0, .slice A0_1 q.length c0_1, .slice A0_2 rg.length c0_2, .slice A0_3 me.length c0_3, .slice A0_4 bf.length c0_4, .int .i64 lk] 42 (0, 0))) :=
    ⟨fun W' h => (h.block w.heap.size (Nat.lt_succ_self _)).trans HBX.out⟩
  clear hW HBW HBX hpx
  have H0' : Aside0 (Blt (w.heap.size + 1) W3 W3 (thrU p q rg 0)) := HIS
  clear HIS
  go_loopw [14] (fun v w' => ∃ i : Nat, v = .int .i64 i ∧ i ≤ p.length ∧ Aside0 (Blt (w.heap.size + 1) W3 w' (thrU p q rg i))) (fun v _ => p.length - (intOf v).toNat)
  case atStart => exact ⟨0, rfl, Nat.zero_le _, H0'⟩
  case round =>
    clear H0'
    obtain ⟨i, rfl, hi, HS⟩ := hrel
    by_cases hlt : i < p.length
    · have hlq : i < q.length := by rw [← HO.out.lq]; exact hlt
      have hlr : i < rg.length := by rw [← HO.out.lr]; exact hlt
      obtain ⟨ad0, e0, x0⟩ := Kd.at_int H0.out (i : Int) (Int.natCast_nonneg i) (Int.ofNat_lt.2 hlt)
      obtain ⟨ad1, e1, x1⟩ := Kd.at_int H1.out (i : Int) (Int.natCast_nonneg i) (Int.ofNat_lt.2 hlq)
      obtain ⟨ad2, AR, cR, e2, x2, _, hCR⟩ := at_L5 H2.out (i : Int) (Int.natCast_nonneg i) (Int.ofNat_lt.2 hlr)
      subst e0 e1 e2
      rw [Int.toNat_natCast] at x0 x1 x2
      have HCR := Aside0.mk hCR
      have HN1 := Aside0.mk (HO.out.np _ (rd_in hlt))
      have HN2 := Aside0.mk (HO.out.nq _ (rd_in hlq))
      have HN3 := Aside0.mk (HO.out.nr _ (rd5_in hlr))
      have HN4 := Aside0.mk (HO.out.lrr _ (rd5_in hlr))
      have HTH := Aside0.mk (thrU_succ p q rg i)
      have HLN : Aside0 ((thrU p q rg i).length ≤ 100000) := ⟨by have := thr_len HO.out.lq HO.out.lr HO.out.np HO.out.nq HO.out.nr HO.out.lrr i hi; omega⟩
      obtain ⟨x, hx⟩ : ∃ x, rd p (i : Int) = x := ⟨_, rfl⟩
      obtain ⟨y, hy⟩ : ∃ y, rd q (i : Int) = y := ⟨_, rfl⟩
      obtain ⟨rr, hrr⟩ : ∃ rr, rd_L5 rg (i : Int) = rr := ⟨_, rfl⟩
      rw [hx] at x0 HTH HN1
      rw [hy] at x1 HTH HN2
      rw [hrr] at x2 HTH HN3 HN4 HCR
      clear hx hy hrr hCR
      have KP : Aside0 (∀ W', Below (w.heap.size + 1) W3 W' → W'.cell? ⟨w.heap.size, 0, none⟩ = some (.slice (some ad0) p.length c0_0) ∧ W'.cell? ⟨w.heap.size, 1, none⟩ = some (.slice (some ad1) q.length c0_1) ∧ W'.cell? (ad0.add i) = some (.int .i64 x) ∧ W'.cell? (ad1.add i) = some (.int .i64 y)) :=
        ⟨fun W' h => ⟨(blkA6 (HBX'.out W' h)).1, (blkA6 (HBX'.out W' h)).2.1, pw_cell_below (HWB.out W' h) x0, pw_cell_below (HWB.out W' h) x1⟩⟩
      have X2 := Aside0.mk x2
      have HSd := Aside0.mk (HS.out.later (below_drew (Below.refl _ _)))
      clear x0 x1 x2
      go_wp2
      go_region_held3 (fun W' : World => W'.cell? ⟨w.heap.size, 0, none⟩ = some (.slice (some ad0) p.length c0_0) ∧ W'.cell? ⟨w.heap.size, 1, none⟩ = some (.slice (some ad1) q.length c0_1) ∧ W'.cell? (ad0.add i) = some (.int .i64 x) ∧ W'.cell? (ad1.add i) = some (.int .i64 y))
        (first | exact KP.out _ HSd.out.below | exact KP.out _ (HS.out.later ((Below.refl _ _).alloc (Nat.le_refl _) _)).below.drew | exact KP.out _ HS5.out.below)
        (first | (go_at_call 87; (with_reducible refine (put_twoD (x := x) (y := y) HS.out (Nat.le_trans HLN.out (by decide)) HN1.out HN2.out).mono ?_); rintro e w5 ⟨rfl, hS5⟩; have HS5 := Aside0.mk hS5; clear hS5))
      have hb5 := HBX'.out _ HS5.out.below
      obtain ⟨_, _, z2, _, _, _, _, _, _, _, _, _⟩ := blkA6 hb5
      have x2 := pw_cell_below (HWB.out _ HS5.out.below) X2.out
      clear hb5
      go_wp2_with (first | (go_at_call 87; (with_reducible refine (put_row (l := rr) HS5.out (fun W' h => Kd.C_below HCR.out (HWB.out W' h)) ?_ HN4.out HN3.out).mono ?_); (· have h1 := HLN.out; have h2 := put_len (pair_in HN1.out HN2.out); rw [List.length_append]; simp only [List.length_cons, List.length_nil] at h2; omega); rintro e w6 ⟨rfl, hS6⟩; rw [← HTH.out] at hS6; have HS6 := Aside0.mk hS6; clear hS6))
      go_roundw
      case rel => exact ⟨i + 1, by go_num, hlt, HS6⟩
      case measure => simp [intOf]; omega
    · have hie : i = p.length := by omega
      subst hie
      have hge : ¬ ((p.length : Int) < (p.length : Int)) := by omega
      have HLN : Aside0 ((thrU p q rg p.length).length ≤ 50000) := ⟨by have := thr_len HO.out.lq HO.out.lr HO.out.np HO.out.nq HO.out.nr HO.out.lrr p.length (Nat.le_refl _); omega⟩
      obtain ⟨T0, hT0⟩ : ∃ T0, thrU p q rg p.length = T0 := ⟨_, rfl⟩
      rw [hT0] at HS HLN
      have HT0 := Aside0.mk hT0
      have hb5 := HBX'.out _ HS.out.below
      obtain ⟨_, _, _, z3, _, _, _, _, _, _, _, _⟩ := blkA6 hb5
      have HNM := Aside0.mk HO.out.nm
      clear hb5 hi hT0
      as_aux_lemma =>
        go_wp2_with (first | (go_at_call 87; (with_reducible refine (put_row (l := me) HS.out (fun W' h => Kd.C_below H3.out (HWB.out W' h)) (Nat.le_trans HLN.out (by decide)) lm HNM.out).mono ?_); rintro e w6 ⟨rfl, hS6⟩; have HS6 := Aside0.mk hS6; clear hS6; clear z3; obtain ⟨_, _, _, _, z4, _, _, _, _, _, _, _⟩ := blkA6 (HBX'.out _ HS6.out.below)))
        have HL1 : Aside0 ((T0 ++ me.flatMap putU).length ≤ 60000) := ⟨by have h1 := HLN.out; have h2 := put_len HNM.out; rw [List.length_append]; omega⟩
        obtain ⟨T1, hT1⟩ : ∃ T1, T0 ++ me.flatMap putU = T1 := ⟨_, rfl⟩
        rw [hT1] at HS6 HL1
        have HT1 := Aside0.mk hT1
        have HS7 : Aside0 (Blt (w.heap.size + 1) W3 w6 (T1 ++ bufU (bf.take 0))) := ⟨by simpa [bufU] using HS6.out⟩
        clear hT1 HS6 z4 HS HLN
        go_loopw [45] (fun v w' => ∃ j : Nat, v = .int .i64 j ∧ j ≤ bf.length ∧ Aside0 (Blt (w.heap.size + 1) W3 w' (T1 ++ bufU (bf.take j)))) (fun v _ => bf.length - (intOf v).toNat)
        case atStart => exact ⟨0, rfl, Nat.zero_le _, HS7⟩
        case round =>
          clear HS7
          obtain ⟨j, rfl, hj, HS⟩ := hrel
          by_cases hlt : j < bf.length
          · obtain ⟨ad4, AB, cB, e4, x4, _, hCB⟩ := at_L7 H4.out (j : Int) (Int.natCast_nonneg j) (Int.ofNat_lt.2 hlt)
            subst e4
            rw [Int.toNat_natCast] at x4
            have HCB := Aside0.mk hCB
            have HNB := Aside0.mk (HO.out.nb _ (rd7_in hlt))
            have hlb := HO.out.lbb _ (rd7_in hlt)
            have HBU := Aside0.mk (bufU_succ hlt)
            have HLB : Aside0 ((bufU (bf.take j)).length ≤ 100000) := ⟨by have h1 := bufU_len (bf := bf.take j) (fun r hr => HO.out.nb r (List.mem_of_mem_take hr)) (fun r hr => HO.out.lbb r (List.mem_of_mem_take hr)); have h2 : (bf.take j).length ≤ j := List.length_take_le _ _; omega⟩
            obtain ⟨l, hl⟩ : ∃ l, rd_L7 bf (j : Int) = l := ⟨_, rfl⟩
            rw [hl] at x4 HCB HNB hlb HBU
            have x4' := pw_cell_below (HWB.out _ HS.out.below) x4
            clear hl hCB x4
            go_wp2_with (first | (go_at_call 87; (with_reducible refine (put_one (x := (l.length : Int)) HS.out ?_ (len_in (Nat.le_trans hlb (by decide)))).mono ?_); (· have h1 := HL1.out; have h2 := HLB.out; rw [List.length_append]; omega); rintro e w7 ⟨rfl, hS7⟩; have HS7 := Aside0.mk hS7; clear hS7 x4'))
            have HL2 : Aside0 ((T1 ++ bufU (bf.take j) ++ putU (l.length : Int)).length ≤ 200000) := ⟨by have h1 := HL1.out; have h2 := HLB.out; have h3 := putU_len (len_in (n := l.length) (by omega)); rw [List.length_append, List.length_append]; omega⟩
            obtain ⟨T2, hT2⟩ : ∃ T2, T1 ++ bufU (bf.take j) ++ putU (l.length : Int) = T2 := ⟨_, rfl⟩
            rw [hT2] at HS7 HL2
            have HT2 := Aside0.mk hT2
            have HS8 : Aside0 (Blt (w.heap.size + 1) W3 w7 (T2 ++ wrU (l.take 0))) := ⟨by simpa [wrU] using HS7.out⟩
            clear hT2 HS7 HS
            obtain ⟨w70, rfl⟩ : ∃ wo : World, wo = w7 := ⟨_, rfl⟩
            go_loopw [56] (fun v w' => ∃ k : Nat, v = .int .i64 k ∧ k ≤ l.length ∧ Aside0 (Blt (w.heap.size + 1) W3 w' (T2 ++ wrU (l.take k)))) (fun v _ => l.length - (intOf v).toNat)
            case atStart => exact ⟨0, rfl, Nat.zero_le _, HS8⟩
            case round =>
              clear HS8
              obtain ⟨k, rfl, hk, HS⟩ := hrel
              by_cases hlk : k < l.length
              · obtain ⟨ad5, e5, y0, y1⟩ := at_T59 HCB.out (k : Int) (Int.natCast_nonneg k) (Int.ofNat_lt.2 hlk)
                subst e5
                rw [Int.toNat_natCast] at y0 y1
                have HWU := Aside0.mk (wrU_succ hlk)
                have HX := Aside0.mk (HNB.out _ (rdT_in hlk))
                have HLW : Aside0 ((wrU (l.take k)).length ≤ 100000) := ⟨by have h1 := wrU_len (l := l.take k) (fun x hx => HNB.out x (List.mem_of_mem_take hx)); have h2 : (l.take k).length ≤ k := List.length_take_le _ _; omega⟩
                obtain ⟨x, hx⟩ : ∃ x, (rd_T59 l (k : Int)).f0 = x := ⟨_, rfl⟩
                obtain ⟨y, hy⟩ : ∃ y, (rd_T59 l (k : Int)).f1 = y := ⟨_, rfl⟩
                rw [hx] at y0 HWU HX
                rw [hy] at y1 HWU HX
                have y0' := pw_cell_below (HWB.out _ HS.out.below) y0
                have y1' := pw_cell_below (HWB.out _ HS.out.below) y1
                clear hx hy y0 y1
                go_wp2_with (first | (go_at_call 87; (with_reducible refine (put_twoA (x := x) (y := y) HS.out ?_ HX.out.1 HX.out.2).mono ?_); (· have h1 := HL2.out; have h2 := HLW.out; rw [List.length_append]; omega); rintro e w8 ⟨rfl, hS8⟩; have HS8 : Aside0 (Blt (w.heap.size + 1) W3 w8 (T2 ++ wrU (l.take (k + 1)))) := ⟨by rw [HWU.out, ← List.append_assoc]; exact hS8⟩; clear hS8 y0' y1'))
                go_roundw
                case rel => exact ⟨k + 1, by go_num, hlk, HS8⟩
                case measure => simp [intOf]; omega
              · have hke : k = l.length := by omega
                subst hke
                have hge2 : ¬ ((l.length : Int) < (l.length : Int)) := by omega
                have HS9 : Aside0 (Blt (w.heap.size + 1) W3 wr (T1 ++ bufU (bf.take (j + 1)))) := ⟨by have h := HS.out; rw [List.take_length, ← HT2.out] at h; rw [HBU.out, ← List.append_assoc, ← List.append_assoc]; exact h⟩
                clear HS hk
                go_wp2
                go_roundw
                case rel => exact ⟨j + 1, by go_num, hlt, HS9⟩
                case measure => simp [intOf]; omega
          · have hje : j = bf.length := by omega
            subst hje
            have hge3 : ¬ ((bf.length : Int) < (bf.length : Int)) := by omega
            have HS9 : Aside0 (Blt (w.heap.size + 1) W3 wr (T1 ++ bufU bf)) := ⟨by have h := HS.out; rw [List.take_length] at h; exact h⟩
            have HL9 : Aside0 ((T1 ++ bufU bf).length ≤ 300000) := ⟨by have h1 := HL1.out; have h2 := bufU_len HO.out.nb HO.out.lbb; rw [List.length_append]; omega⟩
            have HRES : Aside0 (textU p q rg me bf lk = T1 ++ bufU bf ++ putU lk) := ⟨by unfold textU; rw [HT0.out, HT1.out]⟩
            clear HS hj
            obtain ⟨_, _, _, _, _, z5, _, _, _, _, _, _⟩ := blkA6 (HBX'.out _ HS9.out.below)
            go_wp2_with (first
              | (go_at_call 87; (with_reducible refine (put_one (x := lk) HS9.out (Nat.le_trans HL9.out (by decide)) HO.out.nl).mono ?_); rintro e w9 ⟨rfl, hS10⟩; rw [← HRES.out] at hS10; have HS10 := Aside0.mk hS10; clear hS10 z5)
              | (go_at_call 90; (with_reducible refine (Try.Builder_String_any_k (w.heap.size + 1) (w.heap.size + 1) (textU p q rg me bf lk) _ HS10.out.is HS10.out.le).mono ?_); rintro e w10 ⟨rfl, _, hb10, _⟩; have HB10 := Aside0.mk (HWB.out _ (HS10.out.below.trans hb10)); clear hb10))
            go_ret
            exact ⟨rfl, HB10.out⟩
end Go.Proofs.Ytemhpbdlonfikaa.P
