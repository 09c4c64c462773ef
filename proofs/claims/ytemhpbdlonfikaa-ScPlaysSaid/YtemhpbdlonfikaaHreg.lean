/- The contract of the document's Register, whose table is an array of sixteen texts in memory, in the printer's form. -/
import Derived.Test.YtemhpbdlonfikaaP0
import Derived.Outline
namespace Go.Proofs.Ytemhpbdlonfikaa.P
open Go.RowKit Go.Proofs.YtemhpbdlonfikaaW.PrintWords

def regNames : List ByteArray := [⟨#[69, 65, 88]⟩, ⟨#[69, 66, 88]⟩, ⟨#[69, 67, 88]⟩, ⟨#[69, 68, 88]⟩, ⟨#[69, 83, 73]⟩, ⟨#[69, 68, 73]⟩, ⟨#[69, 66, 80]⟩, ⟨#[69, 83, 80]⟩, ⟨#[82, 56]⟩, ⟨#[82, 57]⟩, ⟨#[82, 49, 48]⟩, ⟨#[82, 49, 49]⟩, ⟨#[82, 49, 50]⟩, ⟨#[82, 49, 51]⟩, ⟨#[82, 49, 52]⟩, ⟨#[82, 49, 53]⟩]
theorem regNames_length : regNames.length = 16 := rfl
/-- The name with a number. -/
def nth (k : Nat) : ByteArray := regNames.getD k ⟨#[]⟩
/-- Stands a text among the first k names? -/
def among (s : ByteArray) (k : Nat) : Bool := (regNames.take k).any fun x => x.toList == s.toList
theorem among_step (s : ByteArray) (k : Nat) (hk : k < 16) : among s (k + 1) = (among s k || (nth k).toList == s.toList) := by
  unfold among nth
  rw [List.take_succ_eq_append_getElem (by rw [regNames_length]; exact hk), List.any_append]
  simp [List.getD_eq_getElem?_getD, List.getElem?_eq_getElem (show k < regNames.length by rw [regNames_length]; exact hk)]

theorem among_all {s : ByteArray} {k : Nat} (h : among s k = true) : among s 16 = true := by
  have e : among s 16 = regNames.any fun x => x.toList == s.toList := by unfold among; rw [List.take_of_length_le (by rw [regNames_length]; omega)]
  rw [e]
  unfold among at h
  obtain ⟨x, hx, hq⟩ := List.any_eq_true.1 h
  exact List.any_eq_true.2 ⟨x, List.mem_of_mem_take hx, hq⟩
/-- Is a text one of the sixteen names? -/
def weirref09_Register.f (a0 : ByteArray) : Option Bool := some (among a0 16)

set_option maxHeartbeats 4000000 in
set_option maxRecDepth 100000 in
theorem weirref09_Register.calls (a0 : ByteArray) (r : Bool) (w : World) (h : weirref09_Register.f a0 = some r) :
    Calls Try.prog 97 #[.string a0] w fun e w' => e = .returned (.bool r) ∧ Below w.heap.size w w' := by
  obtain rfl := Option.some.inj h
  clear h
  have hua := Try.underlying177
  have hus := Try.underlying9
  go_enter Try.func97, Try.ntmps97
  go_wp2
  obtain ⟨W, hW⟩ : ∃ W, w.alloc (Obj.cells (regNames.map Value.string).toArray 177) = W := ⟨_, rfl⟩
  have hc : Aside0 (∀ k : Nat, k < 16 → W.cell? ⟨w.heap.size, k, none⟩ = some (.string (nth k))) := by
    refine ⟨fun k hk => ?_⟩
    rw [← hW, World.cell?_alloc_new]
    unfold nth
    simp [List.getD_eq_getElem?_getD, List.getElem?_eq_getElem (show k < regNames.length by rw [regNames_length]; exact hk)]
  have hB : Aside0 (Below w.heap.size w W) := ⟨by rw [← hW]; exact (Below.refl _ _).alloc (Nat.le_refl _) _⟩
  simp only [regNames, List.map_cons, List.map_nil] at hW
  rw [hW]
  clear hW
  go_loop [4] (fun i => ∃ k : Nat, k ≤ 16 ∧ i = .int .i64 k ∧ Aside0 (among a0 k = false)) (fun i => 16 - (intOf i).toNat)
  case atStart => exact ⟨0, by omega, rfl, ⟨rfl⟩⟩
  case round =>
    obtain ⟨k, hk, rfl, ha⟩ := hrel
    by_cases hlt : k < 16
    · have hck := hc.out k hlt
      have hs := among_step a0 k hlt
      rw [ha.out, Bool.false_or] at hs
      by_cases he : ((nth k).toList == a0.toList) = true
      · have hfin : Aside0 (among a0 16 = true) := ⟨among_all (hs.trans he)⟩
        clear hs
        go_wp2
        go_ret
        exact ⟨by rw [hfin.out]; rfl, hB.out⟩
      · have he' : ((nth k).toList == a0.toList) = false := by simpa using he
        have hs' := Aside0.mk (hs.trans he')
        clear hs he
        go_wp2
        go_round
        case rel => exact ⟨k + 1, by omega, by go_num, hs'⟩
        case measure => simp [intOf]; omega
    · have hge : 16 ≤ k := by omega
      have hfin : Aside0 (among a0 16 = false) := ⟨by rw [← ha.out, show k = 16 by omega]⟩
      clear ha hlt
      go_wp2
      go_ret
      exact ⟨by rw [hfin.out]; rfl, hB.out⟩
end Go.Proofs.Ytemhpbdlonfikaa.P
