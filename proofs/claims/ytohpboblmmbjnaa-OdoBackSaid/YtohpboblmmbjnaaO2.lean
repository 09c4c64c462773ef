/- The contracts of Len, At and Rank of odo's spaces, kind by kind. -/
import Derived.Test.YtohpboblmmbjnaaO1
namespace Go.Proofs.Ytohpboblmmbjnaa.P
open Go.RowKit Go.Proofs.YtohpboblmmbjnaaW.PrintWords Go.Proofs.YtohpboblmmbjnaaW.PrintLast Go.Proofs.YtohpboblmmbjnaaW.PrintMore

theorem m80 (A : Option Addr) (n c : Nat) : (∀ w : World, (method 225 80 (.slice A n c) "weir/odo.count").run Try.prog w = .ok (62, .slice A n c) w) ∧ (∀ w : World, (method 225 80 (.slice A n c) "weir/odo.at").run Try.prog w = .ok (61, .slice A n c) w) ∧
    (∀ w : World, (method 225 80 (.slice A n c) "weir/odo.rank").run Try.prog w = .ok (65, .slice A n c) w) := ⟨fun _ => by kernel_rfl, fun _ => by kernel_rfl, fun _ => by kernel_rfl⟩
theorem m82 (A : Option Addr) (n c : Nat) : (∀ w : World, (method 225 82 (.slice A n c) "weir/odo.count").run Try.prog w = .ok (69, .slice A n c) w) ∧ (∀ w : World, (method 225 82 (.slice A n c) "weir/odo.at").run Try.prog w = .ok (68, .slice A n c) w) ∧
    (∀ w : World, (method 225 82 (.slice A n c) "weir/odo.rank").run Try.prog w = .ok (72, .slice A n c) w) := ⟨fun _ => by kernel_rfl, fun _ => by kernel_rfl, fun _ => by kernel_rfl⟩

set_option maxHeartbeats 1000000 in
set_option maxRecDepth 100000 in
theorem odo_Len_product.calls (k : Nat) (l : List Int) (r1 : Int) (r2 : Bool) (v : Value) (w : World) (hs : SpAt 80 w v l) (h : odo_product_count.f k l = some (r1, r2)) :
    Calls Try.prog 9 #[v] w fun e w' => e = .returned (.tuple #[.int .u64 (if r2 = true then r1 else 0), .int .i64 (if r2 = true then 0 else 30)]) ∧ Drawn0 w w' := by
  obtain ⟨g, A, c, rfl, hg, hc, hC⟩ := hs
  have HC := Aside0.mk hC
  have HL := Aside0.mk hc
  have H := Aside0.mk h
  clear hC hc h
  have hm := (m80 A l.length c).1
  cases r2 with
  | true =>
    rw [if_pos rfl, if_pos rfl]
    go_enter Try.func9, Try.ntmps9
    go_wp2_with (go_at_call 62; refine (odo_product_count.calls k A c l r1 true w HC.out HL.out H.out).mono ?_; rintro e w1 ⟨rfl, ⟨nd, rfl⟩⟩)
    go_ret2
    exact ⟨rfl, by repeat (first | exact Drawn0.refl _ | apply Drawn0.step)⟩
  | false =>
    rw [if_neg (by decide), if_neg (by decide)]
    go_enter Try.func9, Try.ntmps9
    go_wp2_with (go_at_call 62; refine (odo_product_count.calls k A c l r1 false w HC.out HL.out H.out).mono ?_; rintro e w1 ⟨rfl, ⟨nd, rfl⟩⟩)
    go_ret2
    exact ⟨rfl, by repeat (first | exact Drawn0.refl _ | apply Drawn0.step)⟩
set_option maxHeartbeats 1000000 in
set_option maxRecDepth 100000 in
theorem odo_Len_weaves.calls (k : Nat) (l : List Int) (r1 : Int) (r2 : Bool) (v : Value) (w : World) (hs : SpAt 82 w v l) (h : odo_weaves_count.f k l = some (r1, r2)) :
    Calls Try.prog 9 #[v] w fun e w' => e = .returned (.tuple #[.int .u64 (if r2 = true then r1 else 0), .int .i64 (if r2 = true then 0 else 30)]) ∧ Drawn0 w w' := by
  obtain ⟨g, A, c, rfl, hg, hc, hC⟩ := hs
  have HC := Aside0.mk hC
  have HL := Aside0.mk hc
  have H := Aside0.mk h
  clear hC hc h
  have hm := (m82 A l.length c).1
  cases r2 with
  | true =>
    rw [if_pos rfl, if_pos rfl]
    go_enter Try.func9, Try.ntmps9
    go_wp2_with (go_at_call 69; refine (odo_weaves_count.calls k A c l r1 true w HC.out HL.out H.out).mono ?_; rintro e w1 ⟨rfl, ⟨nd, rfl⟩⟩)
    go_ret2
    exact ⟨rfl, by repeat (first | exact Drawn0.refl _ | apply Drawn0.step)⟩
  | false =>
    rw [if_neg (by decide), if_neg (by decide)]
    go_enter Try.func9, Try.ntmps9
    go_wp2_with (go_at_call 69; refine (odo_weaves_count.calls k A c l r1 false w HC.out HL.out H.out).mono ?_; rintro e w1 ⟨rfl, ⟨nd, rfl⟩⟩)
    go_ret2
    exact ⟨rfl, by repeat (first | exact Drawn0.refl _ | apply Drawn0.step)⟩
end Go.Proofs.Ytohpboblmmbjnaa.P
