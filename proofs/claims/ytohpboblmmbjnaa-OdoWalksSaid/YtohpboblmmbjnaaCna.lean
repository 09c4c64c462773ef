/- The contracts of Orders, of the statements' awake and weaves. -/
import Derived.Test.YtohpboblmmbjnaaRep
import Derived.Laws.Pointers
import Derived.Test.YtohpboblmmbjnaaWrk
import Derived.RangeFuncBox
import Derived.Below
import Derived.Sort.LoopGhostIn
import Derived.RangeFuncNested
import Derived.Test.YtohpboblmmbjnaaServe
set_option linter.unusedVariables false
set_option linter.unusedSimpArgs false
namespace Go.Proofs.Ytohpboblmmbjnaa.P
open Go.RowKit Go.Proofs.YtohpboblmmbjnaaW.PrintWords Go.Proofs.YtohpboblmmbjnaaW.PrintLast Go.Proofs.YtohpboblmmbjnaaW.PrintMore

/-- A list that has just been written out. -/
theorem lit_C (W : World) (xs : List Int) (h : xs.length ≤ 9223372036854775807) : Kd.C (Kd.int .i64) (W.alloc (.cells (nums .i64 xs).toArray 3)) (some ⟨W.heap.size, 0, none⟩) xs.length xs :=
  (Kd.R_reads' (d := Kd.int .i64) (Kd.R_of_own (ok := fun _ => True) (own_lit W 0 3 .i64 xs (Nat.zero_le _) h) (fun _ _ => trivial))).2.2

def odo_Orders.f (n : Int) : Option (List Int) × Int := if 0 ≤ n ∧ n ≤ 64 then (some (List.replicate n.toNat 1), 0) else (none, 4)

set_option maxHeartbeats 1000000 in
set_option maxRecDepth 100000 in
theorem odo_Orders.calls (n : Int) (w : World) :
    Calls Try.prog 19 #[.int .i64 n] w fun e w' => ∃ v, e = .returned (.tuple #[v, .int .i64 (odo_Orders.f n).2]) ∧ SpO 82 w' v (odo_Orders.f n).1 ∧ Below w.heap.size w w' := by
  by_cases h0 : n < 0
  · have hf : odo_Orders.f n = (none, 4) := by unfold odo_Orders.f; rw [if_neg (by omega)]
    rw [hf]
    clear hf
    have b0 : decide (n < 0) = true := decide_eq_true h0
    go_enter Try.func19, Try.ntmps19
    go_wp2
    go_ret2
    exact ⟨_, rfl, rfl, Below.refl _ _⟩
  · have b0 : decide (n < 0) = false := decide_eq_false h0
    by_cases h1 : 64 < n
    · have hf : odo_Orders.f n = (none, 4) := by unfold odo_Orders.f; rw [if_neg (by omega)]
      rw [hf]
      clear hf
      have b1 : decide (64 < n) = true := decide_eq_true h1
      go_enter Try.func19, Try.ntmps19
      go_wp2
      go_ret2
      exact ⟨_, rfl, rfl, Below.refl _ _⟩
    · have b1 : decide (64 < n) = false := decide_eq_false h1
      obtain ⟨m, rfl⟩ := Int.eq_ofNat_of_zero_le (show 0 ≤ n by omega)
      have hf : odo_Orders.f m = (some (List.replicate m 1), 0) := by unfold odo_Orders.f; rw [if_pos (by omega)]; rfl
      rw [hf]
      clear hf
      have hm : m ≤ 64 := by omega
      have hC := Aside0.mk (lit_C w [1] (by decide))
      go_enter Try.func19, Try.ntmps19
      go_wp2_with (go_at_call 33; refine (slices_Repeat_one 1 m hm _ _ _ hC.out).mono ?_; rintro e w1 ⟨v1, rfl, hR1, hB1⟩)
      have hz := hB1.size
      obtain ⟨A1, c1, rfl, hc1, hC1⟩ := Kd.R_reads hR1
      have HC1 := Aside0.mk hC1
      have HL1 := Aside0.mk hc1
      have HB1 := Aside0.mk (below_then (below_alloc (Below.refl _ w) _) (by simp) hB1)
      clear hC1 hc1 hB1 hR1
      go_wp2
      go_ret2
      exact ⟨_, rfl, SpAt.made HL1.out HC1.out, HB1.out.alloc (by simp at hz; omega) _⟩

theorem pt26 : Try.prog.underlying 26 = some (.pointer (Try.prog.pointee 26)) := by unfold Program.pointee; rw [Try.underlying26]
/-- A pointer held against nil. -/
theorem ptr26 : (∀ (op : BinOp) (W : World) (p q : Option Addr) (x y : Operand), (eqGuard op 26 x y (.pointer p) (.pointer q)).run Try.prog W = .ok () W) ∧
    (∀ (W : World) (p : Option Addr), (binOp .eql 26 (.pointer p) (.pointer none)).run Try.prog W = .ok (.bool p.isNone) W) ∧
    (∀ (W : World) (p : Option Addr), (binOp .neq 26 (.pointer p) (.pointer none)).run Try.prog W = .ok (.bool (!p.isNone)) W) :=
  ⟨fun op W p q x y => by cases op <;> rfl, fun W p => run_eql_pointer_nil W 26 p pt26, fun W p => run_neq_pointer_nil W 26 p pt26⟩
end Go.Proofs.Ytohpboblmmbjnaa.P
/- odo's first of weaves and of products. -/
namespace Go.Proofs.Ytohpboblmmbjnaa.P
open Go Go.RowKit Go.Proofs.YtohpboblmmbjnaaW.PrintWords Go.Proofs.YtohpboblmmbjnaaW.PrintLast Go.Proofs.YtohpboblmmbjnaaW.PrintMore Go.Proofs.Odo

theorem firstA_length (p : List Nat) : ∀ i, (firstA i p).length = p.sum := by
  induction p with
  | nil => intro i; rfl
  | cons n p ih => intro i; simp [firstA, ih]
theorem firstA_take {p : List Nat} {q : Nat} (h : q < p.length) : ints (firstA 0 (p.take (q + 1))) = ints (firstA 0 (p.take q)) ++ List.replicate (p.getD q 0) (q : Int) := by
  rw [take_up h, firstA_append, Nat.zero_add, List.length_take, Nat.min_eq_left (Nat.le_of_lt h)]
  simp [ints, firstA]
theorem first_len {p : List Nat} {q : Nat} (hs : p.sum ≤ 64) (h : q < p.length) : p.getD q 0 ≤ 64 ∧ ((ints (firstA 0 (p.take q))).length + p.getD q 0) * 8 ≤ 140737488355328 := by
  have h1 : (ints (firstA 0 (p.take (q + 1)))).length ≤ p.sum := by
    rw [ints_length, firstA_length]
    have : p.sum = (p.take (q + 1)).sum + (p.drop (q + 1)).sum := by rw [← List.sum_append, List.take_append_drop]
    omega
  rw [firstA_take h, List.length_append] at h1
  rw [List.length_replicate] at h1
  omega
set_option maxHeartbeats 2000000 in
set_option maxRecDepth 100000 in
theorem firstW_c (p : List Nat) (hs : p.sum ≤ 64) (hl : p.length ≤ 64) (A0 : Option Addr) (c0 : Nat) (w : World) (hr0 : Kd.C (Kd.int .i64) w A0 (ints p).length (ints p)) :
    Calls Try.prog 70 #[.slice A0 (ints p).length c0] w fun e w' => ∃ v, e = .returned (.tuple #[v, .bool true]) ∧ Kd.R (Kd.int .i64) 3 w' w.heap.size (fun _ => True) v (ints (firstA 0 p)) ∧ Below w.heap.size w w' := by
  have HR0 := Aside0.mk hr0
  have HS := Aside0.mk hs
  have HL := Aside0.mk hl
  clear hr0 hs hl
  go_enter Try.func70, Try.ntmps70
  go_wp2_with fail
  go_loopw [4, 9] (fun vl vi W => ∃ q : Nat, vi = .int .i64 (q : Int) ∧ q ≤ (ints p).length ∧ Aside0 (Kd.R (Kd.int .i64) 3 W w.heap.size (fun _ => True) vl (ints (firstA 0 (p.take q)))) ∧ Aside0 (Below w.heap.size w W)) (fun _ vi _ => (ints p).length - (intOf vi).toNat)
  case atStart => exact ⟨0, rfl, Nat.zero_le _, ⟨Kd.R_nil (Kd.int .i64) 3 w w.heap.size _⟩, ⟨Below.refl _ _⟩⟩
  case round =>
    obtain ⟨q, rfl, hq, HR, HB⟩ := hrel
    by_cases hlt : q < (ints p).length
    · obtain ⟨ad, e0, hx0⟩ := Kd.at_int (Kd.C_below HR0.out HB.out) (q : Int) (by omega) (by omega)
      cases e0
      rw [Int.toNat_natCast, rd_ints] at hx0
      have hlp : q < p.length := by rw [← ints_length p]; exact hlt
      obtain ⟨f1, f2⟩ := first_len HS.out hlp
      have HT := Aside0.mk (firstA_take hlp)
      obtain ⟨x, hx⟩ : ∃ x, p.getD q 0 = x := ⟨_, rfl⟩
      rw [hx] at hx0 f1 f2 HT
      have hwi := Aside0.mk (Big.next_nat hlt (by rw [ints_length]; exact Nat.le_trans HL.out (by decide)))
      have F1 := Aside0.mk f1
      have F2 := Aside0.mk f2
      have hz := Aside0.mk HB.out.size
      clear hx f1 f2 hlp
      skip
      go_wp2_with (first
        | (go_at_call 33; (with_reducible refine (slices_Repeat_one (q : Int) x F1.out _ _ _ ?hC).mono ?_); (case hC => exact lit_C wr [(q : Int)] (by simp)); rintro e w1 ⟨v1, rfl, hR1, hB1⟩; obtain ⟨A5, c5, e5, hc5, hC5⟩ := Kd.R_reads hR1; rw [List.length_replicate] at e5 hC5; subst e5; have hbw := below_then (below_alloc (Below.refl wr.heap.size wr) (.cells #[.int .i64 (q : Int)] 3)) (by simp) hB1; have HR1 := Aside0.mk (R_mv HR.out (fun k hk hlt => ⟨hbw.block k hlt, hk⟩)); have HB1 := Aside0.mk (below_then HB.out HB.out.size hbw); have HC5 := Aside0.mk hC5; have hz1 := HB1.out.size; clear hR1 hB1 hbw hc5 hC5)
        | ((with_reducible refine gate_builtin (b := .append) (xs := #[.tmp 14, .tmp 18]) rfl ?_); at_builtin; refine Kd.R_append_rows (Kd.int .i64) (w0 := w) w.heap.size rfl (.tmp 14) (.tmp 18) 22 3 (.int .i64 0) 8 rfl Try.underlying22 info3 rfl (by decide) (by decide) _ (ints (firstA 0 (p.take q))) (List.replicate x (q : Int)) _ _ _ (fun _ => True) (fun _ => False) rfl rfl ?aO ?aR (fun _ _ h => h) (fun _ h => h.elim) (fun _ _ => trivial) ?aB ?aS ?aL ?_; (case aO => exact HR1.out); (case aR => exact HC5.out); (case aB => exact HB1.out); (case aS => exact HB1.out.size); (case aL => exact F2.out); intro v4 w4 hR4 hB4 hg4 hat4; rw [← HT.out] at hR4; have HR4 := Aside0.mk hR4; have HB4 := Aside0.mk hB4; clear hR4 hB4 hg4 hat4 HB1 HR1 HC5))
      exact ⟨⟨q + 1, by rw [hwi.out], hlt, HR4, HB4⟩, by rw [hwi.out]; exact nat_dec hlt⟩
    · have hge : q = (ints p).length := by omega
      subst hge
      have HE := Aside0.mk (show p.take (ints p).length = p by rw [ints_length]; exact List.take_length)
      clear hlt hq
      go_wp2_with fail
      go_ret2
      exact ⟨_, rfl, by have h := HR.out; rw [HE.out] at h; exact h, HB.out⟩
end Go.Proofs.Ytohpboblmmbjnaa.P
/- A range over an iterator that keeps a row of its own between two rounds; within a round too. -/
namespace Go.Proofs.Ytohpboblmmbjnaa.P
open Go Go.RowKit Go.Shelf Go.Proofs.YtohpboblmmbjnaaW.PrintWords Go.Proofs.YtohpboblmmbjnaaW.PrintLast Go.Proofs.YtohpboblmmbjnaaW.PrintMore Go.Proofs.Odo

variable {F : Fence} {n : Nat} {P : Program}

theorem below_putObj {S l : Nat} {W1 W2 : World} (h : Below S W1 W2) (o : Obj) (hl : l < W1.heap.size) : Below S (W1.putObj l o) (W2.putObj l o) :=
  ⟨h.os, h.tape, h.output, by simpa using h.size, fun k hk => by
    by_cases e : k = l
    · subst e
      rw [World.putObj_heap_same hl, World.putObj_heap_same (Nat.lt_of_lt_of_le hl h.size)]
    · rw [World.putObj_heap_other e, World.putObj_heap_other e]; exact h.block k hk⟩

end Go.Proofs.Ytohpboblmmbjnaa.P
/- odo's iterators: what All and From hand over, as it goes on. -/
namespace Go.Proofs.Ytohpboblmmbjnaa.P
open Go Go.RowKit Go.Shelf Go.Proofs.YtohpboblmmbjnaaW.PrintWords Go.Proofs.YtohpboblmmbjnaaW.PrintLast Go.Proofs.YtohpboblmmbjnaaW.PrintMore Go.Proofs.Odo
attribute [local go_sem] Oper.semAt_some

set_option maxHeartbeats 2000000 in
set_option maxRecDepth 100000 in
theorem clip_c (A : Option Addr) (n c : Nat) (h : n ≤ c) (w : World) : Calls Try.prog 42 #[.slice A n c] w fun e w' => e = .returned (.slice A n n) ∧ w' = w := by
  go_enter Try.func42, Try.ntmps42
  go_wp2_with fail
  go_ret
  exact ⟨rfl, rfl⟩
/-- What an iterator has caught: the list it begins with, and its space. -/
structure Caught (T : Nat) (l x0 : List Int) (gf gs gp : Nat) (A Af : Option Addr) (c cf : Nat) (W : World) : Prop where
  from_ : W.cell? ⟨gf, 0, none⟩ = some (.slice Af x0.length cf)
  fromc : x0.length ≤ cf
  fromC : Kd.C (Kd.int .i64) W Af x0.length x0
  sp : W.cell? ⟨gs, 0, none⟩ = some (.pointer (some ⟨gp, 0, none⟩))
  k : W.cell? ⟨gp, 0, none⟩ = some (.iface T (.slice A l.length c))
  kc : l.length ≤ c
  kC : Kd.C (Kd.int .i64) W A l.length l
theorem Caught.below {T : Nat} {l x0 : List Int} {gf gs gp : Nat} {A Af : Option Addr} {c cf : Nat} {W W1 : World} (h : Caught T l x0 gf gs gp A Af c cf W) (hb : Below W.heap.size W W1) : Caught T l x0 gf gs gp A Af c cf W1 :=
  ⟨pw_cell_below hb h.from_, h.fromc, Kd.C_below h.fromC hb, pw_cell_below hb h.sp, pw_cell_below hb h.k, h.kc, Kd.C_below h.kC hb⟩
theorem clone_is {xs : List Int} (h : xs.length < 17592186044416) : slices_Clone_int_int.f xs = some xs := by
  unfold slices_Clone_int_int.f
  simp only [Option.bind_some, List.length_nil, List.nil_append]
  rw [if_pos (by omega)]
theorem own_C {W : World} {B n c : Nat} {A : Option Addr} {xs : List Int} (h : W.ownsRow B 3 1 (.slice A n c) n (nums .i64 xs)) (hn : xs.length = n) : Kd.C (Kd.int .i64) W A xs.length xs ∧ xs.length ≤ c := by
  subst hn
  obtain ⟨A', c', e, h1, h2⟩ := Kd.R_reads (Kd.R_of_own (ok := fun _ => True) h (fun _ _ => trivial))
  injection e with e1 e2 e3
  subst e1 e3
  exact ⟨h2, h1⟩
/-- What the space's next does with a list of it. -/
def NextC (fn : Nat) (A : Option Addr) (c : Nat) (l : List Int) (nx : List Nat → Option (List Nat)) (x : List Nat) : Prop :=
  ∀ (A1 : Option Addr) (c1 B : Nat) (w : World), (∀ W, w.grownBy W (Value.slice A1 x.length c1).ownBlock → Kd.C (Kd.int .i64) W A l.length l) → w.ownsRow B 3 1 (.slice A1 x.length c1) x.length (nums .i64 (ints x)) →
    Calls Try.prog fn #[.slice A l.length c, .slice A1 x.length c1] w fun e w' => ∃ y, e = .returned (.bool (nx x).isSome) ∧ OwnR B w (.slice A1 x.length c1) y w' ∧ y.length = x.length ∧ ∀ m, nx x = some m → y = m

end Go.Proofs.Ytohpboblmmbjnaa.P
/- odo's All and walk: the iterators that they hand over. -/
namespace Go.Proofs.Ytohpboblmmbjnaa.P
open Go Go.RowKit Go.Shelf Go.Proofs.YtohpboblmmbjnaaW.PrintWords Go.Proofs.YtohpboblmmbjnaaW.PrintLast Go.Proofs.YtohpboblmmbjnaaW.PrintMore Go.Proofs.Odo

theorem mf80 (A : Option Addr) (n c : Nat) : (∀ w : World, (method 225 80 (.slice A n c) "weir/odo.first").run Try.prog w = .ok (63, .slice A n c) w) ∧ (∀ w : World, (method 225 80 (.slice A n c) "weir/odo.next").run Try.prog w = .ok (64, .slice A n c) w) := ⟨fun _ => by kernel_rfl, fun _ => by kernel_rfl⟩
theorem mf82 (A : Option Addr) (n c : Nat) : (∀ w : World, (method 225 82 (.slice A n c) "weir/odo.first").run Try.prog w = .ok (70, .slice A n c) w) ∧ (∀ w : World, (method 225 82 (.slice A n c) "weir/odo.next").run Try.prog w = .ok (71, .slice A n c) w) := ⟨fun _ => by kernel_rfl, fun _ => by kernel_rfl⟩
/-- An iterator in memory, of a space of kind T that begins with x0. -/
def Walks (T : Nat) (l x0 : List Int) (gp : Nat) (A : Option Addr) (c : Nat) (w w' : World) (e : Ending) : Prop :=
  ∃ (gf gs : Nat) (Af : Option Addr) (cf : Nat), e = .returned (.func (.func 41) #[] #[.pointer (some ⟨gf, 0, none⟩), .pointer (some ⟨gs, 0, none⟩)]) ∧ Caught T l x0 gf gs gp A Af c cf w' ∧ Below w.heap.size w w'
set_option maxHeartbeats 2000000 in
set_option maxRecDepth 100000 in
theorem walk_c (T : Nat) (l x0 : List Int) (gp : Nat) (A Af : Option Addr) (c cf : Nat) (w : World) (hk : w.cell? ⟨gp, 0, none⟩ = some (.iface T (.slice A l.length c))) (hl : l.length ≤ c) (hC : Kd.C (Kd.int .i64) w A l.length l) (hx : Kd.C (Kd.int .i64) w Af x0.length x0) (hc : x0.length ≤ cf) :
    Calls Try.prog 36 #[.pointer (some ⟨gp, 0, none⟩), .slice Af x0.length cf] w fun e w' => Walks T l x0 gp A c w w' e := by
  have b1 := below_alloc (Below.refl w.heap.size w) (.cells #[.pointer (some ⟨gp, 0, none⟩)] 26)
  have b2 := below_alloc b1 (.cells #[.slice Af x0.length cf] 22)
  have HW := Aside0.mk (show Caught T l x0 (w.heap.size + 1) w.heap.size gp A Af c cf ((w.alloc (.cells #[.pointer (some ⟨gp, 0, none⟩)] 26)).alloc (.cells #[.slice Af x0.length cf] 22)) from
    ⟨by have h := World.cell?_alloc_new (w.alloc (.cells #[.pointer (some ⟨gp, 0, none⟩)] 26)) #[.slice Af x0.length cf] 22 0; rw [World.size_alloc] at h; rw [h]; rfl, hc, Kd.C_below hx b2,
     pw_cell_below (below_alloc (Below.refl _ _) _) (by rw [World.cell?_alloc_new]; rfl), pw_cell_below b2 hk, hl, Kd.C_below hC b2⟩)
  have HB := Aside0.mk b2
  clear b1 b2 hk hl hC hx hc
  go_enter Try.func36, Try.ntmps36
  go_wp2_with fail
  go_ret
  exact ⟨_, _, _, _, rfl, HW.out, HB.out⟩
/-- What the space's first list is; false: there is none. -/
def FirstC (ff : Nat) (l : List Int) (x0 : List Nat) (ok : Bool) : Prop :=
  ∀ (A : Option Addr) (c : Nat) (w : World), Kd.C (Kd.int .i64) w A l.length l → l.length ≤ c → Calls Try.prog ff #[.slice A l.length c] w fun e w' => ∃ v1, e = .returned (.tuple #[v1, .bool ok]) ∧ Kd.R (Kd.int .i64) 3 w' w.heap.size (fun _ => True) v1 (ints x0) ∧ Below w.heap.size w w'
set_option maxHeartbeats 4000000 in
set_option maxRecDepth 100000 in
theorem all_c (T ff : Nat) (l : List Int) (x0 : List Nat) (ok : Bool) (hmf : ∀ A n c (w : World), (method 225 T (.slice A n c) "weir/odo.first").run Try.prog w = .ok (ff, .slice A n c) w) (hef : ∀ args w, (callFunc ff args).run Try.prog w = .ok (.enter ff args) w) (hff : FirstC ff l x0 ok)
    (w : World) (gp : Nat) (A : Option Addr) (c : Nat) (hk : w.cell? ⟨gp, 0, none⟩ = some (.iface T (.slice A l.length c))) (hl : l.length ≤ c) (hC : Kd.C (Kd.int .i64) w A l.length l) :
    Calls Try.prog 23 #[.pointer (some ⟨gp, 0, none⟩)] w fun e w' => (ok = false ∧ e = .returned (.func (.func 35) #[] #[]) ∧ Below w.heap.size w w') ∨ (ok = true ∧ Walks T l (ints x0) gp A c w w' e) := by
  have HK := Aside0.mk hk
  have HL := Aside0.mk hl
  have HC := Aside0.mk hC
  have HFF := Aside0.mk hff
  have hm := hmf A l.length c
  clear hl hC hmf hff
  cases ok with
  | false =>
    go_enter Try.func23, Try.ntmps23
    go_wp2_with fail
    refine (HFF.out A c w HC.out HL.out).mono ?_
    rintro e w1 ⟨v1, rfl, hR, hB⟩
    have HB := Aside0.mk hB
    clear hR hB HFF
    go_wp2_with fail
    go_ret
    exact .inl ⟨by trivial, rfl, HB.out⟩
  | true =>
    go_enter Try.func23, Try.ntmps23
    go_wp2_with fail
    refine (HFF.out A c w HC.out HL.out).mono ?_
    rintro e w1 ⟨v1, rfl, hR, hB⟩
    obtain ⟨A1, c1, rfl, hc1, hC1⟩ := Kd.R_reads hR
    have HW := Aside0.mk (walk_c T l (ints x0) gp A A1 c c1 w1 (pw_cell_below hB HK.out) HL.out (Kd.C_below HC.out hB) hC1 hc1)
    have HB := Aside0.mk hB
    clear hR hB HFF hc1 hC1
    go_wp2_with fail
    refine HW.out.mono ?_
    rintro e w2 ⟨gf, gs, Af, cf, rfl, hw, hb⟩
    have HW2 := Aside0.mk hw
    have HB2 := Aside0.mk hb
    clear hw hb HW
    go_wp2_with fail
    go_ret
    exact .inr ⟨by trivial, _, _, _, _, rfl, HW2.out, below_then HB.out HB.out.size HB2.out⟩
theorem firstC_weaves (p : List Nat) (hs : p.sum ≤ 64) (hl : p.length ≤ 64) : FirstC 70 (ints p) (firstA 0 p) true := fun A c w hC _ => firstW_c p hs hl A c w hC
theorem zero_mem (p : List Nat) : (0 : Int) ∈ ints p ↔ 0 ∈ p := by
  unfold ints
  rw [List.mem_map]
  constructor
  · rintro ⟨a, h1, h2⟩
    obtain rfl : a = 0 := Int.ofNat_eq_zero.1 h2
    exact h1
  · exact fun h => ⟨0, h, rfl⟩
theorem firstC_product (p : List Nat) (hl : p.length ≤ 64) : FirstC 63 (ints p) (List.replicate p.length 0) (!decide (0 ∈ p)) := fun A c w hC hc => by
  obtain ⟨k, hk⟩ := (contains_is (ints p) 0 (by rw [ints_length]; omega)).rounds
  refine odo_product_first.calls k A c (ints p) _ _ w hC hc ?_
  unfold odo_product_first.f
  rw [if_pos (by omega), if_pos (by rw [ints_length, Int.toNat_natCast]; omega)]
  have e : slices_Contains_odo_product_int.f k (ints p) 0 = some (decide ((0 : Int) ∈ ints p)) := hk
  rw [e]
  show some (List.replicate ((ints p).length : Int).toNat 0, !decide ((0 : Int) ∈ ints p)) = _
  rw [Int.toNat_natCast, ints_length, show decide ((0 : Int) ∈ ints p) = decide (0 ∈ p) from decide_eq_decide.2 (zero_mem p)]
  simp [ints]
theorem nextC_product {p x : List Nat} (hI : IsP p x) (hp : ∀ a ∈ p, a < 9223372036854775808) (hn : x.length < 9223372036854775807) (A : Option Addr) (c : Nat) : NextC 64 A c (ints p) (nextP p) x :=
  fun A1 c1 B w hC hr => nextP_c p x hI hp hn A c A1 c1 B w hC hr
theorem nextC_weaves {p x : List Nat} (hn : x.length < 9223372036854775807) (A : Option Addr) (c : Nat) : NextC 71 A c (ints p) nextW x :=
  fun A1 c1 B w _ hr => nextW_c x hn _ A1 c1 B w hr
end Go.Proofs.Ytohpboblmmbjnaa.P
/- A range over an iterator that keeps a row of its own between two rounds: its block, if it has one, told by name; within a round too. -/
namespace Go.Proofs.Ytohpboblmmbjnaa.P
open Go Go.RowKit Go.Shelf Go.Proofs.YtohpboblmmbjnaaW.PrintWords Go.Proofs.YtohpboblmmbjnaaW.PrintLast Go.Proofs.YtohpboblmmbjnaaW.PrintMore Go.Proofs.Odo

variable {F : Fence} {n : Nat} {P : Program}

/-- What the iterator promises: it goes through X 0 .. X (m - 1), each handed on as a row of the round's own; b: its own block. -/
def IterD (F : Fence) (n : Nat) (P : Program) (g : Nat) (lb : Array Value) (m : Nat) (X : Nat → List Int) (Fix : World → Prop) : Prop :=
  ∀ (l : Nat) (J : Option Nat → Nat → World → Prop) (Jx : World → Prop) (W : World), Fix W →
    (∀ b W1, Below W.heap.size W W1 → (∀ k, b = some k → W.heap.size ≤ k ∧ k < W1.heap.size) → J b 0 W1) →
    (∀ b i W1 W2 row, J b i W1 → W1.grownBy W2 row → (∀ k, row = some k → b = some k) → J b i W2) →
    (∀ b i W1, J b i W1 → Fix W1) →
    (∀ b i W1 W2 A c0 c1, i < m → J b i W1 → Below W1.heap.size W1 W2 → W2.ownsRow W1.heap.size 3 1 (.slice A (X i).length c0) (X i).length (nums .i64 (X i)) → (X i).length ≤ c1 → YieldAt F (n - 1) P l #[.slice A (X i).length c1] W2 fun e W' =>
      (e = .returned (.bool true) ∧ J b (i + 1) W' ∧ ∀ k, b = some k → ∀ o, W2.heap[k]? = some o → W'.heap[k]? = some o) ∨ (e = .returned (.bool false) ∧ Jx W')) →
    CallsIn F n P g (#[.func (.yield l) #[] #[]] ++ lb) W fun e W' => (∃ v, e = .returned v) ∧ ((∃ b, J b m W') ∨ Jx W')

/-- How the body of a round may be left. -/
def iterDPost (B : Nat) (I : Option Nat → Nat → World → Prop) (Ix : Code → World → Prop) (b : Option Nat) (i : Nat) (W : World) : Exit → Act → World → Prop
  | .normal, _, W' => KeepsFrom B W W' ∧ I b i W' ∧ ∀ k, b = some k → ∀ o, W.heap[k]? = some o → W'.heap[k]? = some o
  | .ret, _, W' => KeepsFrom B W W' ∧ Ix .ret W'
  | .exit id, _, W' => KeepsFrom B W W' ∧ Ix (.exit id) W'
  | .goto t, _, W' => KeepsFrom B W W' ∧ Ix (.goto t) W'
  | .panic _, _, _ => False
  | .outgrown, _, _ => False

theorem wpIn_rangeFunc_iterD {g : Operand} {p : Tmp} {assign body : Code} {Q : Exit → Act → World → Prop} {a : Act} {w : World}
    (hro : F.round = none) (h1 : 1 ≤ n) {gf : Nat} {lb : Array Value} (hg : a.eval g = .func (.func gf) #[] lb) (hFg : F.fn gf) (eg : ∀ args w, (callFunc gf args).run P w = .ok (.enter gf args) w)
    {m : Nat} {X : Nat → List Int} {Fix : World → Prop} (hseq : IterD F (n - 1) P gf lb m X Fix)
    (I : Option Nat → Nat → World → Prop) (Ix : Code → World → Prop)
    (hI : ∀ b i W W' row, I b i W → W.grownBy W' row → (∀ k, row = some k → w.heap.size ≤ k ∧ (b = some k ∨ ∃ o, W.heap[k]? = some o ∧ o.isCells = false)) → I b i W') (hIx : OwnFrom w.heap.size Ix) (hFix : ∀ b i W, I b i W → Fix W)
    (h0 : ∀ b W, Below w.heap.size w W → (∀ k, b = some k → w.heap.size ≤ k ∧ k < W.heap.size) → I b 0 W) (a₁ : Value → Act)
    (hassign : ∀ (l : Nat) (v : Value) (W : World) (K : Act → World → Prop), K (a₁ v) W →
      assign.wpIn (F.inRound l) (n - 1 - 1) P (Exit.then K (fun _ _ _ => False)) { tmps := (#[p].zip #[v]).foldl (fun t (p, v) => t.setIfInBounds p v) a.tmps, defers := [] } W)
    (hbody : ∀ (l : Nat) (b : Option Nat) (i : Nat) (A : Option Addr) (c0 c1 : Nat) (W1 W2 : World), w.heap.size ≤ l → (∃ r, W2.heap[l]? = some (.loop r)) → (∀ k, b = some k → w.heap.size ≤ k ∧ k < W1.heap.size) → I b i W1 → i < m → Below W1.heap.size W1 W2 → W2.ownsRow W1.heap.size 3 1 (.slice A (X i).length c0) (X i).length (nums .i64 (X i)) → (X i).length ≤ c1 →
      body.wpIn (F.inRound l) (n - 1 - 1) P (iterDPost w.heap.size I Ix b (i + 1) W2) (a₁ (.slice A (X i).length c1)) W2)
    (hdone : ∀ (D : Nat) (b : Option Nat) (W : World), w.heap.size ≤ D → I b m W → W.heap[D]? = some (.deferred (some [])) → Q .normal { a with defers := { target := .collected D, args := #[] } :: a.defers } W)
    (hstop : ∀ (D : Nat) (c : Code) (W : World), w.heap.size ≤ D → Ix c W → W.heap[D]? = some (.deferred (some [])) → c.wpIn F n P Q { a with defers := { target := .collected D, args := #[] } :: a.defers } W) :
    (Code.rangeFunc g #[p] assign body).wpIn F n P Q a w := by
  refine wpIn_rangeFunc ?_
  intro fn hfn
  rw [hro]
  obtain ⟨rec, hrec⟩ : ∃ rec : LoopState → Option Code → Loop, rec = fun st pe => { state := st, pending := pe, fn, tmps := a.tmps, params := #[p], assign, body, defers := w.heap.size } := ⟨_, rfl⟩
  obtain ⟨W1, hW1⟩ : ∃ W1, (w.alloc (.deferred (some []))).alloc (.loop (rec .ready none)) = W1 := ⟨_, rfl⟩
  have hL1 : W1.heap[w.heap.size + 1]? = some (.loop (rec .ready none)) := by
    rw [← hW1]; have := World.alloc_heap_new (w.alloc (.deferred (some []))) (.loop (rec .ready none)); rwa [World.size_alloc] at this
  have hK1 : W1.heap[w.heap.size]? = some (.deferred (some [])) := by
    rw [← hW1]; exact (Below.heap_alloc _ _ _ (by simp)).trans (World.alloc_heap_new w _)
  have hS1 : W1.heap.size = w.heap.size + 2 := by rw [← hW1]; simp
  have hB1 : Below w.heap.size w W1 := by
    rw [← hW1]; exact ((Below.refl _ w).alloc (Nat.le_refl _) _).alloc (by simp) _
  refine ⟨w.heap.size + 1, [{ target := .collected w.heap.size, args := #[] }], W1, { target := .fn (.func gf) lb, args := #[.func (.yield (w.heap.size + 1)) #[] #[]] }, W1, gf,
    #[.func (.yield (w.heap.size + 1)) #[] #[]] ++ lb, W1, ?_, ?_, ?_, ?_, fun _ => h1, ?_⟩
  · rw [← hW1, hrec]; exact run_enterLoop_outer _ _ _ _ _
  · simp only [resolve, hg]
    simp [go_sem]
  · intro f' hf'; simp [Target.leads] at hf'; subst hf'; exact hFg
  · simp [invoke, go_sem, eg]
  · refine (hseq (w.heap.size + 1)
      (fun b i W => (∀ k, b = some k → w.heap.size + 2 ≤ k ∧ k < W.heap.size) ∧ I b i W ∧ W.heap[w.heap.size + 1]? = some (.loop (rec .ready none)) ∧ W.heap[w.heap.size]? = some (.deferred (some [])))
      (fun W => ∃ c, Ix c W ∧ W.heap[w.heap.size + 1]? = some (.loop (rec .done (some c))) ∧ W.heap[w.heap.size]? = some (.deferred (some [])))
      W1 (hFix none 0 W1 (h0 _ _ hB1 (fun k e => by cases e))) ?hst ?hown (fun b i W hs => hFix b i W hs.2.1) ?hyield).mono ?hend
    case hst =>
      intro b W2 hB2 hb
      rw [hS1] at hb
      exact ⟨hb, h0 b W2 (hB1.trans (hB2.mono (by rw [hS1]; omega))) (fun k e => ⟨by have := (hb k e).1; omega, (hb k e).2⟩), (hB2.block _ (by rw [hS1]; omega)).trans hL1, (hB2.block _ (by rw [hS1]; omega)).trans hK1⟩
    case hown =>
      rintro b i W2 W3 row ⟨hb, hi, hl, hk⟩ hg hr
      refine ⟨fun k e => ⟨(hb k e).1, Nat.lt_of_lt_of_le (hb k e).2 hg.size⟩, hI b i W2 W3 row hi hg (fun k e => ⟨by have := (hb k (hr k e)).1; omega, .inl (hr k e)⟩), ?_, ?_⟩
      · exact (hg.block _ (Array.getElem?_eq_some_iff.1 hl).1 (fun e => by have := (hb _ (hr _ e.symm)).1; omega)).trans hl
      · exact (hg.block _ (Array.getElem?_eq_some_iff.1 hk).1 (fun e => by have := (hb _ (hr _ e.symm)).1; omega)).trans hk
    case hyield =>
      rintro b i W W2 A c0 c1 hlen ⟨hb, hi, hl, hk⟩ hB2 hrow hc1
      have hltW : w.heap.size + 1 < W.heap.size := (Array.getElem?_eq_some_iff.1 hl).1
      have hlt : w.heap.size + 1 < W2.heap.size := Nat.lt_of_lt_of_le hltW hB2.size
      have hl' : W2.heap[w.heap.size + 1]? = some (.loop (rec .ready none)) := (hB2.block _ hltW).trans hl
      have hk' : W2.heap[w.heap.size]? = some (.deferred (some [])) := (hB2.block _ (by omega)).trans hk
      have hy := run_yield (P := P) (args := #[.slice A (X i).length c1]) hl' (by rw [hrec]; rfl)
      rw [hrec] at hy
      refine ⟨fn, _, assign, body, hy, roundIn_of_wpIn hfn (hassign _ _ W2 _ ⟨_, run_beginRound hl' (by rw [hrec]), ?_⟩)⟩
      have hl2 : (W2.putObj (w.heap.size + 1) (.loop { rec .ready none with state := .busy })).heap[w.heap.size + 1]? = some (.loop { rec .ready none with state := .busy }) := World.putObj_heap_same hlt
      have hk2 : (W2.putObj (w.heap.size + 1) (.loop { rec .ready none with state := .busy })).heap[w.heap.size]? = some (.deferred (some [])) := (World.putObj_heap_other (by omega)).trans hk'
      have hput : ∀ (W3 : World) (o o' : Obj), W3.heap[w.heap.size + 1]? = some o → o.isCells = false → ∀ i, I b i W3 → I b i (W3.putObj (w.heap.size + 1) o') := fun W3 o o' ho hc i h3 =>
        hI b i W3 _ (some (w.heap.size + 1)) h3 (grownBy_putObj' _ _ _) (fun k e => by cases e; exact ⟨by omega, .inr ⟨o, ho, hc⟩⟩)
      have hb2 := below_putObj hB2 (.loop { rec .ready none with state := .busy }) hltW
      refine wpIn_mono (hbody _ b i A c0 c1 (W.putObj (w.heap.size + 1) (.loop { rec .ready none with state := .busy })) _ (by omega) ⟨_, hl2⟩ (fun k e => ⟨by have := (hb k e).1; omega, by rw [World.putObj_size]; exact (hb k e).2⟩) (hput W _ _ hl rfl i hi) hlen (by simpa using hb2) (by simpa using ownsRow_putObj hrow _ hl' rfl) hc1) ?_
      have fin : ∀ (jump : Option Code) (W3 : World), KeepsFrom w.heap.size (W2.putObj (w.heap.size + 1) (.loop { rec .ready none with state := .busy })) W3 →
          (Instr.endRound (w.heap.size + 1) jump).run P W3 = .ok (.bool jump.isNone) (W3.putObj (w.heap.size + 1) (.loop (rec (if jump.isNone then .ready else .done) jump))) ∧
          W3.heap[w.heap.size + 1]? = some (.loop { rec .ready none with state := .busy }) ∧
          (W3.putObj (w.heap.size + 1) (.loop (rec (if jump.isNone then .ready else .done) jump))).heap[w.heap.size + 1]? = some (.loop (rec (if jump.isNone then .ready else .done) jump)) ∧
          (W3.putObj (w.heap.size + 1) (.loop (rec (if jump.isNone then .ready else .done) jump))).heap[w.heap.size]? = some (.deferred (some [])) := fun jump W3 hk3 => by
        have hl3 := hk3.same _ _ (by omega) hl2 rfl
        have := run_endRound (P := P) jump hl3
        rw [hrec] at this ⊢
        exact ⟨this, by rw [hrec] at hl3; exact hl3, World.putObj_heap_same (Array.getElem?_eq_some_iff.1 hl3).1, (World.putObj_heap_other (by omega)).trans (hk3.same _ _ (Nat.le_refl _) hk2 rfl)⟩
      rintro e a3 W3 hp
      cases e with
      | normal =>
        obtain ⟨hk3, hi3, hbb⟩ := hp
        obtain ⟨hr, hl3, hl4, hk4⟩ := fin none W3 hk3
        have hsz3 : W.heap.size ≤ W3.heap.size := by have h1 := hk3.size; rw [World.putObj_size] at h1; have h2 := hB2.size; omega
        refine ⟨_, _, hr, .inl ⟨rfl, ⟨fun k e => ⟨(hb k e).1, by rw [World.putObj_size]; have := (hb k e).2; omega⟩, hput W3 _ _ hl3 rfl (i + 1) hi3, hl4, hk4⟩, fun k e o ho => ?_⟩⟩
        have hk2' := (hb k e).1
        rw [World.putObj_heap_other (by omega)]
        exact hbb k e o (by rw [World.putObj_heap_other (by omega)]; exact ho)
      | ret =>
        obtain ⟨hk3, hi3⟩ := hp
        obtain ⟨hr, hl3, hl4, hk4⟩ := fin (some .ret) W3 hk3
        exact ⟨_, _, hr, .inr ⟨rfl, .ret, hIx.putObj _ hi3 (by omega) hl3 rfl, hl4, hk4⟩⟩
      | exit id =>
        obtain ⟨hk3, hi3⟩ := hp
        obtain ⟨hr, hl3, hl4, hk4⟩ := fin (some (.exit id)) W3 hk3
        exact ⟨_, _, hr, .inr ⟨rfl, .exit id, hIx.putObj _ hi3 (by omega) hl3 rfl, hl4, hk4⟩⟩
      | goto t =>
        obtain ⟨hk3, hi3⟩ := hp
        obtain ⟨hr, hl3, hl4, hk4⟩ := fin (some (.goto t)) W3 hk3
        exact ⟨_, _, hr, .inr ⟨rfl, .goto t, hIx.putObj _ hi3 (by omega) hl3 rfl, hl4, hk4⟩⟩
      | panic ch => exact hp.elim
      | outgrown => exact hp.elim
    case hend =>
      rintro e W2 ⟨⟨v, rfl⟩, (⟨b, hb, hi, hl, hk⟩ | ⟨c, hi, hl, hk⟩)⟩
      · refine ⟨none, _, by have := run_endLoop (P := P) hl (by rw [hrec]; simp); rw [hrec] at this; exact this, hdone _ b _ (Nat.le_refl _) ?_ ((World.putObj_heap_other (by omega)).trans hk)⟩
        exact hI b m W2 _ (some (w.heap.size + 1)) hi (grownBy_putObj' _ _ _) (fun k e => by cases e; exact ⟨by omega, .inr ⟨_, hl, rfl⟩⟩)
      · exact ⟨some c, _, by have := run_endLoop (P := P) hl (by rw [hrec]; simp); rw [hrec] at this; exact this, hstop _ c _ (Nat.le_refl _) (hIx.putObj _ hi (by omega) hl rfl) ((World.putObj_heap_other (by omega)).trans hk)⟩
theorem wpIn_rangeFunc_iterN {g : Operand} {p : Tmp} {assign body : Code} {Q : Exit → Act → World → Prop} {a : Act} {w : World}
    {l₀ : Nat} {r₀ : Loop} (hro : F.round = some l₀) (hl₀ : w.heap[l₀]? = some (.loop r₀)) (h1 : 1 ≤ n) {gf : Nat} {lb : Array Value} (hg : a.eval g = .func (.func gf) #[] lb) (hFg : F.fn gf) (eg : ∀ args w, (callFunc gf args).run P w = .ok (.enter gf args) w)
    {m : Nat} {X : Nat → List Int} {Fix : World → Prop} (hseq : IterD F (n - 1) P gf lb m X Fix)
    (I : Option Nat → Nat → World → Prop) (Ix : Code → World → Prop)
    (hI : ∀ b i W W' row, I b i W → W.grownBy W' row → (∀ k, row = some k → w.heap.size ≤ k ∧ (b = some k ∨ ∃ o, W.heap[k]? = some o ∧ o.isCells = false)) → I b i W') (hIx : OwnFrom w.heap.size Ix) (hFix : ∀ b i W, I b i W → Fix W)
    (h0 : ∀ b W, Below w.heap.size w W → (∀ k, b = some k → w.heap.size ≤ k ∧ k < W.heap.size) → I b 0 W) (a₁ : Value → Act)
    (hassign : ∀ (l : Nat) (v : Value) (W : World) (K : Act → World → Prop), K (a₁ v) W →
      assign.wpIn (F.inRound l) (n - 1 - 1) P (Exit.then K (fun _ _ _ => False)) { tmps := (#[p].zip #[v]).foldl (fun t (p, v) => t.setIfInBounds p v) a.tmps, defers := [] } W)
    (hbody : ∀ (l : Nat) (b : Option Nat) (i : Nat) (A : Option Addr) (c0 c1 : Nat) (W1 W2 : World), w.heap.size ≤ l → (∃ r, W2.heap[l]? = some (.loop r)) → (∀ k, b = some k → w.heap.size ≤ k ∧ k < W1.heap.size) → I b i W1 → i < m → Below W1.heap.size W1 W2 → W2.ownsRow W1.heap.size 3 1 (.slice A (X i).length c0) (X i).length (nums .i64 (X i)) → (X i).length ≤ c1 →
      body.wpIn (F.inRound l) (n - 1 - 1) P (iterDPost w.heap.size I Ix b (i + 1) W2) (a₁ (.slice A (X i).length c1)) W2)
    (hdone : ∀ (b : Option Nat) (W : World), I b m W → Q .normal a W)
    (hstop : ∀ (c : Code) (W : World), Ix c W → c.wpIn F n P Q a W) :
    (Code.rangeFunc g #[p] assign body).wpIn F n P Q a w := by
  refine wpIn_rangeFunc ?_
  intro fn hfn
  rw [hro]
  obtain ⟨rec, hrec⟩ : ∃ rec : LoopState → Option Code → Loop, rec = fun st pe => { state := st, pending := pe, fn, tmps := a.tmps, params := #[p], assign, body, defers := r₀.defers } := ⟨_, rfl⟩
  obtain ⟨W1, hW1⟩ : ∃ W1, w.alloc (.loop (rec .ready none)) = W1 := ⟨_, rfl⟩
  have hL1 : W1.heap[w.heap.size]? = some (.loop (rec .ready none)) := by
    rw [← hW1]; exact World.alloc_heap_new w _
  have hS1 : W1.heap.size = w.heap.size + 1  := by rw [← hW1]; simp
  have hB1 : Below w.heap.size w W1 := by
    rw [← hW1]; exact (Below.refl _ w).alloc (Nat.le_refl _) _
  refine ⟨w.heap.size, [], W1, { target := .fn (.func gf) lb, args := #[.func (.yield (w.heap.size)) #[] #[]] }, W1, gf,
    #[.func (.yield (w.heap.size)) #[] #[]] ++ lb, W1, ?_, ?_, ?_, ?_, fun _ => h1, ?_⟩
  · rw [← hW1, hrec]; exact run_enterLoop_inner hl₀ _ _ _ _ _
  · simp only [resolve, hg]
    simp [go_sem]
  · intro f' hf'; simp [Target.leads] at hf'; subst hf'; exact hFg
  · simp [invoke, go_sem, eg]
  · refine (hseq (w.heap.size)
      (fun b i W => (∀ k, b = some k → w.heap.size + 1  ≤ k ∧ k < W.heap.size) ∧ I b i W ∧ W.heap[w.heap.size]? = some (.loop (rec .ready none)))
      (fun W => ∃ c, Ix c W ∧ W.heap[w.heap.size]? = some (.loop (rec .done (some c))))
      W1 (hFix none 0 W1 (h0 _ _ hB1 (fun k e => by cases e))) ?hst ?hown (fun b i W hs => hFix b i W hs.2.1) ?hyield).mono ?hend
    case hst =>
      intro b W2 hB2 hb
      rw [hS1] at hb
      exact ⟨hb, h0 b W2 (hB1.trans (hB2.mono (by rw [hS1]; omega))) (fun k e => ⟨by have := (hb k e).1; omega, (hb k e).2⟩), (hB2.block _ (by rw [hS1]; omega)).trans hL1⟩
    case hown =>
      rintro b i W2 W3 row ⟨hb, hi, hl⟩ hg hr
      refine ⟨fun k e => ⟨(hb k e).1, Nat.lt_of_lt_of_le (hb k e).2 hg.size⟩, hI b i W2 W3 row hi hg (fun k e => ⟨by have := (hb k (hr k e)).1; omega, .inl (hr k e)⟩), ?_⟩
      · exact (hg.block _ (Array.getElem?_eq_some_iff.1 hl).1 (fun e => by have := (hb _ (hr _ e.symm)).1; omega)).trans hl
    case hyield =>
      rintro b i W W2 A c0 c1 hlen ⟨hb, hi, hl⟩ hB2 hrow hc1
      have hltW : w.heap.size < W.heap.size := (Array.getElem?_eq_some_iff.1 hl).1
      have hlt : w.heap.size < W2.heap.size := Nat.lt_of_lt_of_le hltW hB2.size
      have hl' : W2.heap[w.heap.size]? = some (.loop (rec .ready none)) := (hB2.block _ hltW).trans hl
      have hy := run_yield (P := P) (args := #[.slice A (X i).length c1]) hl' (by rw [hrec]; rfl)
      rw [hrec] at hy
      refine ⟨fn, _, assign, body, hy, roundIn_of_wpIn hfn (hassign _ _ W2 _ ⟨_, run_beginRound hl' (by rw [hrec]), ?_⟩)⟩
      have hl2 : (W2.putObj (w.heap.size) (.loop { rec .ready none with state := .busy })).heap[w.heap.size]? = some (.loop { rec .ready none with state := .busy }) := World.putObj_heap_same hlt
      have hput : ∀ (W3 : World) (o o' : Obj), W3.heap[w.heap.size]? = some o → o.isCells = false → ∀ i, I b i W3 → I b i (W3.putObj (w.heap.size) o') := fun W3 o o' ho hc i h3 =>
        hI b i W3 _ (some (w.heap.size)) h3 (grownBy_putObj' _ _ _) (fun k e => by cases e; exact ⟨by omega, .inr ⟨o, ho, hc⟩⟩)
      have hb2 := below_putObj hB2 (.loop { rec .ready none with state := .busy }) hltW
      refine wpIn_mono (hbody _ b i A c0 c1 (W.putObj (w.heap.size) (.loop { rec .ready none with state := .busy })) _ (by omega) ⟨_, hl2⟩ (fun k e => ⟨by have := (hb k e).1; omega, by rw [World.putObj_size]; exact (hb k e).2⟩) (hput W _ _ hl rfl i hi) hlen (by simpa using hb2) (by simpa using ownsRow_putObj hrow _ hl' rfl) hc1) ?_
      have fin : ∀ (jump : Option Code) (W3 : World), KeepsFrom w.heap.size (W2.putObj (w.heap.size) (.loop { rec .ready none with state := .busy })) W3 →
          (Instr.endRound (w.heap.size) jump).run P W3 = .ok (.bool jump.isNone) (W3.putObj (w.heap.size) (.loop (rec (if jump.isNone then .ready else .done) jump))) ∧
          W3.heap[w.heap.size]? = some (.loop { rec .ready none with state := .busy }) ∧
          (W3.putObj (w.heap.size) (.loop (rec (if jump.isNone then .ready else .done) jump))).heap[w.heap.size]? = some (.loop (rec (if jump.isNone then .ready else .done) jump)) := fun jump W3 hk3 => by
        have hl3 := hk3.same _ _ (by omega) hl2 rfl
        have := run_endRound (P := P) jump hl3
        rw [hrec] at this ⊢
        exact ⟨this, by rw [hrec] at hl3; exact hl3, World.putObj_heap_same (Array.getElem?_eq_some_iff.1 hl3).1⟩
      rintro e a3 W3 hp
      cases e with
      | normal =>
        obtain ⟨hk3, hi3, hbb⟩ := hp
        obtain ⟨hr, hl3, hl4⟩ := fin none W3 hk3
        have hsz3 : W.heap.size ≤ W3.heap.size := by have h1 := hk3.size; rw [World.putObj_size] at h1; have h2 := hB2.size; omega
        refine ⟨_, _, hr, .inl ⟨rfl, ⟨fun k e => ⟨(hb k e).1, by rw [World.putObj_size]; have := (hb k e).2; omega⟩, hput W3 _ _ hl3 rfl (i + 1) hi3, hl4⟩, fun k e o ho => ?_⟩⟩
        have hk2' := (hb k e).1
        rw [World.putObj_heap_other (by omega)]
        exact hbb k e o (by rw [World.putObj_heap_other (by omega)]; exact ho)
      | ret =>
        obtain ⟨hk3, hi3⟩ := hp
        obtain ⟨hr, hl3, hl4⟩ := fin (some .ret) W3 hk3
        exact ⟨_, _, hr, .inr ⟨rfl, .ret, hIx.putObj _ hi3 (by omega) hl3 rfl, hl4⟩⟩
      | exit id =>
        obtain ⟨hk3, hi3⟩ := hp
        obtain ⟨hr, hl3, hl4⟩ := fin (some (.exit id)) W3 hk3
        exact ⟨_, _, hr, .inr ⟨rfl, .exit id, hIx.putObj _ hi3 (by omega) hl3 rfl, hl4⟩⟩
      | goto t =>
        obtain ⟨hk3, hi3⟩ := hp
        obtain ⟨hr, hl3, hl4⟩ := fin (some (.goto t)) W3 hk3
        exact ⟨_, _, hr, .inr ⟨rfl, .goto t, hIx.putObj _ hi3 (by omega) hl3 rfl, hl4⟩⟩
      | panic ch => exact hp.elim
      | outgrown => exact hp.elim
    case hend =>
      rintro e W2 ⟨⟨v, rfl⟩, (⟨b, hb, hi, hl⟩ | ⟨c, hi, hl⟩)⟩
      · refine ⟨none, _, by have := run_endLoop (P := P) hl (by rw [hrec]; simp); rw [hrec] at this; exact this, hdone b _ ?_⟩
        exact hI b m W2 _ (some (w.heap.size)) hi (grownBy_putObj' _ _ _) (fun k e => by cases e; exact ⟨by omega, .inr ⟨_, hl, rfl⟩⟩)
      · exact ⟨some c, _, by have := run_endLoop (P := P) hl (by rw [hrec]; simp); rw [hrec] at this; exact this, hstop c _ (hIx.putObj _ hi (by omega) hl rfl)⟩
end Go.Proofs.Ytohpboblmmbjnaa.P
/- odo's iterators over a block told by name. -/
namespace Go.Proofs.Ytohpboblmmbjnaa.P
open Go Go.RowKit Go.Shelf Go.Proofs.YtohpboblmmbjnaaW.PrintWords Go.Proofs.YtohpboblmmbjnaaW.PrintLast Go.Proofs.YtohpboblmmbjnaaW.PrintMore Go.Proofs.Odo
attribute [local go_sem] Oper.semAt_some
theorem own_sameD {W W' : World} {B n : Nat} {e : TypeId} {v : Value} {vs : List Value} (h : W.ownsRow B e 1 v n vs) {b : Option Nat} (hb : ∀ k, v.ownBlock = some k → b = some k) (hs : ∀ k, b = some k → ∀ o, W.heap[k]? = some o → W'.heap[k]? = some o) : W'.ownsRow B e 1 v n vs := by
  refine ⟨h.1, ?_⟩
  rcases h.2 with h2 | ⟨g, cap, cur, hv, h1, h2, h3⟩
  · exact .inl h2
  · exact .inr ⟨g, cap, cur, hv, h1, hs g (hb g (by rw [hv]; rfl)) _ h2, h3⟩
set_option maxHeartbeats 8000000 in
set_option maxRecDepth 100000 in
theorem walk_iterD (k : Nat) (hk : 1 ≤ k) (T fn : Nat) (l : List Int) (gf gs gp : Nat) (A Af : Option Addr) (c cf n m : Nat) (nx : List Nat → Option (List Nat)) (X : Nat → List Nat) (hm : 0 < m) (hn : n ≤ 64) (hX : ∀ i, i < m → (X i).length = n)
    (hstep : ∀ i, i + 1 < m → nx (X i) = some (X (i + 1))) (hend : ∀ i, i + 1 = m → nx (X i) = none) (hnext : ∀ i, i < m → NextC fn A c l nx (X i))
    (hmeth : ∀ w : World, (method 225 T (.slice A l.length c) "weir/odo.next").run Try.prog w = .ok (fn, .slice A l.length c) w) (hef : ∀ args w, (callFunc fn args).run Try.prog w = .ok (.enter fn args) w) :
    IterD Fence.wide k Try.prog 41 #[.pointer (some ⟨gf, 0, none⟩), .pointer (some ⟨gs, 0, none⟩)] m (fun i => ints (X i)) (Caught T l (ints (X 0)) gf gs gp A Af c cf) := by
  intro L J Jx W hFix hst hown hJF hY
  have HF := Aside0.mk hFix
  have HST := Aside0.mk hst
  have HOWN := Aside0.mk hown
  have HJF := Aside0.mk hJF
  have HY := Aside0.mk hY
  have hcf := hFix.from_
  rw [ints_length] at hcf
  have HXl := Aside0.mk hX
  have HCL := Aside0.mk (fun i (hi : i < m) => clone_is (xs := ints (X i)) (by rw [ints_length, hX i hi]; omega))
  have HSTEP := Aside0.mk hstep
  have HEND := Aside0.mk hend
  have HNX := Aside0.mk hnext
  have HM := Aside0.mk hm
  have HX0 := Aside0.mk (hX 0 hm)
  rw [hX 0 hm] at hcf
  clear hFix hst hown hJF hY hX hstep hend hnext hm hn
  refine callsIn_of_wp Try.func41 rfl trivial ?_ rfl
  simp only [Try.ntmps41, List.size_toArray, List.length_cons, List.length_nil, Nat.reduceAdd, Nat.reduceSub, Array.replicate_succ, Array.replicate_zero, List.push_toArray, List.append_toArray, List.nil_append, List.cons_append]
  gi_wp2_with fail
  refine ⟨trivial, ?_⟩
  have hc0 := HF.out.fromC
  have hc1 := HF.out.fromc
  rw [ints_length, HX0.out] at hc0 hc1
  have hc2 : Kd.C (Kd.int .i64) W Af (ints (X 0)).length (ints (X 0)) := by rw [ints_length, HX0.out]; exact hc0
  have hcall := slices_Clone_int_int.calls Af cf (ints (X 0)) (ints (X 0)) W hc2 (by rw [ints_length, HX0.out]; exact hc1) (HCL.out 0 HM.out)
  rw [ints_length, HX0.out] at hcall
  refine (callsIn_wide.2 hcall).mono ?_
  rintro e w1 ⟨v1, rfl, hR1, hB1⟩
  obtain ⟨A1, d1, e1⟩ := Kd.R_slice hR1
  rw [ints_length, HX0.out] at e1
  subst e1
  have hO : w1.ownsRow W.heap.size 3 1 (.slice A1 n d1) n (nums .i64 (ints (X 0))) := by have h := Kd.own_of_R hR1; rw [ints_length, HX0.out] at h; exact h
  obtain ⟨b, hbe⟩ : ∃ b, (Value.slice A1 n d1).ownBlock = b := ⟨_, rfl⟩
  have hbv : ∀ k, (Value.slice A1 n d1).ownBlock = some k → b = some k := fun k hk => by rw [← hbe]; exact hk
  have HBV := Aside0.mk hbv
  have HO1 := Aside0.mk hO
  have HJ := Aside0.mk (HST.out b w1 hB1 (fun k hk => by rw [← hbe] at hk; exact hO.lt k hk))
  clear hcall hR1 hB1 hO hbe hbv hc0 hc1 hc2 hcf
  gi_wp2_with fail
  gi_loopg [5] m (fun q v5 W' => (∃ i, i < m ∧ q = m - i ∧ v5 = .bool true ∧ Aside0 (J b i W') ∧ Aside0 (W'.ownsRow W.heap.size 3 1 (.slice A1 n d1) n (nums .i64 (ints (X i))))) ∨ (v5 = .bool false ∧ Aside0 (J b m W')))
  case atStart => exact .inl ⟨0, HM.out, rfl, rfl, HJ, HO1⟩
  case round =>
    clear HJ HO1
    rcases hrel with ⟨i, hi, hq, rfl, HJ, HO⟩ | ⟨rfl, HJ⟩
    · have hXi := HXl.out i hi
      obtain ⟨hC, hCc⟩ := own_C HO.out (by rw [ints_length, hXi])
      have hcall := slices_Clone_int_int.calls A1 d1 (ints (X i)) (ints (X i)) wr hC hCc (HCL.out i hi)
      rw [ints_length, hXi] at hcall
      have HC1 := Aside0.mk hcall
      have HXI := Aside0.mk hXi
      have HI := Aside0.mk hi
      have HQ := Aside0.mk hq
      clear hC hCc hcall hXi hi hq
      gi_wp2_with fail
      refine ⟨trivial, ?_⟩
      refine (callsIn_wide.2 HC1.out).mono ?_
      rintro e w2 ⟨v2, rfl, hR2, hB2⟩
      obtain ⟨A2, d2, e2, hd2, -⟩ := Kd.R_reads hR2
      subst e2
      have hO2 := Kd.own_of_R hR2
      have hyy := HY.out b i wr w2 A2 d2 (ints (X i)).length HI.out HJ.out hB2 hO2 (Nat.le_refl _)
      rw [ints_length, HXI.out] at hd2 hyy
      have hO3 := own_sameD HO.out HBV.out (W' := w2) (fun k _ o ho => (hB2.block k (Array.getElem?_eq_some_iff.1 ho).1).trans ho)
      have HO3 := Aside0.mk hO3
      rw [ints_length, HXI.out]
      clear hR2 hB2 hO2 hO3 HO
      gi_wp2_with fail
      refine ⟨trivial, ?_⟩
      refine (callsIn_wide.2 (clip_c A2 n d2 hd2 w2)).mono ?_
      rintro e w3 ⟨rfl, rfl⟩
      obtain ⟨fn_, tmps_, assign_, body_, hy, hR⟩ := hyy
      gi_wp2_with fail
      refine hR.mono ?_
      clear hy hR HC1
      rintro e W' (⟨rfl, hj, hs⟩ | ⟨rfl, hx⟩)
      · have hO4 := own_sameD HO3.out HBV.out hs
        obtain ⟨_, _, _, hsp, hkk, _, _⟩ := HJF.out b (i + 1) W' hj
        have hnx := HNX.out i HI.out A1 d1 W.heap.size W' (fun W2 hg => (HJF.out b (i + 1) W2 (HOWN.out b (i + 1) W' W2 _ hj hg (fun k hk => HBV.out k (by rw [← HXI.out]; exact hk)))).kC) (by rw [HXI.out]; exact hO4)
        rw [HXI.out] at hnx
        have HN2 := Aside0.mk hnx
        have HJ2 := Aside0.mk hj
        clear hnx hj hs hO4 HO3 HJ
        gi_wp2_with fail
        refine ⟨trivial, ?_⟩
        refine (callsIn_wide.2 HN2.out).mono ?_
        clear HN2
        rcases Nat.lt_or_ge (i + 1) m with h1 | h1
        · rw [HSTEP.out i h1]
          rintro e w4 ⟨y, rfl, hO5, hyl, hy⟩
          obtain rfl := hy _ rfl
          have HO5 := Aside0.mk (show w4.ownsRow W.heap.size 3 1 (.slice A1 n d1) n (nums .i64 (ints (X (i + 1)))) by have h := hO5.row; rw [HXl.out (i + 1) h1] at h; exact h)
          have HJ5 := Aside0.mk (HOWN.out b (i + 1) W' w4 _ HJ2.out hO5.grown (fun k hk => HBV.out k hk))
          have HH1 := Aside0.mk h1
          clear hO5 hyl hy h1 HJ2
          gi_wp2_with fail
          gi_roundg (m - (i + 1))
          case measure => rw [HQ.out]; have := HH1.out; omega
          case rel => exact .inl ⟨i + 1, HH1.out, rfl, rfl, HJ5, HO5⟩
        · have h2 : i + 1 = m := Nat.le_antisymm HI.out h1
          rw [HEND.out i h2]
          rintro e w4 ⟨y, rfl, hO5, hyl, hy⟩
          have HJ5 := Aside0.mk (HOWN.out b (i + 1) W' w4 _ HJ2.out hO5.grown (fun k hk => HBV.out k hk))
          rw [h2] at HJ5
          have HH1 := Aside0.mk h2
          clear hO5 hyl hy h1 h2 HJ2
          gi_wp2_with fail
          gi_roundg 0
          case measure => rw [HQ.out]; have := HH1.out; omega
          case rel => exact .inr ⟨rfl, HJ5⟩
      · gi_wp2_with fail
        refine bodyPost_ret (results_none rfl _ _ _) rfl ?_
        exact ⟨⟨_, rfl⟩, .inr hx⟩
    · gi_wp2_with fail
      go_end0
      exact ⟨⟨_, rfl⟩, .inl ⟨b, HJ.out⟩⟩
theorem IterD.inRound {F : Fence} {n : Nat} {P : Program} {g : Nat} {lb : Array Value} {m : Nat} {X : Nat → List Int} {Fix : World → Prop} (l : Nat) (h : IterD F n P g lb m X Fix) : IterD (F.inRound l) n P g lb m X Fix := h
set_option maxHeartbeats 2000000 in
set_option maxRecDepth 100000 in
theorem none_iterD (k : Nat) (X : Nat → List Int) (Fix : World → Prop) : IterD Fence.wide k Try.prog 35 #[] 0 X Fix := by
  intro L J Jx W _ hst _ _ _
  have hj := hst none W (Below.refl _ _) (fun k e => by cases e)
  refine callsIn_of_wp Try.func35 rfl trivial ?_ rfl
  simp only [Try.ntmps35, List.size_toArray, List.length_cons, List.length_nil, Nat.reduceAdd, Nat.reduceSub, Array.replicate_succ, Array.replicate_zero, List.push_toArray, List.append_toArray, List.nil_append, List.cons_append]
  gi_wp2_with fail
  go_end0
  exact ⟨⟨_, rfl⟩, .inl ⟨_, hj⟩⟩
end Go.Proofs.Ytohpboblmmbjnaa.P
/- The contract of the statements' space. -/
namespace Go.Proofs.Ytohpboblmmbjnaa.P
open Go Go.RowKit Go.Proofs.YtohpboblmmbjnaaW.PrintWords Go.Proofs.YtohpboblmmbjnaaW.PrintLast Go.Proofs.YtohpboblmmbjnaaW.PrintMore Go.Proofs.Odo

theorem ints_sum (p : List Nat) : (ints p).sum = ((p.sum : Nat) : Int) := by
  induction p with
  | nil => rfl
  | cons x p ih => show (x : Int) + (ints p).sum = _; rw [ih, List.sum_cons]; omega
end Go.Proofs.Ytohpboblmmbjnaa.P
/- What a space goes through, list by list; the contract of the statements' space with it. -/
namespace Go.Proofs.Ytohpboblmmbjnaa.P
open Go Go.RowKit Go.Proofs.YtohpboblmmbjnaaW.PrintWords Go.Proofs.YtohpboblmmbjnaaW.PrintLast Go.Proofs.YtohpboblmmbjnaaW.PrintMore Go.Proofs.Odo
/-- How a space is gone through. -/
structure GoesC (T : Nat) (l : List Int) (all : Nat) (IsL : List Nat → Prop) (num : List Nat → Nat) (ff fn : Nat) (x0 : List Nat) (nx : List Nat → Option (List Nat)) : Prop where
  mf : ∀ A n c (w : World), (method 225 T (.slice A n c) "weir/odo.first").run Try.prog w = .ok (ff, .slice A n c) w
  mn : ∀ A n c (w : World), (method 225 T (.slice A n c) "weir/odo.next").run Try.prog w = .ok (fn, .slice A n c) w
  ef : ∀ args w, (callFunc ff args).run Try.prog w = .ok (.enter ff args) w
  en : ∀ args w, (callFunc fn args).run Try.prog w = .ok (.enter fn args) w
  first : FirstC ff l x0 (decide (0 < all))
  x0 : 0 < all → IsL x0 ∧ num x0 = 0
  some_ : ∀ x m, IsL x → nx x = some m → IsL m ∧ num m = num x + 1
  none_ : ∀ x, IsL x → nx x = none → num x + 1 = all
  next : ∀ x, IsL x → ∀ A c, NextC fn A c l nx x
  far : ∀ n : Nat, all ≤ n → all < 18446744073709551616 → ∀ w v, SpAt T w v l → Calls Try.prog 11 #[v, .int .u64 (n : Int)] w fun e w' => ∃ v1, e = .returned (.tuple #[v1, .int .i64 3]) ∧ Below w.heap.size w w'
theorem far_product (p : List Nat) (hp : ∀ a ∈ p, a < 9223372036854775808) (hl : p.length ≤ 64) (n : Nat) (hn : prod p ≤ n) (hb : prod p < 18446744073709551616) (w : World) (v : Value) (hs : SpAt 80 w v (ints p)) :
    Calls Try.prog 11 #[v, .int .u64 (n : Int)] w fun e w' => ∃ v1, e = .returned (.tuple #[v1, .int .i64 3]) ∧ Below w.heap.size w w' := by
  obtain ⟨kc, hkc⟩ := (prod_is p (fun a ha => Nat.lt_trans (hp a ha) (by decide)) (by omega)).rounds
  have hkc' : odo_product_count.f kc (ints p) = some (((prod p : Nat) : Int), true) := by
    have h : odo_product_count.f kc (ints p) = some (prodRes p) := hkc
    rw [h]; unfold prodRes; rw [if_pos hb]
  refine (odo_At_product.calls kc (ints p) _ _ n [] v w hs hkc' (fun _ h => absurd h (by omega))).mono ?_
  rintro e w' ⟨v1, rfl, _, hB⟩
  have hr : atRes ((prod p : Nat) : Int) true n [] = ([], 3) := by unfold atRes; rw [if_pos rfl, if_pos (by omega)]
  rw [hr]
  exact ⟨v1, rfl, hB⟩
theorem far_weaves (p : List Nat) (hs : p.sum ≤ 64) (hl : p.length ≤ 64) (n : Nat) (hn : mc p ≤ n) (hb : mc p < 18446744073709551616) (w : World) (v : Value) (hsp : SpAt 82 w v (ints p)) :
    Calls Try.prog 11 #[v, .int .u64 (n : Int)] w fun e w' => ∃ v1, e = .returned (.tuple #[v1, .int .i64 3]) ∧ Below w.heap.size w w' := by
  obtain ⟨kc, hkc⟩ := (count_is p hs (by omega)).rounds
  have hkc' : odo_weaves_count.f kc (ints p) = some (((mc p : Nat) : Int), true) := by
    have h : odo_weaves_count.f kc (ints p) = some (countRes p) := hkc
    rw [h]; unfold countRes; rw [if_pos hb]
  refine (odo_At_weaves.calls kc p [] hs hl _ _ n v w hsp hkc' (fun _ h => absurd h (by omega))).mono ?_
  rintro e w' ⟨v1, rfl, _, hB⟩
  have hr : atRes ((mc p : Nat) : Int) true n (ints []) = ([], 3) := by unfold atRes; rw [if_pos rfl, if_pos (by omega)]
  rw [hr]
  exact ⟨v1, rfl, hB⟩
theorem goes_product (p : List Nat) (hp : ∀ a ∈ p, a < 9223372036854775808) (hl : p.length ≤ 64) : GoesC 80 (ints p) (prod p) (IsP p) (rankP p) 63 64 (List.replicate p.length 0) (nextP p) := by
  have h0 : (0 < prod p) ↔ ¬ 0 ∈ p := ⟨fun h hm => by rw [prod_zero hm] at h; omega, prod_pos⟩
  refine ⟨fun A n c => (mf80 A n c).1, fun A n c => (mf80 A n c).2, enters_of Try.func63 (by kernel_rfl) rfl, enters_of Try.func64 (by kernel_rfl) rfl, ?_, fun h => ⟨isP_zeros (h0.1 h), rankP_zeros _ _⟩, fun x m h e => nextP_some h e, fun x h e => nextP_none h e, fun x h A c => nextC_product h hp (by rw [isP_length h]; omega) A c, far_product p hp hl⟩
  have h := firstC_product p hl
  rwa [show (!decide (0 ∈ p)) = decide (0 < prod p) by rw [← decide_not]; exact decide_eq_decide.2 h0.symm] at h
theorem goes_weaves (p : List Nat) (hs : p.sum ≤ 64) (hl : p.length ≤ 64) : GoesC 82 (ints p) (mc p) (Is p) (rank p) 70 71 (firstA 0 p) nextW := by
  refine ⟨fun A n c => (mf82 A n c).1, fun A n c => (mf82 A n c).2, enters_of Try.func70 (by kernel_rfl) rfl, enters_of Try.func71 (by kernel_rfl) rfl, ?_, fun _ => ⟨firstW_is p, firstW_rank p⟩, fun x m h e => nextW_some h e, fun x h e => nextW_none h e, fun x h A c => nextC_weaves (by rw [is_length h]; omega) A c, far_weaves p hs hl⟩
  have h := firstC_weaves p hs hl
  rwa [show true = decide (0 < mc p) from (decide_eq_true (mc_pos p)).symm] at h
/-- The lists one behind the other. -/
def lists (nx : List Nat → Option (List Nat)) (x0 : List Nat) : Nat → List Nat
  | 0 => x0
  | i + 1 => (nx (lists nx x0 i)).getD []
theorem lists_are {T : Nat} {l : List Int} {all : Nat} {ok : Bool} {IsL : List Nat → Prop} {num : List Nat → Nat} {ff fn : Nat} {x0 : List Nat} {nx : List Nat → Option (List Nat)} (S : Serves T l all ok IsL num) (G : GoesC T l all IsL num ff fn x0 nx) :
    ∀ i, i < all → (IsL (lists nx x0 i) ∧ num (lists nx x0 i) = i) ∧ (i + 1 < all → nx (lists nx x0 i) = some (lists nx x0 (i + 1))) ∧ (i + 1 = all → nx (lists nx x0 i) = none) := by
  have key : ∀ i, i < all → IsL (lists nx x0 i) ∧ num (lists nx x0 i) = i := by
    intro i
    induction i with
    | zero => exact fun h => G.x0 h
    | succ i ih =>
      intro h
      obtain ⟨h1, h2⟩ := ih (by omega)
      cases e : nx (lists nx x0 i) with
      | none => have := G.none_ _ h1 e; omega
      | some m =>
        have h3 : lists nx x0 (i + 1) = m := by show (nx (lists nx x0 i)).getD [] = m; rw [e]; rfl
        obtain ⟨h4, h5⟩ := G.some_ _ _ h1 e
        rw [h3, h5, h2]
        exact ⟨h4, rfl⟩
  intro i hi
  obtain ⟨h1, h2⟩ := key i hi
  refine ⟨⟨h1, h2⟩, fun h => ?_, fun h => ?_⟩
  · cases e : nx (lists nx x0 i) with
    | none => have := G.none_ _ h1 e; omega
    | some m => show _ = some ((nx (lists nx x0 i)).getD []); rw [e]; rfl
  · cases e : nx (lists nx x0 i) with
    | none => rfl
    | some m =>
      obtain ⟨h4, h5⟩ := G.some_ _ _ h1 e
      have := S.lt m h4
      omega
end Go.Proofs.Ytohpboblmmbjnaa.P
/- What All hands over, for a caller that keeps a counter of its own. -/
namespace Go.Proofs.Ytohpboblmmbjnaa.P
open Go Go.RowKit Go.Shelf Go.Proofs.YtohpboblmmbjnaaW.PrintWords Go.Proofs.YtohpboblmmbjnaaW.PrintLast Go.Proofs.YtohpboblmmbjnaaW.PrintMore Go.Proofs.Odo

theorem cell_apart {W : World} {nb : Nat} {t : TypeId} {u v u' : Value} {fr : Nat × Nat} {a : Addr} (h : W.cell? a = some v) (hb : W.heap[nb]? = some (.cells #[u] t fr)) (hne : v ≠ u) : (W.setCell ⟨nb, 0, none⟩ u').cell? a = some v := by
  have hab : a.block ≠ nb := by
    intro e
    unfold World.cell? at h
    rw [e, hb] at h
    cases ho : a.off with
    | zero =>
      simp only [ho] at h
      split at h
      · cases h
      · exact hne (Option.some.inj (by simpa using h)).symm
    | succ n => simp [ho] at h
  rw [← h]
  unfold World.cell? World.setCell
  simp only [Array.getElem?_modify, if_neg (fun e : nb = a.block => hab e.symm)]
theorem C_set {W : World} {nb : Nat} {q : Int} {t : TypeId} {u' : Value} {A : Option Addr} {n : Nat} {xs : List Int} (h : Kd.C (Kd.int .i64) W A n xs) (hb : W.heap[nb]? = some (.cells #[.int .u64 q] t (0, 0))) : Kd.C (Kd.int .i64) (W.setCell ⟨nb, 0, none⟩ u') A n xs := by
  obtain ⟨h1, h2, h3⟩ := h
  refine ⟨h1, h2, fun hn => ?_⟩
  obtain ⟨ad, e, h4⟩ := h3 hn
  refine ⟨ad, e, fun j p hp => ?_⟩
  obtain ⟨c, hc, hR, hcell⟩ := h4 j p hp
  have hc' : c = [.int .i64 p] := hR
  refine ⟨c, hc, hR, fun i u hu => cell_apart (hcell i u hu) hb ?_⟩
  subst hc'
  have := List.mem_of_getElem? hu
  rw [List.mem_singleton] at this
  subst this
  intro e
  injection e with e1 _
  cases e1
theorem Caught.set {T : Nat} {l x0 : List Int} {gf gs gp : Nat} {A Af : Option Addr} {c cf : Nat} {W : World} {nb : Nat} {q : Int} {u' : Value} (h : Caught T l x0 gf gs gp A Af c cf W) (hb : W.heap[nb]? = some (.cells #[.int .u64 q] 25 (0, 0))) : Caught T l x0 gf gs gp A Af c cf (W.setCell ⟨nb, 0, none⟩ u') :=
  ⟨cell_apart h.from_ hb (fun e => by cases e), h.fromc, C_set h.fromC hb, cell_apart h.sp hb (fun e => by cases e), cell_apart h.k hb (fun e => by cases e), h.kc, C_set h.kC hb⟩
theorem SpAt.set {T : Nat} {w : World} {v : Value} {l : List Int} {nb : Nat} {q : Int} {u' : Value} (h : SpAt T w v l) (hb : w.heap[nb]? = some (.cells #[.int .u64 q] 25 (0, 0))) : SpAt T (w.setCell ⟨nb, 0, none⟩ u') v l := by
  obtain ⟨g, A, c, h1, h2, h3, h4⟩ := h
  exact ⟨g, A, c, h1, cell_apart h2 hb (fun e => by cases e), h3, C_set h4 hb⟩
theorem set_size (W : World) (nb : Nat) (u : Value) : (W.setCell ⟨nb, 0, none⟩ u).heap.size = W.heap.size := by unfold World.setCell; simp
theorem set_other {W : World} {nb k : Nat} {u : Value} (h : k ≠ nb) : (W.setCell ⟨nb, 0, none⟩ u).heap[k]? = W.heap[k]? := Below.heap_setCell W ⟨nb, 0, none⟩ u k h
theorem below_step {S : Nat} {ws W : World} {nb : Nat} {u u' v : Value} {t : TypeId} (hb : ws.heap[nb]? = some (.cells #[v] t (0, 0))) (hS : nb < S) (h : Below S (ws.setCell ⟨nb, 0, none⟩ u) W) : Below S (ws.setCell ⟨nb, 0, none⟩ u') (W.setCell ⟨nb, 0, none⟩ u') := by
  have h2 := h.block nb hS
  rw [heap_set hb] at h2
  refine ⟨h.os, h.tape, h.output, by rw [set_size, set_size]; have := h.size; rwa [set_size] at this, fun k hk => ?_⟩
  by_cases e : k = nb
  · subst e; rw [heap_set hb, heap_set h2]
  · rw [set_other e, set_other e, h.block k hk, set_other e]
end Go.Proofs.Ytohpboblmmbjnaa.P
