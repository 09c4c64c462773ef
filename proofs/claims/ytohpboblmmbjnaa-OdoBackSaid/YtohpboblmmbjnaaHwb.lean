/- The walk of OdoBack. -/
import Derived.Test.YtohpboblmmbjnaaSpc
import Derived.Deep.RegionWith
namespace Go.Proofs.Ytohpboblmmbjnaa.P
open Go Go.RowKit Go.Proofs.YtohpboblmmbjnaaW.PrintWords Go.Proofs.YtohpboblmmbjnaaW.PrintLast Go.Proofs.YtohpboblmmbjnaaW.PrintMore Go.Proofs.Odo

theorem same_refl_l : ∀ (d : Nat) (x : List Int) (j : Nat), j + d = x.length → x.length < 9223372036854775807 → weirlaw01_SameInts.l0 (d + 1) x x (j : Int) = some true
  | 0, x, j, h, _ => by rw [weirlaw01_SameInts.l0, if_neg (by omega)]
  | d + 1, x, j, h, hl => by
    rw [weirlaw01_SameInts.l0, if_pos (by omega), if_pos (by omega), if_pos (by omega), if_pos rfl, wrap_next (n := x.length) (by omega) hl]
    exact same_refl_l d x (j + 1) (by omega) hl
theorem same_refl (x : List Int) (hl : x.length < 9223372036854775807) : weirlaw01_SameInts.f (x.length + 1) x x = some true := by
  unfold weirlaw01_SameInts.f
  rw [if_pos rfl]
  exact same_refl_l x.length x 0 (by omega) hl
theorem below_lower {w W : World} (h : Below w.heap.size w W) : Below w.heap.size w W := h
theorem ints_inj {x y : List Nat} (h : ints x = ints y) : x = y := by
  induction x generalizing y with
  | nil => cases y with
    | nil => rfl
    | cons b y => cases h
  | cons a x ih => cases y with
    | nil => cases h
    | cons b y =>
      have h' : (a : Int) :: ints x = (b : Int) :: ints y := h
      injection h' with h1 h2
      rw [ih h2, Int.ofNat_inj.1 h1]
theorem rank_hit {IsL : List Nat → Prop} {num : List Nat → Nat} {a : List Nat} {q r : Int} (ha : IsL a) (h : (∃ x, ints a = ints x ∧ IsL x ∧ q = ((num x : Nat) : Int) ∧ r = 0) ∨ ((∀ x, ints a = ints x → ¬ IsL x) ∧ q = 0 ∧ r = 3)) : q = ((num a : Nat) : Int) ∧ r = 0 := by
  rcases h with ⟨x, h1, _, h2, h3⟩ | ⟨h1, _, _⟩
  · rw [ints_inj h1]; exact ⟨h2, h3⟩
  · exact absurd ha (h1 a rfl)
theorem tmod_nat (n m : Nat) : ((n : Int)).tmod (m : Int) = ((n % m : Nat) : Int) := rfl
def Cmp (a b : List Nat) (j : Nat) (c : Int) : Prop := (c = 0 ∧ a.take j = b.take j) ∨ (c ≠ 0 ∧ ∃ i, i < j ∧ i < a.length ∧ i < b.length ∧ a.take i = b.take i ∧ c = ((a.getD i 0 : Nat) : Int) - ((b.getD i 0 : Nat) : Int))
theorem cmp_next {a b : List Nat} {j : Nat} (h : Cmp a b j 0) (ha : j < a.length) (hb : j < b.length) (h1 : ∀ x ∈ a, x < 9223372036854775808) (h2 : ∀ x ∈ b, x < 9223372036854775808) :
    Cmp a b (j + 1) (wrap64 (((a.getD j 0 : Nat) : Int) - ((b.getD j 0 : Nat) : Int))) := by
  have e1 : a.getD j 0 ∈ a := by rw [List.getD_eq_getElem?_getD, List.getElem?_eq_getElem ha]; exact List.getElem_mem ha
  have e2 : b.getD j 0 ∈ b := by rw [List.getD_eq_getElem?_getD, List.getElem?_eq_getElem hb]; exact List.getElem_mem hb
  have f1 := h1 _ e1
  have f2 := h2 _ e2
  rw [w64 (by omega) (by omega)]
  rcases h with ⟨_, h⟩ | ⟨h, _⟩
  · by_cases he : a.getD j 0 = b.getD j 0
    · refine .inl ⟨by omega, ?_⟩
      rw [take_snoc_nat a j ha, take_snoc_nat b j hb, h, he]
    · exact .inr ⟨by omega, j, by omega, ha, hb, h, rfl⟩
  · exact absurd rfl h
theorem cmp_end {T : Nat} {l : List Int} {all : Nat} {ok : Bool} {IsL : List Nat → Prop} {num : List Nat → Nat} {a b : List Nat} {j : Nat} {c : Int} (S : Serves T l all ok IsL num) (ha : IsL a) (hb : IsL b) (h : Cmp a b j c) (hx : c ≠ 0 ∨ a.length ≤ j) :
    (num a < num b ↔ c < 0) ∧ (num a = num b ↔ c = 0) := by
  rcases h with ⟨rfl, h⟩ | ⟨hc, i, _, hia, hib, ht, rfl⟩
  · have hj := hx.resolve_left (fun h => h rfl)
    have hs := S.same a b ha hb
    rw [List.take_of_length_le hj, List.take_of_length_le (by omega)] at h
    subst h
    simp
  · have ea : a = a.take i ++ a.getD i 0 :: a.drop (i + 1) := by
      rw [List.getD_eq_getElem?_getD, List.getElem?_eq_getElem hia]
      simp only [Option.getD_some]
      rw [← List.drop_eq_getElem_cons hia, List.take_append_drop]
    have eb : b = a.take i ++ b.getD i 0 :: b.drop (i + 1) := by
      rw [ht, List.getD_eq_getElem?_getD, List.getElem?_eq_getElem hib]
      simp only [Option.getD_some]
      rw [← List.drop_eq_getElem_cons hib, List.take_append_drop]
    have h1 := S.lex (a.take i) (a.getD i 0) (b.getD i 0) (a.drop (i + 1)) (b.drop (i + 1)) (ea ▸ ha) (eb ▸ hb)
    have h2 := S.lex (a.take i) (b.getD i 0) (a.getD i 0) (b.drop (i + 1)) (a.drop (i + 1)) (eb ▸ hb) (ea ▸ ha)
    rw [← ea, ← eb] at h1 h2
    omega
theorem cells_at {w : World} {g i : Nat} {t : TypeId} {cs : Array Value} {v : Value} (h : w.heap[g]? = some (.cells cs t (0, 0))) (hv : cs[i]? = some v) : w.cell? ⟨g, i, none⟩ = some v := by simp [World.cell?, h, hv]
set_option maxHeartbeats 4000000 in
set_option maxRecDepth 100000 in
theorem back_walk (K N : Int) (n m : Nat) (A0 : Option Addr) (c0 : Nat) (l0 : List Int) (A1 : Option Addr) (c1 : Nat) (l1 : List Int) (w : World)
    (hr0 : Kd.C (Kd.int .i64) w A0 l0.length l0) (hc0 : l0.length ≤ c0) (hent : ∀ x ∈ l0, x < 9223372036854775808)
    (hr1 : Kd.C (Kd.int .i64) w A1 l1.length l1) (hc1 : l1.length ≤ c1) (hl1 : l1.length < 9223372036854775807) :
    Calls Try.prog 4 #[.agg #[.int .i64 K, .slice A0 l0.length c0, .int .i64 N], .int .u64 n, .int .u64 m, .slice A1 l1.length c1] w fun e w' => e = .returned (.bool true) ∧ Below w.heap.size w w' := by
  have HR0 := Aside0.mk hr0
  have HC0 := Aside0.mk hc0
  have HE := Aside0.mk hent
  have HR1 := Aside0.mk hr1
  have HC1 := Aside0.mk hc1
  have HL1 := Aside0.mk hl1
  have HB := Aside0.mk (below_alloc (Below.refl _ w) (.cells #[.int .i64 K, .slice A0 l0.length c0, .int .i64 N] 24))
  have HG := Aside0.mk (World.alloc_heap_new w (.cells #[.int .i64 K, .slice A0 l0.length c0, .int .i64 N] 24))
  obtain ⟨q1, q2, q3⟩ := ptr26
  clear hr0 hc0 hent hr1 hc1 hl1
  go_enter Try.func4, Try.ntmps4
  go_upto_region 4 with (first
    | (go_at_call 16; refine (awake.calls _).mono ?_; rintro e w1 ⟨rfl, hB1⟩; have hz := HB.out.size; replace HG := Aside0.mk ((hB1.block w.heap.size (by simp)).trans HG.out); replace HB := Aside0.mk (below_then HB.out hz hB1); clear hB1 hz; have g0 := cells_at HG.out (i := 0) rfl; have g1 := cells_at HG.out (i := 1) rfl; have g2 := cells_at HG.out (i := 2) rfl)
    | (go_at_call 17; refine (space.calls K N A0 c0 l0 _ (Kd.C_below HR0.out HB.out) HC0.out HE.out).mono ?_; rintro e w2 ⟨v, r, rfl, hS, hB2⟩; have hz := HB.out.size; replace HB := Aside0.mk (below_then HB.out hz hB2); replace hS := Aside0.mk hS; clear hB2 hz g0 g1 g2))
  have HS := hS
  obtain ⟨hS⟩ := hS
  rcases hS with ⟨hr, rfl⟩ | ⟨rfl, T, l, all, ok, IsL, num, hSv, hSp⟩
  · have hb : (r != 0) = true := by simpa using hr
    go_wp2
    go_ret
    exact ⟨rfl, by repeat (first | exact HB.out | refine pw_below_drewN ?_ _ | refine below_drew ?_)⟩
  · clear HS
    have SV := Aside0.mk hSv
    have SP := Aside0.mk hSp
    clear hSv hSp
    cases ok with
    | false =>
      go_wp2_with (go_at_call 9; refine (SV.out.len _ _ SP.out).mono ?_; rw [if_neg (by decide), if_neg (by decide)]; rintro e w3 ⟨rfl, ⟨nd, rfl⟩⟩)
      go_ret
      exact ⟨rfl, by repeat (first | exact HB.out | refine pw_below_drewN ?_ _ | refine below_drew ?_)⟩
    | true =>
      obtain ⟨q, r, hcase, hrank⟩ := SV.out.rank rfl l1 HL1.out
      have HRK := Aside0.mk hrank
      clear hrank
      rcases hcase with hcase | hcase
      case' inl =>
        obtain ⟨x1, rfl, hx1, rfl, rfl⟩ := hcase
        have hlt := SV.out.lt x1 hx1
        have HLT := Aside0.mk hlt
        obtain ⟨x, hx, hnum, hat⟩ := SV.out.at_ rfl (num x1) hlt
        obtain rfl := SV.out.inj _ _ hx hx1 hnum
        have HAT := Aside0.mk hat
        have hge : decide ((all : Int) ≤ (num x : Int)) = false := decide_eq_false (by omega)
        have hge2 : decide (all ≤ num x) = false := decide_eq_false (by omega)
        have hsame := Aside0.mk (same_refl (ints x) HL1.out)
        have hal : ((all : Int) == 0) = false := beq_eq_false_iff_ne.2 (by omega)
        have hal2 : (all == 0) = false := beq_eq_false_iff_ne.2 (by omega)
        have HX := Aside0.mk hx
        have HP := Aside0.mk (show 0 < all by omega)
        clear hlt hat hnum hx hx1
        go_upto_region 16 with (first
          | (go_at_call 9; refine (SV.out.len _ _ SP.out).mono ?_; rw [if_pos rfl, if_pos rfl]; rintro e w3 ⟨rfl, ⟨nd, rfl⟩⟩; replace SP := Aside0.mk (SP.out.below (pw_below_drewN (Below.refl _ _) nd)); replace HB := Aside0.mk (pw_below_drewN HB.out nd))
          | (go_at_call 14; refine (HRK.out _ _ _ _ SP.out (Kd.C_below HR1.out (below_lower HB.out)) HC1.out).mono ?_; rintro e w4 ⟨rfl, hB4⟩; replace SP := Aside0.mk (SP.out.below hB4); have hz := HB.out.size; replace HB := Aside0.mk (below_then HB.out hz hB4); clear hB4 hz)
          | (go_at_call 11; refine (HAT.out _ _ SP.out).mono ?_; rintro e w5 ⟨v5, rfl, hR5, hB5⟩; obtain ⟨A5, c5, rfl, hc5, hC5⟩ := Kd.R_reads hR5; replace hc5 := Aside0.mk hc5; replace hC5 := Aside0.mk hC5; replace SP := Aside0.mk (SP.out.below hB5); have hz := HB.out.size; replace HB := Aside0.mk (below_then HB.out hz hB5); clear hB5 hz hR5)
          | (go_at_call 13; refine (weirlaw01_SameInts.calls _ _ _ _ _ _ _ true _ hC5.out hc5.out (Kd.C_below HR1.out (below_lower HB.out)) HC1.out hsame.out).mono ?_; rintro e w6 ⟨rfl, ⟨nd6, rfl⟩⟩; replace SP := Aside0.mk (SP.out.below (pw_below_drewN (Below.refl _ _) nd6)); replace HB := Aside0.mk (pw_below_drewN HB.out nd6)))
      case' inr =>
        obtain ⟨hno, rfl, rfl⟩ := hcase
        clear hno
        have hal : all = 0 ∨ 0 < all := by omega
        rcases hal with rfl | hpos
        · go_wp2_with (first
            | (go_at_call 9; refine (SV.out.len _ _ SP.out).mono ?_; rw [if_pos rfl, if_pos rfl]; rintro e w3 ⟨rfl, ⟨nd, rfl⟩⟩; replace SP := Aside0.mk (SP.out.below (pw_below_drewN (Below.refl _ _) nd)); replace HB := Aside0.mk (pw_below_drewN HB.out nd))
            | (go_at_call 14; refine (HRK.out _ _ _ _ SP.out (Kd.C_below HR1.out HB.out) HC1.out).mono ?_; rintro e w4 ⟨rfl, hB4⟩; replace SP := Aside0.mk (SP.out.below hB4); have hz := HB.out.size; replace HB := Aside0.mk (below_then HB.out hz hB4); clear hB4 hz))
          go_ret
          exact ⟨rfl, by repeat (first | exact HB.out | refine pw_below_drewN ?_ _ | refine below_drew ?_)⟩
        have hal : ((all : Int) == 0) = false := beq_eq_false_iff_ne.2 (by omega)
        have hal2 : (all == 0) = false := beq_eq_false_iff_ne.2 (by omega)
        have HP := Aside0.mk hpos
        clear hpos
        go_upto_region 16 with (first
          | (go_at_call 9; refine (SV.out.len _ _ SP.out).mono ?_; rw [if_pos rfl, if_pos rfl]; rintro e w3 ⟨rfl, ⟨nd, rfl⟩⟩; replace SP := Aside0.mk (SP.out.below (pw_below_drewN (Below.refl _ _) nd)); replace HB := Aside0.mk (pw_below_drewN HB.out nd))
          | (go_at_call 14; refine (HRK.out _ _ _ _ SP.out (Kd.C_below HR1.out HB.out) HC1.out).mono ?_; rintro e w4 ⟨rfl, hB4⟩; replace SP := Aside0.mk (SP.out.below hB4); have hz := HB.out.size; replace HB := Aside0.mk (below_then HB.out hz hB4); clear hB4 hz))
      all_goals
        obtain ⟨a, ha, hna, hata⟩ := SV.out.at_ rfl (n % all) (Nat.mod_lt _ HP.out)
        obtain ⟨b, hb, hnb, hatb⟩ := SV.out.at_ rfl (m % all) (Nat.mod_lt _ HP.out)
        obtain ⟨p, e1, hca, hrka⟩ := SV.out.rank rfl (ints a) (by have := (SV.out.small a ha).1; rw [ints_length]; omega)
        obtain ⟨q, e2, hcb, hrkb⟩ := SV.out.rank rfl (ints b) (by have := (SV.out.small b hb).1; rw [ints_length]; omega)
        obtain ⟨rfl, rfl⟩ := rank_hit ha hca
        obtain ⟨rfl, rfl⟩ := rank_hit hb hcb
        have hn1 : ((n : Int)).tmod (all : Int) = ((num a : Nat) : Int) := by rw [hna]; exact tmod_nat n all
        have hm1 : ((m : Int)).tmod (all : Int) = ((num b : Nat) : Int) := by rw [hnb]; exact tmod_nat m all
        rw [← hna] at hata
        rw [← hnb] at hatb
        obtain ⟨pa, hpa⟩ : ∃ pa, num a = pa := ⟨_, rfl⟩
        obtain ⟨pb, hpb⟩ : ∃ pb, num b = pb := ⟨_, rfl⟩
        rw [hpa] at hata hrka hn1
        rw [hpb] at hatb hrkb hm1
        have HPA := Aside0.mk hpa
        have HPB := Aside0.mk hpb
        have HATA := Aside0.mk hata
        have HATB := Aside0.mk hatb
        have HRKA := Aside0.mk hrka
        have HRKB := Aside0.mk hrkb
        have HA := Aside0.mk ha
        have HBB := Aside0.mk hb
        have hsame : (ints b).length = (ints a).length := by rw [ints_length, ints_length]; exact SV.out.same _ _ hb ha
        have HSM := Aside0.mk hsame
        have hal3 : ¬ all = 0 := Nat.pos_iff_ne_zero.1 HP.out
        clear hata hatb hrka hrkb ha hb hna hnb hca hcb hsame hpa hpb
        go_upto_region 22 with (first
          | (go_at_call 11; with_reducible refine (HATA.out _ _ SP.out).mono ?_; rintro e w7 ⟨v7, rfl, hR7, hB7⟩; obtain ⟨A7, c7, rfl, hc7, hC7⟩ := Kd.R_reads hR7; replace hc7 := Aside0.mk hc7; replace hC7 := Aside0.mk hC7; replace SP := Aside0.mk (SP.out.below hB7); have hz := HB.out.size; replace HB := Aside0.mk (below_then HB.out hz hB7); clear hB7 hz hR7)
          | (go_at_call 11; with_reducible refine (HATB.out _ _ SP.out).mono ?_; rintro e w8 ⟨v8, rfl, hR8, hB8⟩; obtain ⟨A8, c8, rfl, hc8, hC8⟩ := Kd.R_reads hR8; replace hc8 := Aside0.mk hc8; replace hC8 := Aside0.mk hC8; replace hC7 := Aside0.mk (Kd.C_below hC7.out hB8); replace SP := Aside0.mk (SP.out.below hB8); have hz := HB.out.size; replace HB := Aside0.mk (below_then HB.out hz hB8); clear hB8 hz hR8)
          | (go_at_call 14; with_reducible refine (HRKA.out _ _ _ _ SP.out hC7.out hc7.out).mono ?_; rintro e w9 ⟨rfl, hB9⟩; replace hC7 := Aside0.mk (Kd.C_below hC7.out hB9); replace hC8 := Aside0.mk (Kd.C_below hC8.out hB9); replace SP := Aside0.mk (SP.out.below hB9); have hz := HB.out.size; replace HB := Aside0.mk (below_then HB.out hz hB9); clear hB9 hz)
          | (go_at_call 14; with_reducible refine (HRKB.out _ _ _ _ SP.out hC8.out hc8.out).mono ?_; rintro e w10 ⟨rfl, hB10⟩; replace hC7 := Aside0.mk (Kd.C_below hC7.out hB10); replace hC8 := Aside0.mk (Kd.C_below hC8.out hB10); replace SP := Aside0.mk (SP.out.below hB10); have hz := HB.out.size; replace HB := Aside0.mk (below_then HB.out hz hB10); clear hB10 hz))
        have hsa := SV.out.small a HA.out
        have hsb := SV.out.small b HBB.out
        have hla : (ints a).length ≤ 64 := by rw [ints_length]; exact hsa.1
        have HSA := Aside0.mk hsa.2
        have HSB := Aside0.mk hsb.2
        clear hsa hsb hn1 hm1 hal hal2 hal3
        go_wp2
        go_loopw [23, 24] (fun p23 p24 wr => ∃ (c : Int) (j : Nat), p23 = .int .i64 c ∧ p24 = .int .i64 j ∧ j ≤ (ints a).length ∧ Aside0 (Cmp a b j c) ∧ Aside0 (Below w.heap.size w wr) ∧ Aside0 (Kd.C (Kd.int .i64) wr A7 (ints a).length (ints a)) ∧ Aside0 (Kd.C (Kd.int .i64) wr A8 (ints b).length (ints b))) (fun _ p24 _ => (ints a).length - (intOf p24).toNat)
        case atStart => exact ⟨0, 0, rfl, rfl, Nat.zero_le _, ⟨.inl ⟨rfl, rfl⟩⟩, HB, hC7, hC8⟩
        case round =>
          clear HB hC7 hC8
          obtain ⟨c, j, rfl, rfl, hj, HCM, HB, hC7, hC8⟩ := hrel
          have hlb : (ints b).length = (ints a).length := HSM.out
          by_cases hgo : j < (ints a).length ∧ c = 0
          · obtain ⟨hlt, rfl⟩ := hgo
            have d1 : decide (j < (ints a).length) = true := decide_eq_true hlt
            have d2 : decide (j < (ints b).length) = true := decide_eq_true (by omega)
            obtain ⟨ad, e0, hx0⟩ := Kd.at_int hC7.out (j : Int) (by omega) (by omega)
            cases e0
            obtain ⟨bd, e0, hy0⟩ := Kd.at_int hC8.out (j : Int) (by omega) (by omega)
            cases e0
            rw [Int.toNat_natCast, rd_ints] at hx0 hy0
            have hnext := cmp_next HCM.out (by rw [← ints_length a]; exact hlt) (by rw [← ints_length b, hlb]; exact hlt) HSA.out HSB.out
            have HNX := Aside0.mk hnext
            obtain ⟨y1, hy1⟩ : ∃ y, a.getD j 0 = y := ⟨_, rfl⟩
            obtain ⟨y2, hy2⟩ : ∃ y, b.getD j 0 = y := ⟨_, rfl⟩
            rw [hy1, hy2] at HNX
            rw [hy1] at hx0
            rw [hy2] at hy0
            clear hnext hy1 hy2
            go_wp2
            repeat (go_quiet (fail); try go_wp2)
            exact ⟨⟨_, j + 1, rfl, by go_num, by omega, HNX, ⟨pw_below_drewN HB.out _⟩, ⟨Kd.C_drewN hC7.out _⟩, ⟨Kd.C_drewN hC8.out _⟩⟩, by simp [intOf]; omega⟩
          · have hend := cmp_end SV.out HA.out HBB.out HCM.out (show c ≠ 0 ∨ a.length ≤ j by
              rw [← ints_length a]
              by_cases hc : c = 0
              · exact .inr (by have : ¬ j < (ints a).length := fun h => hgo ⟨h, hc⟩
                               omega)
              · exact .inl hc)
            rw [HPA.out, HPB.out] at hend
            have e1 : decide (pa < pb) = decide (c < 0) := decide_eq_decide.2 hend.1
            have e2 : ((pa : Int) == (pb : Int)) = (c == 0) := by
              by_cases hc : c = 0
              · rw [beq_iff_eq.2 hc, beq_iff_eq.2 (Int.ofNat_inj.2 (hend.2.2 hc))]
              · rw [beq_eq_false_iff_ne.2 hc, beq_eq_false_iff_ne.2 (fun h => hc (hend.2.1 (Int.ofNat_inj.1 h)))]
            have e3 : ((ints a).length == (ints b).length) = true := by rw [hlb]; simp
            have hcc : (c == 0) = true ∨ (c == 0) = false := by cases (c == 0) <;> simp
            have hcn : decide (c < 0) = true ∨ decide (c < 0) = false := by cases decide (c < 0) <;> simp
            by_cases hlt : j < (ints a).length
            · have hc0 : (c == 0) = false := beq_eq_false_iff_ne.2 (fun h => hgo ⟨hlt, h⟩)
              have d1 : decide (j < (ints a).length) = true := decide_eq_true hlt
              have d2 : decide (j < (ints b).length) = true := decide_eq_true (by omega)
              clear hgo hcc hend
              rw [hc0] at e2
              rcases hcn with hcn | hcn
              all_goals rw [hcn] at e1
              all_goals go_wp2
              all_goals go_ret
              all_goals exact ⟨rfl, HB.out⟩
            · have d1 : decide (j < (ints a).length) = false := decide_eq_false hlt
              clear hgo hend
              rcases hcn with hcn | hcn
              all_goals rw [hcn] at e1
              all_goals rcases hcc with hcc | hcc
              all_goals rw [hcc] at e2
              all_goals go_wp2
              all_goals go_ret
              all_goals exact ⟨rfl, HB.out⟩
end Go.Proofs.Ytohpboblmmbjnaa.P
