/- relr.Encode: what it hands back, for any places. No condition but that the argument is a slice of numbers of 64 bits. -/
import Derived.Test.YtpddjphanhkkfaaRelrEncPure
namespace Go.Proofs.Ytpddjphanhkkfaa.RelrEncode
open Go.RowKit Go.Proofs Go.Proofs.Ytpddjphanhkkfaa.Buf Go.Proofs.Ytpddjphanhkkfaa.RelrPure Go.Proofs.Ytpddjphanhkkfaa.RelrEncPure Go.Proofs.Ytpddjphanhkkfaa.PRelrReads Go.Proofs.YtpddjphanhkkfaaW.PrintWords Go.Proofs.YtpddjphanhkkfaaW.PrintLast Go.Proofs.YtpddjphanhkkfaaW.PrintMore

theorem add512 (n : Int) (h0 : 0 ≤ n) (h1 : n < 18446744073709551616) : num_Add.f n 512 = if n > 18446744073709551103 then some (0, false) else some (n + 512, true) := by
  unfold num_Add.f
  have : IntKind.u64.wrap (18446744073709551615 - 512) = 18446744073709551103 := by decide
  rw [this]
  split
  · rfl
  · rw [IntKind.wrap_u64]
    congr 2
    omega
theorem info23 : (Try.prog.info? 23).map (fun i => (i.zero, i.size, i.bytes)) = some (some (.int .u64 0), 1, 8) := by kernel_rfl
theorem add_any (a b r1 : Int) (r2 : Bool) (w : World) (h : num_Add.f a b = some (r1, r2)) :
    Calls Try.prog 31 #[.int .u64 a, .int .u64 b] w fun e w' => e = .returned (.tuple #[.int .u64 r1, .bool r2]) ∧ ∃ m, w' = w.drewN m :=
  (num_Add.calls a b r1 r2 w h).mono fun _ _ h => ⟨h.1, h.2.out⟩
theorem own_lower {w : World} {base base' : Nat} {e : TypeId} {size n : Nat} {v : Value} {xs : List Value} (hb : base' ≤ base) (h : w.ownsRow base e size v n xs) : w.ownsRow base' e size v n xs := by
  obtain ⟨h1, h2⟩ := h
  refine ⟨h1, ?_⟩
  rcases h2 with h2 | ⟨g, cap, cur, rfl, hg, r⟩
  · exact .inl h2
  · exact .inr ⟨g, cap, cur, rfl, Nat.le_trans hb hg, r⟩
theorem enc_bad {l : List Int} {r : List Int × Int} (hr : encode l = r) (hle : l.length ≤ 512) (j : Nat) (hj : j < l.length) (h : ¬ okAt l j) : r = ([], 130) := by
  rw [← hr]
  unfold encode
  rw [if_neg (by omega), if_neg (fun hh => h (hh j hj))]
theorem ok_lt {l : List Int} {j : Nat} {p : Int} (hp : rd l (j : Int) = p) (h1 : ¬ p > 18446744073709551103) (h2 : p % 2 = 0) (h3 : j = 0 ∨ rd l ((j : Int) - 1) < p ∧ 8 ≤ p - rd l ((j : Int) - 1)) : okAt l j := by
  unfold okAt
  rw [hp]
  exact ⟨h2, by omega, h3⟩
set_option maxRecDepth 100000 in
set_option maxHeartbeats 4000000 in
theorem encode_in (A0 : Option Addr) (c0 : Nat) (l : List Int) (w : World) (hr0 : Kd.C (Kd.int .u64) w A0 l.length l) (hc0 : l.length ≤ c0) (hw : Words l) (hle : l.length ≤ 512) (r : List Int × Int) (hr : encode l = r) :
    Calls Try.prog 25 #[.slice A0 l.length c0] w fun e w' => ∃ v0_ : Value, e = .returned (.tuple #[v0_, .int .i64 r.2]) ∧ w'.ownsRow w.heap.size 5 1 v0_ r.1.length (nums .u8 r.1) ∧ Below w.heap.size w w' := by
  have HR := Aside0.mk hr
  have HC := Aside0.mk hr0
  have HCC := Aside0.mk hc0
  have HW := Aside0.mk hw
  clear hr hr0 hc0 hw
  go_enter Try.func25, Try.ntmps25
  go_wp2
  go_loopw [18] (fun i wr => ∃ j : Nat, i = .int .i64 (j : Int) ∧ j ≤ l.length ∧ Aside0 (∀ m, m < j → okAt l m) ∧ ∃ n, wr = w.drewN n) (fun i _ => l.length - (intOf i).toNat)
  case atStart => exact ⟨0, rfl, Nat.zero_le _, ⟨fun m hm => absurd hm (by omega)⟩, 0, rfl⟩
  case round =>
    obtain ⟨j, rfl, hj, HOK, n, rfl⟩ := hrel
    by_cases hlt : j < l.length
    · have hp := HW.out.at_ (j : Int)
      obtain ⟨ad, rfl, hcell⟩ := Kd.at_int HC.out (j : Int) (by omega) (by omega)
      rw [Int.toNat_natCast] at hcell
      obtain ⟨p, hpe⟩ : ∃ p, rd l (j : Int) = p := ⟨_, rfl⟩
      rw [hpe] at hp hcell
      have HP := Aside0.mk hpe
      clear hpe
      obtain ⟨hp0, hp1⟩ := hp
      by_cases ho : p > 18446744073709551103
      · obtain rfl := enc_bad HR.out hle j hlt (by unfold okAt; rw [HP.out]; omega)
        have HA := Aside0.mk (show num_Add.f p 512 = some (0, false) by rw [add512 p hp0 hp1, if_pos ho])
        go_wp2_with (go_at_call 31; refine (add_any _ _ _ _ _ HA.out).mono ?_; rintro e w1 ⟨rfl, m, rfl⟩)
        all_goals
          go_ret2
          exact ⟨_, rfl, World.ownsRow_nil _ _ _ _, pw_below_drewN (Below.refl _ _) _⟩
      · have HA := Aside0.mk (show num_Add.f p 512 = some (p + 512, true) by rw [add512 p hp0 hp1, if_neg ho])
        by_cases hodd : p % 2 = 1
        · obtain rfl := enc_bad HR.out hle j hlt (by unfold okAt; rw [HP.out]; omega)
          have hand : bits BinOp.and IntKind.u64 p 1 = 1 := by rw [and_one p hp0 hp1]; exact hodd
          go_wp2_with (go_at_call 31; refine (add_any _ _ _ _ _ HA.out).mono ?_; rintro e w1 ⟨rfl, m, rfl⟩)
          go_ret2
          exact ⟨_, rfl, World.ownsRow_nil _ _ _ _, pw_below_drewN (Below.refl _ _) _⟩
        · have hand : bits BinOp.and IntKind.u64 p 1 = 0 := by rw [and_one p hp0 hp1]; omega
          rcases Nat.eq_zero_or_pos j with hj0 | hpos
          · have HOKj := ok_lt HP.out ho (by omega) (.inl hj0)
            have HJ0 := Aside0.mk hj0
            have hz : ¬ (0 : Int) < (j : Int) := by omega
            clear hj0
            go_wp2_with (go_at_call 31; refine (add_any _ _ _ _ _ HA.out).mono ?_; rintro e w1 ⟨rfl, m, rfl⟩)
            go_roundw
            case rel => exact ⟨j + 1, by go_num, by omega, ⟨fun m hm => (show j = m by have := HJ0.out; omega) ▸ HOKj⟩, _, rfl⟩
            case measure => simp [intOf]; omega
          · obtain ⟨q, hqe⟩ : ∃ q, rd l ((j : Int) - 1) = q := ⟨_, rfl⟩
            obtain ⟨ad', he', hcell2⟩ := Kd.at_int HC.out ((j : Int) - 1) (by omega) (by omega)
            cases he'
            have hq := HW.out.at_ ((j : Int) - 1)
            rw [hqe] at hq hcell2
            have hcell3 : w.cell? (ad.add (j - 1)) = some (.int .u64 q) := by rw [← hcell2]; congr 2; omega
            obtain ⟨hq0, hq1⟩ := hq
            have HQ := Aside0.mk hqe
            have hz : (0 : Int) < (j : Int) := by omega
            have hz1 : (1 : Int) ≤ (j : Int) := by omega
            have hz2 : (0 : Int) ≤ (j : Int) - 1 := by omega
            have hz3 : (j : Int) - 1 < (l.length : Int) := by omega
            clear hqe
            by_cases h1 : p ≤ q
            · obtain rfl := enc_bad HR.out hle _ hlt (by unfold okAt; rw [HP.out, HQ.out]; omega)
              go_wp2_with (go_at_call 31; refine (add_any _ _ _ _ _ HA.out).mono ?_; rintro e w1 ⟨rfl, m, rfl⟩)
              go_ret2
              exact ⟨_, rfl, World.ownsRow_nil _ _ _ _, pw_below_drewN (Below.refl _ _) _⟩
            · by_cases h2 : p - q < 8
              · obtain rfl := enc_bad HR.out hle _ hlt (by unfold okAt; rw [HP.out, HQ.out]; omega)
                go_wp2_with (go_at_call 31; refine (add_any _ _ _ _ _ HA.out).mono ?_; rintro e w1 ⟨rfl, m, rfl⟩)
                go_ret2
                exact ⟨_, rfl, World.ownsRow_nil _ _ _ _, pw_below_drewN (Below.refl _ _) _⟩
              · have HOKj := ok_lt HP.out ho (by omega) (.inr ⟨by rw [HQ.out]; omega, by rw [HQ.out]; omega⟩)
                go_wp2_with (go_at_call 31; refine (add_any _ _ _ _ _ HA.out).mono ?_; rintro e w1 ⟨rfl, m, rfl⟩)
                go_roundw
                case rel => exact ⟨j + 1, by go_num, by omega, ⟨fun m hm => by
                  rcases Nat.lt_or_ge m j with hm' | hm'
                  · exact HOK.out m hm'
                  · obtain rfl : m = j := by omega
                    exact HOKj⟩, _, rfl⟩
                case measure => simp [intOf]; omega
    · have HALL : Aside0 (r.2 = 0 ∧ r.1 = flat (encW (2 * l.length + 1) l)) := ⟨by
        rw [← HR.out]
        unfold encode
        rw [if_neg (by omega), if_pos (fun m hm => HOK.out m (by omega))]
        exact ⟨rfl, rfl⟩⟩
      have HOKA : Aside0 (∀ m, m < l.length → okAt l m) := ⟨fun m hm => HOK.out m (by omega)⟩
      clear HOK HR
      obtain ⟨r1, r2⟩ := r
      have HALL2 : Aside0 (r1 = flat (encW (2 * l.length + 1) l)) := ⟨HALL.out.2⟩
      obtain rfl : r2 = 0 := HALL.out.1
      clear HALL
      go_wp2_with (go_at_call 34; refine (new_calls w.heap.size _ (by simp)).mono ?_; rintro e w1 ⟨rfl, hv1, rfl⟩)
      obtain ⟨wo, hwo⟩ : ∃ wo : World, wo = (w.drewN n).alloc (.cells #[.slice none 0 0] 81) := ⟨_, rfl⟩
      rw [← hwo] at hv1 ⊢
      have hbo : Below w.heap.size w wo := by rw [hwo]; exact below_alloc (pw_below_drewN (Below.refl _ _) n) _
      have HV1 := Aside0.mk hv1
      have HBO := Aside0.mk hbo
      clear hwo hv1 hbo
      go_loopw [9] (fun i wr => ∃ (j kf : Nat) (bs : List Int) (v : Value), i = .int .i64 (j : Int) ∧ j ≤ l.length ∧ Aside0 (2 * (l.length - j) + 1 ≤ kf) ∧ BufV w.heap.size wr w.heap.size v bs ∧ Below w.heap.size w wr ∧ bs.length ≤ 8 * j ∧ Aside0 (r1 = bs ++ flat (encW kf (l.drop j)))) (fun i _ => l.length - (intOf i).toNat)
      case atStart => exact ⟨0, 2 * l.length + 1, [], _, rfl, Nat.zero_le _, ⟨by omega⟩, HV1.out, HBO.out, by simp, ⟨by simpa using HALL2.out⟩⟩
      case round =>
        obtain ⟨j, kf, bs, v, rfl, hj, HKF, hV, hB, hbl, HE⟩ := hrel
        have HV := Aside0.mk hV
        have HB := Aside0.mk hB
        clear hV hB
        by_cases hlt : j < l.length
        · obtain ⟨ad, he, hcell⟩ := Kd.at_int (Kd.C_below HC.out HB.out) (j : Int) (by omega) (by omega)
          have HCR := Aside0.mk (Kd.C_below HC.out HB.out)
          have HAD := Aside0.mk he
          rw [Int.toNat_natCast] at hcell
          have hp := HW.out.at_ (j : Int)
          have hok := HOKA.out j hlt
          obtain ⟨p, hpe⟩ : ∃ p, rd l (j : Int) = p := ⟨_, rfl⟩
          unfold okAt at hok
          rw [hpe] at hp hcell hok
          have HP := Aside0.mk hpe
          obtain ⟨hp0, hp1⟩ := hp
          have hp2 := hok.2.1
          clear hpe hok
          obtain rfl := he
          obtain ⟨kf, rfl⟩ : ∃ m, kf = m + 1 := ⟨kf - 1, by have := HKF.out; omega⟩
          have HE2 : Aside0 (r1 = (bs ++ putBytes p 8) ++ flat (encR kf (l.drop (j + 1)) (p + 8))) := ⟨by
            have := HE.out
            rw [List.drop_eq_getElem_cons hlt, ← rd_nat l j hlt, HP.out, encW] at this
            rw [this]
            simp [flat]⟩
          have HKF2 : Aside0 (2 * (l.length - (j + 1)) + 2 ≤ kf) := ⟨by have := HKF.out; omega⟩
          clear HE HKF
          go_wp2_with (go_at_call 35; refine (put64_calls w.heap.size w.heap.size v bs p wr HV.out HB.out.size (by omega) hp0 hp1).mono ?_; rintro e w1 ⟨⟨u, rfl⟩, v1, hv1, hs1⟩; have HV1' := Aside0.mk hv1; have HB1 := Aside0.mk (HB.out.trans (hs1.below HV.out HB.out.size)); clear hv1 hs1; obtain ⟨ad1, he1, hcell1⟩ := Kd.at_int (Kd.C_below HC.out HB1.out) (j : Int) (by omega) (by omega); cases he1; rw [Int.toNat_natCast, HP.out] at hcell1)
          obtain ⟨w2, hw2⟩ : ∃ w2 : World, w2 = w1 := ⟨_, rfl⟩
          subst hw2
          go_loopw [9, 10] (fun i f wq => ∃ (q kq : Nat) (frm : Int) (cs : List Int) (v' : Value), i = .int .i64 (q : Int) ∧ f = .int .u64 frm ∧ 0 ≤ frm ∧ frm < 18446744073709551616 ∧ j < q ∧ q ≤ l.length ∧ Aside0 (2 * (l.length - q) + 2 ≤ kq) ∧ BufV w.heap.size wq w.heap.size v' cs ∧ Below w.heap.size w wq ∧ cs.length ≤ 8 * q ∧ Aside0 (r1 = cs ++ flat (encR kq (l.drop q) frm))) (fun i _ _ => l.length - (intOf i).toNat)
          case atStart => exact ⟨j + 1, kf, p + 8, _, _, by go_num, rfl, by omega, by omega, by omega, by omega, HKF2, HV1'.out, HB1.out, by rw [List.length_append, putBytes_len]; omega, HE2⟩
          case round =>
            obtain ⟨q, kq, frm, cs, v', rfl, rfl, hf0, hf1, hjq, hql, HKQ, hV2, hB2, hcl, HE3⟩ := hrel
            have HV2 := Aside0.mk hV2
            have HB2 := Aside0.mk hB2
            clear hV2 hB2
            obtain ⟨kq, rfl⟩ : ∃ m, kq = m + 1 := ⟨kq - 1, by have := HKQ.out; omega⟩
            obtain ⟨A1, hcut, HC1⟩ : ∃ A1 : Option Addr, (∀ W, (Instr.slice 42 (.slice (some ad) l.length c0) (some (.int .i64 (q : Int))) none none).run Try.prog W = .ok (.slice A1 (l.length - q) (c0 - q)) W) ∧ Aside0 (Kd.C (Kd.int .u64) wr A1 (l.drop q).length (l.drop q) ∧ (l.drop q).length = l.length - q) := by
              obtain ⟨i0, hi, hz0, hz1, hz2⟩ := info_parts info23
              refine ⟨_, fun W => by have := cut_from (P := Try.prog) 42 23 .i64 Try.underlying42 hi 1 hz1 (some ad) l.length c0 (q : Int) (by omega) (by omega) W; rw [Int.toNat_natCast] at this; exact this, ⟨Kd.C_drop (Kd.C_below HC.out HB2.out) (by omega) HCC.out, List.length_drop ..⟩⟩
            obtain ⟨n1, hn1⟩ : ∃ n1, (rowS frm (l.drop q) 1).1 = n1 := ⟨_, rfl⟩
            obtain ⟨tk, htk⟩ : ∃ tk, (rowS frm (l.drop q) 1).2 = tk := ⟨_, rfl⟩
            have hrr := rowS_range frm (l.drop q) 1 (by omega) (by omega)
            have hrl := rowS_le frm (l.drop q) 1
            rw [hn1] at hrr
            rw [htk, HC1.out.2] at hrl
            obtain ⟨hn10, hn11⟩ := hrr
            have HROW : Aside0 (Calls Try.prog 36 #[.slice A1 (l.length - q) (c0 - q), .int .u64 frm] wr fun e w' => e = .returned (.tuple #[.int .u64 n1, .int .i64 (tk : Int)]) ∧ ∃ m, w' = wr.drewN m) := ⟨by
              have := relr_row.calls ((l.drop q).length + 1) A1 (c0 - q) (l.drop q) frm n1 (tk : Int) wr HC1.out.1 (by rw [HC1.out.2]; have := HCC.out; omega) (by rw [row_f (l.drop q) (HW.out.drop q) frm hf0 hf1 (by rw [HC1.out.2]; omega) _ (Nat.lt_succ_self _), hn1, htk])
              rw [HC1.out.2] at this
              exact this.mono fun _ _ h => ⟨h.1, h.2.out⟩⟩
            have HN1 := Aside0.mk hn1
            have HTK := Aside0.mk htk
            clear hn1 htk HC1
            by_cases ht0 : tk = 0
            · subst ht0
              have HE4 : Aside0 (r1 = cs ++ flat (encW kq (l.drop q))) := ⟨by
                have := HE3.out
                rw [encR, if_pos HTK.out] at this
                exact this⟩
              go_wp2_with (go_at_call 36; refine HROW.out.mono ?_; rintro e w3 ⟨rfl, m, rfl⟩)
              go_roundw
              case rel => exact ⟨q, kq, cs, v', rfl, hql, ⟨by have := HKQ.out; omega⟩, HV2.out.drewN m, pw_below_drewN HB2.out m, hcl, HE4⟩
              case measure => simp [intOf]; omega
            · have HE4 : Aside0 (r1 = (cs ++ putBytes n1 8) ++ flat (encR kq (l.drop (q + tk)) (frm + 504))) := ⟨by
                have := HE3.out
                rw [encR, HTK.out, if_neg ht0, HN1.out, List.drop_drop] at this
                rw [this]
                simp [flat]⟩
              have htb : ((tk : Int) == 0) = false := by simp; omega
              have hq1 : q < l.length := by omega
              have hfo : frm + 504 < 18446744073709551616 := by
                have hd := List.drop_eq_getElem_cons hq1
                have h1 := HTK.out
                rw [hd] at h1
                have h2 := rowS_first _ _ _ _ (show 0 < (rowS frm (l[q] :: l.drop (q + 1)) 1).2 by omega)
                have h3 := (HOKA.out q hq1).2.1
                rw [rd_nat l q hq1] at h3
                have h4 := h2.1
                omega
              go_wp2_with (first | (go_at_call 36; refine HROW.out.mono ?_; rintro e w3 ⟨rfl, m, rfl⟩) | (go_at_call 35; refine (put64_calls w.heap.size w.heap.size v' cs n1 _ (HV2.out.drewN m) (pw_below_drewN HB2.out m).size (by omega) hn10 hn11).mono ?_; rintro e w4 ⟨⟨u2, rfl⟩, v4, hv4, hs4⟩; have HV4 := Aside0.mk hv4; have HB4 := Aside0.mk ((pw_below_drewN HB2.out m).trans (hs4.below (HV2.out.drewN m) (pw_below_drewN HB2.out m).size)); clear hv4 hs4))
              go_roundw
              case rel => exact ⟨q + tk, kq, frm + 504, _, v4, by go_num, rfl, by omega, by omega, by omega, by omega, ⟨by have := HKQ.out; omega⟩, HV4.out, HB4.out, by rw [List.length_append, putBytes_len]; omega, HE4⟩
              case measure => simp [intOf]; omega
        · obtain rfl : j = l.length := by omega
          have HE5 : Aside0 (bs = r1) := ⟨by
            have := HE.out
            rw [List.drop_length] at this
            rw [this]
            obtain ⟨kf, rfl⟩ : ∃ m, kf = m + 1 := ⟨kf - 1, by have := HKF.out; omega⟩
            simp [encW, flat]⟩
          go_wp2_with (go_at_call 37; refine (bytes_calls w.heap.size w.heap.size v bs wr HV.out HB.out.size (by omega)).mono ?_; rintro e w3 ⟨u, rfl, ho, hb⟩)
          go_ret2
          refine ⟨_, rfl, ?_, ?_⟩
          · show w3.ownsRow w.heap.size 5 1 u r1.length (nums .u8 r1)
            rw [← HE5.out]
            exact own_lower HB.out.size ho
          · exact below_then HB.out HB.out.size hb
set_option maxRecDepth 100000 in
set_option maxHeartbeats 2000000 in
theorem encode_no (A0 : Option Addr) (c0 : Nat) (l : List Int) (w : World) (hlen : l.length ≤ 9223372036854775807) (h : 512 < l.length) :
    Calls Try.prog 25 #[.slice A0 l.length c0] w fun e w' => ∃ v0_ : Value, e = .returned (.tuple #[v0_, .int .i64 130]) ∧ w'.ownsRow w.heap.size 5 1 v0_ 0 [] ∧ Below w.heap.size w w' := by
  have h3 : (512 : Int) < (l.length : Int) := by omega
  go_enter Try.func25, Try.ntmps25
  go_wp2
  go_ret2
  exact ⟨_, rfl, World.ownsRow_nil _ _ _ _, Below.refl _ _⟩

theorem encode_calls (A0 : Option Addr) (c0 : Nat) (l0 : List Int) (r1 : List Int) (r2 : Int) (w : World) (hr0 : Kd.C (Kd.int .u64) w A0 l0.length l0) (hc0 : l0.length ≤ c0) (hw : Words l0) (h : RelrEncPure.encode l0 = (r1, r2)) :
    Calls Try.prog 25 #[.slice A0 l0.length c0] w fun e w' => ∃ v0_ : Value, e = .returned (.tuple #[v0_, .int .i64 r2]) ∧ Kd.R (Kd.int .u8) 5 w' w.heap.size (fun _ => True) v0_ r1 ∧ Below w.heap.size w w' := by
  have hR : ∀ {v : Value} {w' : World} {xs : List Int}, w'.ownsRow w.heap.size 5 1 v xs.length (nums .u8 xs) → Kd.R (Kd.int .u8) 5 w' w.heap.size (fun _ => True) v xs := fun ho =>
    Kd.R_of_own (enc := Value.int .u8) (h1 := fun _ => rfl) ho (fun _ _ => trivial)
  by_cases hl : l0.length > 512
  · have hd : RelrEncPure.encode l0 = ([], 130) := by unfold RelrEncPure.encode; rw [if_pos hl]
    rw [hd] at h
    obtain ⟨rfl, rfl⟩ := Prod.mk.inj h
    refine (encode_no A0 c0 l0 w hr0.2.1 hl).mono ?_
    rintro e w' ⟨v, he, ho, hb⟩
    exact ⟨v, he, hR ho, hb⟩
  · refine (encode_in A0 c0 l0 w hr0 hc0 hw (by omega) (r1, r2) h).mono ?_
    rintro e w' ⟨v, he, ho, hb⟩
    exact ⟨v, he, hR ho, hb⟩
end Go.Proofs.Ytpddjphanhkkfaa.RelrEncode
