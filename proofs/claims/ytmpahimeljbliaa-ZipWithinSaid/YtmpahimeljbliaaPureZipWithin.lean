/- What is found in any bytes lies in them: the plain statement. No condition. -/
import Derived.Test.YtmpahimeljbliaaPx7
import Derived.Test.YtmpahimeljbliaaZipPureA
namespace Go.Proofs.Ytmpahimeljbliaa.Pure
open Go.RowKit Go.Proofs.Ytmpahimeljbliaa.P Go.Proofs.YtmpahimeljbliaaW.PrintWords Go.Proofs.YtmpahimeljbliaaW.PrintLast
open ZipPureA ZipNumP
open ZipPure (Ent entAt listOf findOf firstNamed placeOf)

/-- The first entry of that name, as the law looks at it. -/
theorem within_l0 (b : List Int) (hb : ZipPure.Bytes b) (s : ByteArray) (at_ size : Int) (x : Ent) (hx : x.method = 0 ∧ x.size = size ∧ x.at_ < at_) (l : List Ent) (hl : ∀ x ∈ l, ∃ q, x = entAt b q) (h6 : l.length ≤ 65536) : ∀ (d j k : Nat), j + d = l.length → d + 2 < k → firstNamed (bytesOf s) (l.drop j) = some x →
    messuagelaw07_ZipWithin.l0 k s at_ size ((l.map ZipWalk.eOf).map zip_list.conv) j = some true
  | 0, j, k, hj, hk, hf => by
    rw [List.drop_of_length_le (by omega)] at hf
    cases hf
  | d + 1, j, k, hj, hk, hf => by
    obtain ⟨k, rfl⟩ : ∃ m, k = m + 1 := ⟨k - 1, by omega⟩
    have hjl : j < l.length := by omega
    have hjr : j < (l.map ZipWalk.eOf).length := by simpa using hjl
    obtain ⟨q, hq⟩ := hl _ (List.getElem_mem hjl)
    have hnm := (ent_facts b hb _ q hq).1
    have c1 : (j : Int) < (((l.map ZipWalk.eOf).map zip_list.conv).length : Int) := by simp; omega
    rw [List.drop_eq_getElem_cons hjl, firstNamed] at hf
    have ih := within_l0 b hb s at_ size x hx l hl h6 d (j + 1) k (by omega) (by omega)
    have c0 : (0 : Int) ≤ (j : Int) := by omega
    have hw : wrap64 ((j : Int) + 1) = ((j + 1 : Nat) : Int) := by rw [w64i _ (by omega) (by omega)]; omega
    rw [messuagelaw07_ZipWithin.l0, if_pos c1, if_pos c0, rd_map _ j hjr, List.getElem_map, hw]
    show (if (strOfNums l[j].name).toList = s.toList then (if l[j].method = 0 then (if l[j].size = size then (if l[j].at_ < at_ then _ else _) else _) else _) else _) = _
    by_cases hn : l[j].name = bytesOf s
    · rw [if_pos hn] at hf
      obtain rfl := Option.some.inj hf
      rw [if_pos ((str_name hnm s).2 hn), if_pos hx.1, if_pos hx.2.1, if_pos hx.2.2]
      rfl
    · rw [if_neg hn] at hf
      rw [if_neg (fun h => hn ((str_name hnm s).1 h))]
      exact ih hf
theorem ZipWithin : messuagelaw07_ZipWithin.Pure := by
  intro b s _ h1 hw _
  have hb := bytes_of_wf hw
  unfold messuagelaw07_ZipWithin.f
  by_cases c : (b.length : Int) > 263144
  · exact ⟨0, by rw [if_pos c]⟩
  refine ⟨70000, ?_⟩
  rw [if_neg c, find_f b hb (by omega) s _ (by omega), Option.bind_some, zip_List.f, list_some b hb (by omega), Option.bind_some, Option.bind_some]
  unfold ZipWalk.listRes
  by_cases he : (findOf b (bytesOf s)).2 = 0
  · rw [if_pos he]
    cases h : listOf b with
    | none =>
      unfold findOf at he
      rw [h] at he
      simp at he
    | some p =>
      obtain ⟨l, cen⟩ := p
      have hin := ZipPure.list_in b l cen hb h
      have hlen := list_len b hb l cen h
      have hfd : findOf b (bytesOf s) = match firstNamed (bytesOf s) l with | none => ((0, 0), 71) | some x => placeOf b x cen := by
        unfold findOf
        rw [h]
        rfl
      cases hx : firstNamed (bytesOf s) l with
      | none =>
        rw [hfd, hx] at he
        simp at he
      | some x =>
        rw [hx] at hfd
        have hm := ZipPure.first_mem _ _ _ hx
        obtain ⟨q, hq⟩ := hin.2 x hm.1
        obtain ⟨_, hat, hsz⟩ := ent_facts b hb x q hq
        have hp : placeOf b x cen = (((placeOf b x cen).1.1, (placeOf b x cen).1.2), 0) := by
          rw [show placeOf b x cen = findOf b (bytesOf s) from hfd.symm]
          exact Prod.ext (Prod.ext rfl rfl) he
        have hpl := ZipPure.place_in b x cen _ _ hp hat.1
        simp only [show findOf b (bytesOf s) = placeOf b x cen from hfd]
        generalize placeOf b x cen = r at hpl hp
        obtain ⟨⟨A, S⟩, E⟩ := r
        simp only [] at hpl
        have e1 : Int.tmod A 256 = 0 := by rw [Int.tmod_eq_emod_of_nonneg (by omega)]; omega
        have e2 : IntKind.u64.wrap (b.length : Int) = (b.length : Int) := w64 _ (by omega) (by omega)
        have e3 : IntKind.u64.wrap ((b.length : Int) - A) = (b.length : Int) - A := w64 _ (by omega) (by omega)
        have c1 : ¬ A > (b.length : Int) := by omega
        have c2 : ¬ S > (b.length : Int) - A := by omega
        simp only [if_true, e1, e2, e3]
        rw [if_neg c1, decide_eq_false c2, messuagelaw07_ZipWithin.j0, if_neg (by decide)]
        exact within_l0 b hb s A S x ⟨hpl.1, hpl.2.1, hpl.2.2.1⟩ l hin.2 hlen.1 l.length 0 _ (by omega) (by omega) (by rw [List.drop_zero]; exact hx)
  · have h0 := ZipPure.found_none b (bytesOf s) he
    rw [if_neg he, h0, if_pos rfl, if_pos rfl]
    cases h : listOf b with
    | some p => rfl
    | none =>
      have : (findOf b (bytesOf s)).2 = 70 := by unfold findOf; rw [h]
      simp only [this, if_true]
      rfl
end Go.Proofs.Ytmpahimeljbliaa.Pure
