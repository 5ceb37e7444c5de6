/- What the printed functions of zip say, by the plain ones. No condition beyond those of each lemma. -/
import Derived.Test.YtmpahimeljbliaaPx2
import Derived.Test.YtmpahimeljbliaaZipNumP
namespace Go.Proofs.Ytmpahimeljbliaa.ZipPureA
open Go.RowKit Go.Proofs.YtmpahimeljbliaaW.PrintWords Go.Proofs.YtmpahimeljbliaaW.PrintMore Go.Proofs.Ytmpahimeljbliaa.P
open ZipPure (leVal U Bytes numAt Ent entAt longAt listFrom listOf endFrom endAt endMarks num_lt num_nonneg placeOf findOf firstNamed)
open ZipNumP (w64 w64i number2 number4 inside_at)
open ZipWalk (listRes eOf RowE)

theorem bytes_of_wf {l : List Int} (h : ∀ x ∈ l, (Lit.int .u8 x).wf = true) : Bytes l := fun x hx => by
  have := h x hx
  have h2 : IntKind.u8.min = 0 := by decide
  have h3 : IntKind.u8.max = 255 := by decide
  simp [Lit.wf, h2, h3] at this
  omega
theorem w64n (z : Int) (a : Nat) (h : z = (a : Int)) (h1 : a < 9223372036854775807) : IntKind.u64.wrap z = (a : Int) := by rw [h]; exact w64 _ (by omega) (by omega)
theorem num2z (b : List Int) (hb : Bytes b) (hlen : b.length ≤ 4611686018427387904) (z : Int) (a k : Nat) (hz : z = (a : Int)) (ha : a < 9223372036854775807) (hk : 8 < k) : zip_number.f k b (IntKind.u64.wrap z) 2 = some (numAt b a 2) := by
  rw [w64n z a hz ha]; exact number2 b hb a hlen ha k hk
theorem num4z (b : List Int) (hb : Bytes b) (hlen : b.length ≤ 4611686018427387904) (z : Int) (a k : Nat) (hz : z = (a : Int)) (ha : a < 9223372036854775807) (hk : 8 < k) : zip_number.f k b z 4 = some (numAt b a 4) := by
  rw [hz]; exact number4 b hb a hlen ha k hk
theorem num2b (b : List Int) (hb : Bytes b) (a : Nat) : 0 ≤ numAt b a 2 ∧ numAt b a 2 < 65536 := by
  have := num_lt b hb a 2
  have h2 := num_nonneg b hb a 2
  exact ⟨h2, by omega⟩
theorem num4b (b : List Int) (hb : Bytes b) (a : Nat) : 0 ≤ numAt b a 4 ∧ numAt b a 4 < 4294967296 := by
  have := num_lt b hb a 4
  have h2 := num_nonneg b hb a 4
  exact ⟨h2, by omega⟩
theorem bytes_part {b : List Int} (hb : Bytes b) (a n : Nat) : Bytes ((b.drop a).take n) := fun x hx => hb x (List.mem_of_mem_drop (List.mem_of_mem_take hx))
theorem u8_back (x : Int) (h0 : 0 ≤ x) (h1 : x ≤ 255) : ((UInt8.ofNat x.toNat).toNat : Int) = x := by
  have : (UInt8.ofNat x.toNat).toNat = x.toNat := by
    rw [UInt8.toNat_ofNat']
    omega
  omega
theorem str_back {xs : List Int} (h : Bytes xs) : (strOfNums xs).toList.map (fun b => (b.toNat : Int)) = xs := by
  rw [Lib.toList_data, strOfNums_data, List.map_map]
  have : ∀ x ∈ xs, (((fun b : UInt8 => (b.toNat : Int)) ∘ fun n : Int => UInt8.ofNat n.toNat) x) = x := fun x hx => u8_back x (h x hx).1 (h x hx).2
  rw [List.map_congr_left this]
  simp
theorem str_eq {xs ys : List Int} (hx : Bytes xs) (hy : Bytes ys) : (strOfNums xs).toList = (strOfNums ys).toList ↔ xs = ys := by
  constructor
  · intro h
    rw [← str_back hx, ← str_back hy, h]
  · rintro rfl
    rfl
theorem str_name {xs : List Int} (hx : Bytes xs) (s : ByteArray) : (strOfNums xs).toList = s.toList ↔ xs = bytesOf s := by
  constructor
  · intro h
    rw [← str_back hx, h, Lib.toList_data]
    rfl
  · rintro rfl
    rw [Lib.toList_data, Lib.toList_data, strOfNums_data]
    simp only [bytesOf, List.map_map]
    have : ∀ x ∈ s.data.toList, (((fun n : Int => UInt8.ofNat n.toNat) ∘ fun b : UInt8 => (b.toNat : Int)) x) = x := fun x _ => by simp
    rw [List.map_congr_left this]
    simp
theorem ent_facts (b : List Int) (hb : Bytes b) (x : Ent) (q : Nat) (h : x = entAt b q) : Bytes x.name ∧ (0 ≤ x.at_ ∧ x.at_ < 4294967296) ∧ (0 ≤ x.size ∧ x.size < 4294967296) := by
  subst h
  exact ⟨bytes_part hb _ _, num4b b hb _, num4b b hb _⟩
theorem place_j1 (b : List Int) (x : Ent) (c a : Nat) (long extra : Nat) (k : Nat) (hk : 2 < k) (ha : x.at_ = (a : Int)) (ha2 : a < 4294967296) (hl2 : long < 65536) (he2 : extra < 65536) (hs : 0 ≤ x.size ∧ x.size < 4294967296) (hc : c ≤ 4611686018427387904) (nm : ByteArray) (bad : Bool) :
    zip_place.j1 k c long extra bad nm x.method x.size x.stored x.at_ = some (if bad = true then (0, 0, 70) else if ¬((a + 30 + long + extra : Nat) : Int) + x.size ≤ c then (0, 0, 70) else if (a + 30 + long + extra) % 256 ≠ 0 then (0, 0, 73) else (((a + 30 + long + extra : Nat) : Int), x.size, 0)) := by
  obtain ⟨k, rfl⟩ : ∃ m, k = m + 1 := ⟨k - 1, by omega⟩
  have e1 : IntKind.u64.wrap (IntKind.u64.wrap (IntKind.u64.wrap (x.at_ + 30) + (long : Int)) + (extra : Int)) = ((a + 30 + long + extra : Nat) : Int) := by
    rw [w64n (x.at_ + 30) (a + 30) (by omega) (by omega), w64n (((a + 30 : Nat) : Int) + (long : Int)) (a + 30 + long) (by omega) (by omega), w64n (((a + 30 + long : Nat) : Int) + (extra : Int)) (a + 30 + long + extra) (by omega) (by omega)]
  rw [zip_place.j1, e1]
  cases bad with
  | true => rfl
  | false =>
    simp only [Bool.false_eq_true, if_false]
    rw [inside_at _ _ _ (by omega) (by omega) hs.1 (by omega) (by omega), Option.bind_some]
    generalize a + 30 + long + extra = n
    have ht : Int.tmod (n : Int) 256 = ((n % 256 : Nat) : Int) := by rw [Int.tmod_eq_emod_of_nonneg (by omega)]; omega
    rw [ht]
    by_cases h1 : (n : Int) + x.size ≤ (c : Int)
    · by_cases h2 : n % 256 = 0
      · simp [h1, h2]
      · have h3 : ¬ ((n % 256 : Nat) : Int) = 0 := by omega
        rw [if_pos (decide_eq_true h1), if_neg h3]
        simp [h1, h2]
    · simp [h1]
theorem place_f (b : List Int) (hb : Bytes b) (hlen : b.length ≤ 262144) (x : Ent) (q : Nat) (hx : x = entAt b q) (c : Nat) (hc : c ≤ b.length) (k : Nat) (hk : 20 < k) :
    zip_place.f k b (strOfNums x.name) x.method x.size x.stored x.at_ (c : Int) = some ((placeOf b x c).1.1, (placeOf b x c).1.2, (placeOf b x c).2) := by
  obtain ⟨hnm, ⟨ha0, ha1⟩, hs⟩ := ent_facts b hb x q hx
  obtain ⟨a, ha⟩ := Int.eq_ofNat_of_zero_le ha0
  have hta : x.at_.toNat = a := by omega
  obtain ⟨k, rfl⟩ : ∃ m, k = m + 1 := ⟨k - 1, by omega⟩
  unfold zip_place.f placeOf
  simp only [hta]
  by_cases hm : x.method = 0
  · rw [if_pos hm, if_neg (by simpa using hm), inside_at _ 30 _ (by omega) (by omega) (by omega) (by omega) (by omega), Option.bind_some]
    by_cases hin : a + 30 ≤ c
    · rw [if_pos (decide_eq_true (by omega)), num4z b hb (by omega) _ a (k + 1) ha (by omega) (by omega), Option.bind_some, zip_place.j0]
      by_cases hmk : numAt b a 4 = 67324752
      · obtain ⟨long, hl⟩ := Int.eq_ofNat_of_zero_le (num2b b hb (a + 26)).1
        obtain ⟨extra, he⟩ := Int.eq_ofNat_of_zero_le (num2b b hb (a + 28)).1
        have hl2 := (num2b b hb (a + 26)).2
        have he2 := (num2b b hb (a + 28)).2
        rw [if_neg (by simp [hmk]), if_neg (fun h => h.elim (fun h => h hin) (fun h => h hmk)), num2z b hb (by omega) _ (a + 26) k (by omega) (by omega) (by omega), Option.bind_some, num2z b hb (by omega) _ (a + 28) k (by omega) (by omega) (by omega), Option.bind_some, hl, he]
        rw [hl] at hl2
        rw [he] at he2
        simp only [Int.toNat_natCast]
        rw [w64n (x.at_ + 30) (a + 30) (by omega) (by omega), le_Part.f, if_pos (by omega), Option.bind_some, ZipPart.partOf]
        have J := fun bad => place_j1 b x c a long extra k (by omega) ha (by omega) (by omega) (by omega) hs (by omega) (strOfNums x.name) bad
        by_cases hfit : a + 30 + long ≤ b.length
        · rw [if_pos (show ((a + 30 : Nat) : Int) + (long : Int) ≤ (b.length : Int) by omega)]
          simp only [if_true, Int.toNat_natCast]
          by_cases hnn : (b.drop (a + 30)).take long = x.name
          · rw [if_pos ((str_eq (bytes_part hb _ _) hnm).2 hnn), num2z b hb (by omega) _ (a + 8) k (by omega) (by omega) (by omega), Option.bind_some]
            by_cases h8 : numAt b (a + 8) 2 = 0
            · rw [if_pos h8, J]
              by_cases hst : x.stored = x.size
              · have hno : ¬ (¬a + 30 + long ≤ b.length ∨ (b.drop (a + 30)).take long ≠ x.name ∨ numAt b (a + 8) 2 ≠ 0 ∨ x.stored ≠ x.size) := fun h => h.elim (fun h => h hfit) (fun h => h.elim (fun h => h hnn) (fun h => h.elim (fun h => h h8) (fun h => h hst)))
                have hbad : ¬ (x.stored != x.size) = true := by simp [hst]
                rw [if_neg hbad, if_neg hno]
                split <;> (try split) <;> rfl
              · rw [if_pos (by simpa using hst), if_pos (.inr (.inr (.inr hst)))]
            · rw [if_neg h8, J, if_pos rfl, if_pos (.inr (.inr (.inl h8)))]
          · rw [if_neg (fun h => hnn ((str_eq (bytes_part hb _ _) hnm).1 h)), J, if_pos rfl, if_pos (.inr (.inl hnn))]
        · rw [if_neg (show ¬ ((a + 30 : Nat) : Int) + (long : Int) ≤ (b.length : Int) by omega)]
          simp only [if_neg (show ¬ (20 : Int) = 0 by decide)]
          rw [J, if_pos rfl, if_pos (.inl hfit)]
      · rw [if_pos (by simp [hmk]), if_pos (.inr hmk)]
    · rw [if_neg (by simp; omega), zip_place.j0, if_pos rfl, if_pos (.inl hin)]
  · rw [if_neg hm, if_pos hm]
/-! ### the lists -/
theorem len_from (b : List Int) : ∀ (k a left : Nat) (l : List Ent), listFrom b k a left = some l → l.length = k
  | 0, a, left, l, h => by
    rw [listFrom] at h
    split at h
    · cases h; rfl
    · cases h
  | k + 1, a, left, l, h => by
    rw [listFrom] at h
    split at h
    · cases h
    split at h
    · cases h
    obtain ⟨r, hr, rfl⟩ := Option.map_eq_some_iff.1 h
    rw [List.length_cons, len_from b k _ _ r hr]
theorem list_len (b : List Int) (hb : Bytes b) (l : List Ent) (c : Nat) (h : listOf b = some (l, c)) : l.length ≤ 65536 ∧ b.length ≤ 262144 := by
  unfold listOf at h
  split at h
  · cases h
  · rename_i hle
    split at h
    · cases h
    · rename_i e he
      split at h
      · obtain ⟨r, hr, hq⟩ := Option.map_eq_some_iff.1 h
        cases hq
        have hle2 := ZipPure.end_le b _ _ e he
        have := len_from b _ _ _ _ hr
        have h2 := (ZipPure.U_bound b hb (e + 10) 2 (by omega)).2
        rw [show (256 : Int) ^ 2 = 65536 from rfl] at h2
        exact ⟨by omega, by omega⟩
      · cases h
theorem list_some (b : List Int) (hb : Bytes b) (hlen : b.length ≤ 140737488355328) : zip_list.f b = some ((listRes b).1.map zip_list.conv, (listRes b).2) := by
  unfold zip_list.f
  rw [if_pos ⟨hb, hlen⟩]
theorem ref_some (b : List Int) (hb : Bytes b) (hlen : b.length ≤ 140737488355328) : messuageref07_List.f b = some ((listRes b).1.map messuageref07_List.conv, (listRes b).2) := by
  unfold messuageref07_List.f
  rw [if_pos ⟨hb, hlen⟩]
theorem res_len (b : List Int) (hb : Bytes b) : (listRes b).1.length ≤ 65536 := by
  unfold listRes
  cases h : listOf b with
  | none => simp
  | some p =>
    obtain ⟨l, c⟩ := p
    simp [(list_len b hb l c h).1]
theorem rd_map (rows : List RowE) (j : Nat) (h : j < rows.length) : rd_T32 (rows.map zip_list.conv) (j : Int) = zip_list.conv rows[j] := by
  unfold rd_T32
  rw [Int.toNat_natCast, List.getD_eq_getElem?_getD, List.getElem?_map, List.getElem?_eq_getElem h]
  rfl
theorem rd_map33 (rows : List RowE) (j : Nat) (h : j < rows.length) : rd_T33 (rows.map messuageref07_List.conv) (j : Int) = messuageref07_List.conv rows[j] := by
  unfold rd_T33
  rw [Int.toNat_natCast, List.getD_eq_getElem?_getD, List.getElem?_map, List.getElem?_eq_getElem h]
  rfl
/-- The entries that are left, and the loop of zip.Find. -/
theorem find_l0 (b : List Int) (hb : Bytes b) (hlen : b.length ≤ 262144) (s : ByteArray) (c : Nat) (hc : c ≤ b.length) (l : List Ent) (hl : ∀ x ∈ l, ∃ q, x = entAt b q) (h6 : l.length ≤ 65536) : ∀ (d j k : Nat), j + d = l.length → d + 30 < k →
    zip_Find.l0 k b s c ((l.map eOf).map zip_list.conv) (((l.map eOf).map zip_list.conv).length : Int) j = some (match firstNamed (bytesOf s) (l.drop j) with | none => (0, 0, 71) | some x => ((placeOf b x c).1.1, (placeOf b x c).1.2, (placeOf b x c).2))
  | 0, j, k, hj, hk => by
    obtain ⟨k, rfl⟩ : ∃ m, k = m + 1 := ⟨k - 1, by omega⟩
    rw [zip_Find.l0, if_neg (by simp; omega), List.drop_of_length_le (by omega)]
    rfl
  | d + 1, j, k, hj, hk => by
    obtain ⟨k, rfl⟩ : ∃ m, k = m + 1 := ⟨k - 1, by omega⟩
    have hjl : j < l.length := by omega
    have hjr : j < (l.map eOf).length := by simpa using hjl
    have ih := find_l0 b hb hlen s c hc l hl h6 d (j + 1) k (by omega) (by omega)
    obtain ⟨q, hq⟩ := hl _ (List.getElem_mem hjl)
    have hnm := (ent_facts b hb _ q hq).1
    have hp := place_f b hb hlen l[j] q hq c hc k (by omega)
    have hw : wrap64 ((j : Int) + 1) = ((j + 1 : Nat) : Int) := by rw [w64i _ (by omega) (by omega)]; omega
    have c1 : (j : Int) < (((l.map eOf).map zip_list.conv).length : Int) := by simp; omega
    rw [zip_Find.l0, if_pos c1, if_pos (by omega), if_pos c1, rd_map _ j hjr, List.getElem_map, List.drop_eq_getElem_cons hjl, firstNamed, hw]
    show (if (strOfNums l[j].name).toList = s.toList then (zip_place.f k b (strOfNums l[j].name) l[j].method l[j].size l[j].stored l[j].at_ (c : Int)).bind _ else _) = _
    by_cases hn : l[j].name = bytesOf s
    · rw [if_pos ((str_name hnm s).2 hn), if_pos hn, hp]
      rfl
    · rw [if_neg (fun h => hn ((str_name hnm s).1 h)), if_neg hn, ih]
theorem find_f (b : List Int) (hb : Bytes b) (hlen : b.length ≤ 140737488355328) (s : ByteArray) (k : Nat) (hk : 65600 < k) :
    zip_Find.f k b s = some ((findOf b (bytesOf s)).1.1, (findOf b (bytesOf s)).1.2, (findOf b (bytesOf s)).2) := by
  unfold zip_Find.f findOf
  rw [list_some b hb hlen, Option.bind_some]
  unfold listRes
  cases h : listOf b with
  | none => rfl
  | some p =>
    obtain ⟨l, c⟩ := p
    have h1 := list_len b hb l c h
    have h2 := ZipPure.list_in b l c hb h
    have := find_l0 b hb h1.2 s c h2.1 l h2.2 h1.1 l.length 0 k (by omega) (by omega)
    rw [List.drop_zero] at this
    simp only [if_true]
    rw [show ((0 : Nat) : Int) = 0 from rfl] at this
    rw [this]
    cases firstNamed (bytesOf s) l <;> rfl
end Go.Proofs.Ytmpahimeljbliaa.ZipPureA
