/- Archives, as plain functions: numbers of so many bytes at a place, what lies at an archive's end, its list, its entries, and the archive that is made of files. No condition. -/
import Derived.KernelRfl
namespace Go.Proofs.Ytmpahimeljbliaa.ZipPure

/-- The number of bytes, the lowest first. -/
def leVal : List Int → Int
  | [] => 0
  | b :: bs => b + 256 * leVal bs
theorem leVal_snoc (bs : List Int) (b : Int) : leVal (bs ++ [b]) = leVal bs + 256 ^ bs.length * b := by
  induction bs with
  | nil => simp [leVal]
  | cons c cs ih =>
    rw [List.cons_append, leVal, leVal, ih, List.length_cons, Int.pow_succ]
    grind
def Bytes (l : List Int) : Prop := ∀ x ∈ l, 0 ≤ x ∧ x ≤ 255
theorem leVal_bound (bs : List Int) (h : Bytes bs) : 0 ≤ leVal bs ∧ leVal bs < 256 ^ bs.length := by
  induction bs with
  | nil => simp [leVal]
  | cons c cs ih =>
    have h1 := ih (fun x hx => h x (List.mem_cons_of_mem _ hx))
    have h2 := h c (List.mem_cons_self ..)
    rw [leVal, List.length_cons, Int.pow_succ]
    omega
/-- The number of so many bytes at a place. -/
def U (l : List Int) (a n : Nat) : Int := leVal ((l.drop a).take n)
theorem U_bound (l : List Int) (hl : Bytes l) (a n : Nat) (h : a + n ≤ l.length) : 0 ≤ U l a n ∧ U l a n < 256 ^ n := by
  have := leVal_bound ((l.drop a).take n) (fun x hx => hl x (List.mem_of_mem_drop (List.mem_of_mem_take hx)))
  rw [List.length_take, List.length_drop, Nat.min_eq_left (by omega)] at this
  exact this
/-- A number's lowest bytes. -/
def putBytes : Int → Nat → List Int
  | _, 0 => []
  | n, k + 1 => n % 256 :: putBytes (n / 256) k
theorem putBytes_len : ∀ (k : Nat) (n : Int), (putBytes n k).length = k
  | 0, _ => rfl
  | k + 1, n => by rw [putBytes, List.length_cons, putBytes_len k]
theorem leVal_put : ∀ (k : Nat) (n : Int), 0 ≤ n → n < 256 ^ k → leVal (putBytes n k) = n
  | 0, n, h0, h1 => by
    rw [Int.pow_zero] at h1
    have : n = 0 := by omega
    rw [this]
    rfl
  | k + 1, n, h0, h1 => by
    rw [Int.pow_succ] at h1
    rw [putBytes, leVal, leVal_put k (n / 256) (by omega) (Int.ediv_lt_of_lt_mul (by decide) h1)]
    omega
theorem putBytes_bytes : ∀ (k : Nat) (n : Int), Bytes (putBytes n k)
  | 0, _ => fun x hx => absurd hx (by simp [putBytes])
  | k + 1, n => fun x hx => by
    rw [putBytes] at hx
    rcases List.mem_cons.1 hx with rfl | h
    · omega
    · exact putBytes_bytes k _ x h
/-- What is read lies within the first part. -/
theorem U_left (p q : List Int) (a n : Nat) (h : a + n ≤ p.length) : U (p ++ q) a n = U p a n := by
  unfold U
  rw [List.drop_append_of_le_length (by omega), List.take_append_of_le_length (by rw [List.length_drop]; omega)]
/-- What is read lies behind the first part. -/
theorem U_right (p q : List Int) (a n : Nat) (h : p.length ≤ a) : U (p ++ q) a n = U q (a - p.length) n := by
  unfold U
  rw [List.drop_append, List.drop_of_length_le h, List.nil_append]
theorem U_put (n : Int) (k : Nat) (h0 : 0 ≤ n) (h1 : n < 256 ^ k) (q : List Int) : U (putBytes n k ++ q) 0 k = n := by
  rw [U_left _ _ _ _ (by rw [putBytes_len]; omega)]
  unfold U
  rw [List.drop_zero, List.take_of_length_le (by rw [putBytes_len]; exact Nat.le_refl _), leVal_put k n h0 h1]

/-- Numbers of so many bytes, one behind the other. -/
def rowOf : List (Int × Nat) → List Int
  | [] => []
  | (n, k) :: r => putBytes n k ++ rowOf r
def rowLen : List (Int × Nat) → Nat
  | [] => 0
  | (_, k) :: r => k + rowLen r
theorem rowOf_len : ∀ r, (rowOf r).length = rowLen r
  | [] => rfl
  | (n, k) :: r => by rw [rowOf, rowLen, List.length_append, putBytes_len, rowOf_len r]
def rowOk : List (Int × Nat) → Prop
  | [] => True
  | (n, k) :: r => (0 ≤ n ∧ n < 256 ^ k) ∧ rowOk r
/-- Where the number of that place in the row begins. -/
def rowAt : List (Int × Nat) → Nat → Nat
  | [], _ => 0
  | _ :: _, 0 => 0
  | (_, k) :: r, i + 1 => k + rowAt r i
theorem U_row : ∀ (r : List (Int × Nat)) (i : Nat) (n : Int) (k : Nat) (q : List Int), rowOk r → r[i]? = some (n, k) → U (rowOf r ++ q) (rowAt r i) k = n
  | [], i, n, k, q, _, h => by simp at h
  | (m, j) :: r, 0, n, k, q, ho, h => by
    obtain ⟨rfl, rfl⟩ : m = n ∧ j = k := by simpa using h
    rw [rowOf, rowAt, List.append_assoc]
    exact U_put m j ho.1.1 ho.1.2 _
  | (m, j) :: r, i + 1, n, k, q, ho, h => by
    rw [rowOf, rowAt, List.append_assoc, U_right _ _ _ _ (by rw [putBytes_len]; omega), putBytes_len, Nat.add_sub_cancel_left]
    exact U_row r i n k q ho.2 (by simpa using h)
theorem U_row_at (p : List Int) (r : List (Int × Nat)) (i : Nat) (n : Int) (k a : Nat) (q : List Int) (ho : rowOk r) (h : r[i]? = some (n, k)) (ha : a = p.length + rowAt r i) : U (p ++ (rowOf r ++ q)) a k = n := by
  rw [ha, U_right _ _ _ _ (by omega), Nat.add_sub_cancel_left]
  exact U_row r i n k q ho h

/-- A file: its name and its bytes. -/
abbrev F := List Int × List Int
/-- How many bytes 0 stand ahead of a file's bytes. -/
def padOf (at_ long : Nat) : Nat := (256 - (at_ + 30 + long) % 256) % 256
def localRow (f : F) (pad : Nat) : List (Int × Nat) := [(67324752, 4), (10, 2), (0, 2), (0, 2), (0, 2), (0, 2), (0, 4), (f.2.length, 4), (f.2.length, 4), (f.1.length, 2), (pad, 2)]
def localOf (f : F) (pad : Nat) : List Int := rowOf (localRow f pad) ++ (f.1 ++ (List.replicate pad 0 ++ f.2))
def centralRow (f : F) (at_ : Nat) : List (Int × Nat) := [(33639248, 4), (10, 2), (10, 2), (0, 2), (0, 2), (0, 2), (0, 2), (0, 4), (f.2.length, 4), (f.2.length, 4), (f.1.length, 2), (0, 2), (0, 2), (0, 2), (0, 2), (0, 4), (at_, 4)]
def centralOf (f : F) (at_ : Nat) : List Int := rowOf (centralRow f at_) ++ f.1
/-- What lies ahead of the list, and the list, behind so many bytes; or the error. -/
def partsOf : List F → List Int → List Int → (List Int × List Int) × Int
  | [], b, c => ((b, c), 0)
  | f :: r, b, c =>
    if f.1.length = 0 ∨ f.1.length > 256 then (([], []), 40)
    else if f.2.length > 262144 then (([], []), 67)
    else
      let b' := b ++ localOf f (padOf b.length f.1.length)
      let c' := c ++ centralOf f b.length
      if b'.length + c'.length + 22 > 262144 then (([], []), 67) else partsOf r b' c'
def endRow (many clen blen : Nat) : List (Int × Nat) := [(101010256, 4), (0, 4), (many, 2), (many, 2), (clen, 4), (blen, 4), (0, 2)]
/-- The archive of these files, or the error. -/
def makeOf (l : List F) : List Int × Int :=
  if l.length > 256 then ([], 68)
  else
    let r := partsOf l [] []
    if r.2 ≠ 0 then ([], r.2) else (r.1.1 ++ (r.1.2 ++ rowOf (endRow l.length r.1.2.length r.1.1.length)), 0)
theorem local_len (f : F) (pad : Nat) : (localOf f pad).length = 30 + f.1.length + pad + f.2.length := by
  unfold localOf
  rw [List.length_append, List.length_append, List.length_append, List.length_replicate, rowOf_len]
  simp only [localRow, rowLen]
  omega
theorem central_len (f : F) (at_ : Nat) : (centralOf f at_).length = 46 + f.1.length := by
  unfold centralOf
  rw [List.length_append, rowOf_len]
  simp only [centralRow, rowLen]
theorem pad_right (at_ long : Nat) : (at_ + 30 + long + padOf at_ long) % 256 = 0 := by unfold padOf; omega
end Go.Proofs.Ytmpahimeljbliaa.ZipPure
