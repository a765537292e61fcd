/- How many bits are 1: the sums of bytes, and the count bit by bit. -/
import Derived.Laws.BitsLemmas
import Derived.Laws.Bits64
import Derived.Laws.Bits64b
namespace Go.Proofs.Ytdgdjlpbnaoheaa
def cnt (f : Nat → Bool) : Nat → Nat
  | 0 => 0
  | n + 1 => cnt f n + if f n = true then 1 else 0
theorem cnt_le (f : Nat → Bool) : ∀ n, cnt f n ≤ n
  | 0 => Nat.le_refl _
  | n + 1 => by
    have := cnt_le f n
    unfold cnt
    split <;> omega
theorem cnt_congr {f g : Nat → Bool} : ∀ {n : Nat}, (∀ i, i < n → f i = g i) → cnt f n = cnt g n
  | 0, _ => rfl
  | n + 1, h => by
    unfold cnt
    rw [cnt_congr fun i hi => h i (by omega), h n (by omega)]
theorem cnt_add (f : Nat → Bool) (m : Nat) : ∀ n, cnt f (m + n) = cnt f m + cnt (fun i => f (m + i)) n
  | 0 => rfl
  | n + 1 => by
    show cnt f (m + n) + _ = cnt f m + (cnt (fun i => f (m + i)) n + _)
    rw [cnt_add f m n, Nat.add_assoc]
    rfl
theorem cnt_zero {f : Nat → Bool} : ∀ {n : Nat}, cnt f n = 0 ↔ ∀ i, i < n → f i = false
  | 0 => ⟨fun _ i hi => absurd hi (Nat.not_lt_zero i), fun _ => rfl⟩
  | n + 1 => by
    unfold cnt
    constructor
    · intro h i hi
      rcases hn : f n with _ | _
      · rcases Nat.lt_or_ge i n with g | g
        · exact cnt_zero.1 (by omega) i g
        · rw [show i = n by omega]; exact hn
      · rw [hn, if_pos rfl] at h; omega
    · intro h
      rw [cnt_zero.2 fun i hi => h i (by omega), h n (by omega)]
      rfl
theorem cnt_tri {f g h : Nat → Bool} (hh : ∀ i, f i = true → g i = true ∨ h i = true) : ∀ n, cnt f n ≤ cnt g n + cnt h n
  | 0 => Nat.le_refl _
  | n + 1 => by
    have := cnt_tri hh n
    unfold cnt
    rcases hf : f n with _ | _
    · rw [if_neg (by decide)]; omega
    · rw [if_pos rfl]
      rcases hh n hf with e | e
      · rw [if_pos e]; omega
      · rw [if_pos e]; omega
theorem cnt_all {f : Nat → Bool} : ∀ {n : Nat}, (∀ i, i < n → f i = true) → cnt f n = n
  | 0, _ => rfl
  | n + 1, h => by
    unfold cnt
    rw [cnt_all fun i hi => h i (by omega), if_pos (h n (by omega))]
theorem land_byte {a c : Nat} (ha : a < 256) (hc : c < 256) (y d : Nat) : (a + 256 * y) &&& (c + 256 * d) = (a &&& c) + 256 * (y &&& d) := by
  apply Nat.eq_of_testBit_eq
  intro i
  have h1 := Nat.testBit_two_pow_mul_add y (i := 8) ha i
  have h2 := Nat.testBit_two_pow_mul_add d (i := 8) hc i
  have h3 := Nat.testBit_two_pow_mul_add (y &&& d) (i := 8) (b := a &&& c) (Nat.lt_of_le_of_lt Nat.and_le_left ha) i
  rw [Nat.add_comm] at h1 h2 h3
  rw [Nat.testBit_and]
  rw [show (256 : Nat) = 2 ^ 8 from rfl, h1, h2, h3]
  split <;> rw [Nat.testBit_and]
def rep (c : Nat) : Nat → Nat
  | 0 => 0
  | n + 1 => c + 256 * rep c n
theorem rep_succ (c n : Nat) : rep c (n + 1) = c + 256 * rep c n := rfl
def s1b (a : Nat) : Nat := ((a / 2) &&& 85) + (a &&& 85)
def s2b (a : Nat) : Nat := ((a / 4) &&& 51) + (a &&& 51)
def s3b (a : Nat) : Nat := (a / 16 + a) &&& 15
def S1 (n x : Nat) : Nat := ((x / 2) &&& rep 85 n) + (x &&& rep 85 n)
def S2 (n x : Nat) : Nat := ((x / 4) &&& rep 51 n) + (x &&& rep 51 n)
def S3 (n x : Nat) : Nat := (x / 16 + x) &&& rep 15 n
theorem low1 : ∀ a : Fin 128, ∀ e : Fin 2, ((a.val + 128 * e.val) &&& 85) = (a.val &&& 85) := by decide +kernel
theorem low2 : ∀ a : Fin 64, ∀ e : Fin 4, ((a.val + 64 * e.val) &&& 51) = (a.val &&& 51) := by decide +kernel
theorem low3 : ∀ a : Fin 73, ∀ e : Fin 5, ((a.val + 16 * e.val) &&& 15) = (a.val &&& 15) := by decide +kernel
theorem S1_step (n : Nat) {a : Nat} (ha : a < 256) (y : Nat) : S1 (n + 1) (a + 256 * y) = s1b a + 256 * S1 n y := by
  unfold S1 s1b
  rw [rep_succ]
  rw [show (a + 256 * y) / 2 = (a / 2 + 128 * (y % 2)) + 256 * (y / 2) by omega]
  rw [land_byte (by omega) (by decide), land_byte ha (by decide)]
  have := low1 ⟨a / 2, by omega⟩ ⟨y % 2, by omega⟩
  simp only at this
  rw [this]
  omega
theorem S2_step (n : Nat) {a : Nat} (ha : a < 256) (y : Nat) : S2 (n + 1) (a + 256 * y) = s2b a + 256 * S2 n y := by
  unfold S2 s2b
  rw [rep_succ]
  rw [show (a + 256 * y) / 4 = (a / 4 + 64 * (y % 4)) + 256 * (y / 4) by omega]
  rw [land_byte (by omega) (by decide), land_byte ha (by decide)]
  have := low2 ⟨a / 4, by omega⟩ ⟨y % 4, by omega⟩
  simp only at this
  rw [this]
  omega
theorem S3_step (n : Nat) {a : Nat} (h1 : a ≤ 68) (y : Nat) (hy : y % 16 ≤ 4) : S3 (n + 1) (a + 256 * y) = s3b a + 256 * S3 n y := by
  unfold S3 s3b
  rw [rep_succ]
  rw [show (a + 256 * y) / 16 + (a + 256 * y) = (a / 16 + a + 16 * (y % 16)) + 256 * (y / 16 + y) by omega]
  rw [land_byte (by omega) (by decide)]
  have := low3 ⟨a / 16 + a, by omega⟩ ⟨y % 16, by omega⟩
  simp only at this
  rw [this]
theorem byte_facts : ∀ a : Fin 256, s1b a.val < 256 ∧ s2b (s1b a.val) ≤ 68 ∧ s2b (s1b a.val) % 16 ≤ 4 ∧ s3b (s2b (s1b a.val)) = cnt a.val.testBit 8 := by decide +kernel
def hex (c0 c1 c2 c3 c4 c5 c6 c7 : Nat) : Nat := c0 + 256 * (c1 + 256 * (c2 + 256 * (c3 + 256 * (c4 + 256 * (c5 + 256 * (c6 + 256 * (c7 + 256 * 0)))))))
theorem to_hex {x : Nat} (h : x < 18446744073709551616) : ∃ c0 c1 c2 c3 c4 c5 c6 c7, (c0 < 256 ∧ c1 < 256 ∧ c2 < 256 ∧ c3 < 256 ∧ c4 < 256 ∧ c5 < 256 ∧ c6 < 256 ∧ c7 < 256) ∧ x = hex c0 c1 c2 c3 c4 c5 c6 c7 := by
  refine ⟨x % 256, x / 256 % 256, x / 65536 % 256, x / 16777216 % 256, x / 4294967296 % 256, x / 1099511627776 % 256, x / 281474976710656 % 256, x / 72057594037927936 % 256, by omega, ?_⟩
  unfold hex
  omega
theorem S1_hex {c0 c1 c2 c3 c4 c5 c6 c7 : Nat} (h : c0 < 256 ∧ c1 < 256 ∧ c2 < 256 ∧ c3 < 256 ∧ c4 < 256 ∧ c5 < 256 ∧ c6 < 256 ∧ c7 < 256) : S1 8 (hex c0 c1 c2 c3 c4 c5 c6 c7) = hex (s1b c0) (s1b c1) (s1b c2) (s1b c3) (s1b c4) (s1b c5) (s1b c6) (s1b c7) := by
  obtain ⟨h0, h1, h2, h3, h4, h5, h6, h7⟩ := h
  unfold hex
  rw [S1_step 7 h0, S1_step 6 h1, S1_step 5 h2, S1_step 4 h3, S1_step 3 h4, S1_step 2 h5, S1_step 1 h6, S1_step 0 h7]
  rfl
theorem S2_hex {c0 c1 c2 c3 c4 c5 c6 c7 : Nat} (h : c0 < 256 ∧ c1 < 256 ∧ c2 < 256 ∧ c3 < 256 ∧ c4 < 256 ∧ c5 < 256 ∧ c6 < 256 ∧ c7 < 256) : S2 8 (hex c0 c1 c2 c3 c4 c5 c6 c7) = hex (s2b c0) (s2b c1) (s2b c2) (s2b c3) (s2b c4) (s2b c5) (s2b c6) (s2b c7) := by
  obtain ⟨h0, h1, h2, h3, h4, h5, h6, h7⟩ := h
  unfold hex
  rw [S2_step 7 h0, S2_step 6 h1, S2_step 5 h2, S2_step 4 h3, S2_step 3 h4, S2_step 2 h5, S2_step 1 h6, S2_step 0 h7]
  rfl
theorem S3_hex {c0 c1 c2 c3 c4 c5 c6 c7 : Nat} (h : c0 ≤ 68 ∧ c1 ≤ 68 ∧ c2 ≤ 68 ∧ c3 ≤ 68 ∧ c4 ≤ 68 ∧ c5 ≤ 68 ∧ c6 ≤ 68 ∧ c7 ≤ 68) (g : c0 % 16 ≤ 4 ∧ c1 % 16 ≤ 4 ∧ c2 % 16 ≤ 4 ∧ c3 % 16 ≤ 4 ∧ c4 % 16 ≤ 4 ∧ c5 % 16 ≤ 4 ∧ c6 % 16 ≤ 4 ∧ c7 % 16 ≤ 4) : S3 8 (hex c0 c1 c2 c3 c4 c5 c6 c7) = hex (s3b c0) (s3b c1) (s3b c2) (s3b c3) (s3b c4) (s3b c5) (s3b c6) (s3b c7) := by
  obtain ⟨h0, h1, h2, h3, h4, h5, h6, h7⟩ := h
  unfold hex
  rw [S3_step 7 h0 _ (by omega), S3_step 6 h1 _ (by omega), S3_step 5 h2 _ (by omega), S3_step 4 h3 _ (by omega), S3_step 3 h4 _ (by omega), S3_step 2 h5 _ (by omega), S3_step 1 h6 _ (by omega), S3_step 0 h7 _ (by omega)]
  rfl
theorem cnt_byte (n : Nat) {a : Nat} (ha : a < 256) (y : Nat) : cnt (a + 256 * y).testBit (8 + n) = cnt a.testBit 8 + cnt y.testBit n := by
  have h := Nat.testBit_two_pow_mul_add y (i := 8) ha
  rw [cnt_add]
  congr 1
  · refine cnt_congr fun i hi => ?_
    rw [Nat.add_comm, show (256 : Nat) = 2 ^ 8 from rfl, h, if_pos hi]
  · refine cnt_congr fun i hi => ?_
    rw [Nat.add_comm a, show (256 : Nat) = 2 ^ 8 from rfl, h, if_neg (by omega)]
    congr 1; omega
theorem cnt_hex {c0 c1 c2 c3 c4 c5 c6 c7 : Nat} (h : c0 < 256 ∧ c1 < 256 ∧ c2 < 256 ∧ c3 < 256 ∧ c4 < 256 ∧ c5 < 256 ∧ c6 < 256 ∧ c7 < 256) : cnt (hex c0 c1 c2 c3 c4 c5 c6 c7).testBit 64 = cnt c0.testBit 8 + (cnt c1.testBit 8 + (cnt c2.testBit 8 + (cnt c3.testBit 8 + (cnt c4.testBit 8 + (cnt c5.testBit 8 + (cnt c6.testBit 8 + cnt c7.testBit 8)))))) := by
  obtain ⟨h0, h1, h2, h3, h4, h5, h6, h7⟩ := h
  unfold hex
  rw [show 64 = 8 + 56 from rfl, cnt_byte 56 h0, show 56 = 8 + 48 from rfl, cnt_byte 48 h1, show 48 = 8 + 40 from rfl, cnt_byte 40 h2, show 40 = 8 + 32 from rfl, cnt_byte 32 h3, show 32 = 8 + 24 from rfl, cnt_byte 24 h4, show 24 = 8 + 16 from rfl, cnt_byte 16 h5, show 16 = 8 + 8 from rfl, cnt_byte 8 h6, show (8 : Nat) = 8 + 0 from rfl, cnt_byte 0 h7]
  rfl
theorem sum_hex {c0 c1 c2 c3 c4 c5 c6 c7 : Nat} (h : c0 ≤ 8 ∧ c1 ≤ 8 ∧ c2 ≤ 8 ∧ c3 ≤ 8 ∧ c4 ≤ 8 ∧ c5 ≤ 8 ∧ c6 ≤ 8 ∧ c7 ≤ 8) {z t u v : Nat} (hz : z = hex c0 c1 c2 c3 c4 c5 c6 c7) (ht : t = z + z / 256) (hu : u = t + t / 65536) (hv : v = u + u / 4294967296) :
    v < 9223372036854775808 ∧ v % 128 = c0 + (c1 + (c2 + (c3 + (c4 + (c5 + (c6 + c7)))))) := by
  obtain ⟨h0, h1, h2, h3, h4, h5, h6, h7⟩ := h
  have e1 : z / 256 = c1 + 256 * (c2 + 256 * (c3 + 256 * (c4 + 256 * (c5 + 256 * (c6 + 256 * c7))))) := by subst hz; unfold hex; omega
  have e2 : t = (c0 + c1) + 256 * ((c1 + c2) + 256 * ((c2 + c3) + 256 * ((c3 + c4) + 256 * ((c4 + c5) + 256 * ((c5 + c6) + 256 * ((c6 + c7) + 256 * c7)))))) := by rw [ht, e1, hz]; unfold hex; omega
  have e3 : t / 65536 = (c2 + c3) + 256 * ((c3 + c4) + 256 * ((c4 + c5) + 256 * ((c5 + c6) + 256 * ((c6 + c7) + 256 * c7)))) := by rw [e2]; omega
  have e4 : u = (c0 + c1 + c2 + c3) + 256 * ((c1 + c2 + c3 + c4) + 256 * ((c2 + c3 + c4 + c5) + 256 * ((c3 + c4 + c5 + c6) + 256 * ((c4 + c5 + c6 + c7) + 256 * ((c5 + c6 + c7) + 256 * ((c6 + c7) + 256 * c7)))))) := by rw [hu, e3, e2]; omega
  have e5 : u / 4294967296 = (c4 + c5 + c6 + c7) + 256 * ((c5 + c6 + c7) + 256 * ((c6 + c7) + 256 * c7)) := by rw [e4]; omega
  rw [hv, e5, e4]
  constructor <;> omega
/-- The sums of bytes count the bits. -/
theorem swar {x y z t u v : Nat} (hx : x < 18446744073709551616) (h1 : y = S1 8 x) (h2 : z = S3 8 (S2 8 y)) (ht : t = z + z / 256) (hu : u = t + t / 65536) (hv : v = u + u / 4294967296) : v < 9223372036854775808 ∧ v % 128 = cnt x.testBit 64 := by
  obtain ⟨c0, c1, c2, c3, c4, c5, c6, c7, h, rfl⟩ := to_hex hx
  have hc := cnt_hex h
  obtain ⟨p0, p1, p2, p3, p4, p5, p6, p7⟩ := h
  have b0 := byte_facts ⟨c0, p0⟩; have b1 := byte_facts ⟨c1, p1⟩; have b2 := byte_facts ⟨c2, p2⟩; have b3 := byte_facts ⟨c3, p3⟩
  have b4 := byte_facts ⟨c4, p4⟩; have b5 := byte_facts ⟨c5, p5⟩; have b6 := byte_facts ⟨c6, p6⟩; have b7 := byte_facts ⟨c7, p7⟩
  simp only at b0 b1 b2 b3 b4 b5 b6 b7
  rw [S1_hex ⟨p0, p1, p2, p3, p4, p5, p6, p7⟩] at h1
  rw [h1, S2_hex ⟨b0.1, b1.1, b2.1, b3.1, b4.1, b5.1, b6.1, b7.1⟩, S3_hex ⟨b0.2.1, b1.2.1, b2.2.1, b3.2.1, b4.2.1, b5.2.1, b6.2.1, b7.2.1⟩ ⟨b0.2.2.1, b1.2.2.1, b2.2.2.1, b3.2.2.1, b4.2.2.1, b5.2.2.1, b6.2.2.1, b7.2.2.1⟩, b0.2.2.2, b1.2.2.2, b2.2.2.2, b3.2.2.2, b4.2.2.2, b5.2.2.2, b6.2.2.2, b7.2.2.2] at h2
  have := sum_hex ⟨cnt_le _ _, cnt_le _ _, cnt_le _ _, cnt_le _ _, cnt_le _ _, cnt_le _ _, cnt_le _ _, cnt_le _ _⟩ h2 ht hu hv
  rw [hc]
  exact this
theorem hex_lt {c0 c1 c2 c3 c4 c5 c6 c7 : Nat} (h : c0 < 256 ∧ c1 < 256 ∧ c2 < 256 ∧ c3 < 256 ∧ c4 < 256 ∧ c5 < 256 ∧ c6 < 256 ∧ c7 < 256) : hex c0 c1 c2 c3 c4 c5 c6 c7 < 18446744073709551616 := by unfold hex; omega
theorem hex_lt2 {c0 c1 c2 c3 c4 c5 c6 c7 : Nat} (h : c0 ≤ 68 ∧ c1 ≤ 68 ∧ c2 ≤ 68 ∧ c3 ≤ 68 ∧ c4 ≤ 68 ∧ c5 ≤ 68 ∧ c6 ≤ 68 ∧ c7 ≤ 68) : hex c0 c1 c2 c3 c4 c5 c6 c7 < 9223372036854775808 := by unfold hex; omega
theorem swar_bd {x : Nat} (hx : x < 18446744073709551616) : S1 8 x < 18446744073709551616 ∧ S2 8 (S1 8 x) < 9223372036854775808 ∧ S3 8 (S2 8 (S1 8 x)) < 1152921504606846976 := by
  obtain ⟨c0, c1, c2, c3, c4, c5, c6, c7, h, rfl⟩ := to_hex hx
  obtain ⟨p0, p1, p2, p3, p4, p5, p6, p7⟩ := h
  have b0 := byte_facts ⟨c0, p0⟩; have b1 := byte_facts ⟨c1, p1⟩; have b2 := byte_facts ⟨c2, p2⟩; have b3 := byte_facts ⟨c3, p3⟩
  have b4 := byte_facts ⟨c4, p4⟩; have b5 := byte_facts ⟨c5, p5⟩; have b6 := byte_facts ⟨c6, p6⟩; have b7 := byte_facts ⟨c7, p7⟩
  simp only at b0 b1 b2 b3 b4 b5 b6 b7
  rw [S1_hex ⟨p0, p1, p2, p3, p4, p5, p6, p7⟩, S2_hex ⟨b0.1, b1.1, b2.1, b3.1, b4.1, b5.1, b6.1, b7.1⟩]
  refine ⟨hex_lt ⟨b0.1, b1.1, b2.1, b3.1, b4.1, b5.1, b6.1, b7.1⟩, hex_lt2 ⟨b0.2.1, b1.2.1, b2.2.1, b3.2.1, b4.2.1, b5.2.1, b6.2.1, b7.2.1⟩, ?_⟩
  unfold S3
  refine Nat.lt_of_le_of_lt Nat.and_le_right (by decide)
/-- The same, as the program reckons it. -/
def swI (x : Int) : Int :=
  let y := IntKind.u64.wrap (bits .and .u64 (x / 2) 6148914691236517205 + bits .and .u64 x 6148914691236517205)
  let q := IntKind.u64.wrap (bits .and .u64 (y / 4) 3689348814741910323 + bits .and .u64 y 3689348814741910323)
  let z := bits .and .u64 (IntKind.u64.wrap (q / 16 + q)) 1085102592571150095
  let t := IntKind.u64.wrap (z + z / 256)
  let u := IntKind.u64.wrap (t + t / 65536)
  let v := IntKind.u64.wrap (u + u / 4294967296)
  bits .and .i64 (IntKind.i64.wrap v) 127
theorem wrapN {n : Nat} (h : n < 18446744073709551616) : IntKind.u64.wrap (n : Int) = n := by rw [IntKind.wrap_u64]; omega
theorem swI_eq {x : Nat} (hx : x < 18446744073709551616) : swI (x : Int) = (cnt x.testBit 64 : Nat) := by
  obtain ⟨k1, k2, k3⟩ := swar_bd hx
  have h := swar hx rfl rfl rfl rfl rfl
  have e5 : (6148914691236517205 : Int) = ((rep 85 8 : Nat) : Int) := by decide
  have e3 : (3689348814741910323 : Int) = ((rep 51 8 : Nat) : Int) := by decide
  have e0 : (1085102592571150095 : Int) = ((rep 15 8 : Nat) : Int) := by decide
  unfold swI
  rw [e5, e3, e0]
  have g1 : IntKind.u64.wrap (bits .and .u64 ((x : Int) / 2) ((rep 85 8 : Nat) : Int) + bits .and .u64 (x : Int) ((rep 85 8 : Nat) : Int)) = (S1 8 x : Nat) := by
    rw [show ((x : Int) / 2) = ((x / 2 : Nat) : Int) by omega, bits_and_u64_nat _ _ (by omega) (by decide), bits_and_u64_nat _ _ hx (by decide), ← Int.natCast_add]
    exact wrapN k1
  rw [g1]
  have g2 : IntKind.u64.wrap (bits .and .u64 (((S1 8 x : Nat) : Int) / 4) ((rep 51 8 : Nat) : Int) + bits .and .u64 ((S1 8 x : Nat) : Int) ((rep 51 8 : Nat) : Int)) = (S2 8 (S1 8 x) : Nat) := by
    rw [show (((S1 8 x : Nat) : Int) / 4) = ((S1 8 x / 4 : Nat) : Int) by omega, bits_and_u64_nat _ _ (by omega) (by decide), bits_and_u64_nat _ _ k1 (by decide), ← Int.natCast_add]
    exact wrapN (by have : S2 8 (S1 8 x) = (S1 8 x / 4 &&& rep 51 8) + (S1 8 x &&& rep 51 8) := rfl; omega)
  simp only [g2]
  have g3 : bits .and .u64 (IntKind.u64.wrap (((S2 8 (S1 8 x) : Nat) : Int) / 16 + (S2 8 (S1 8 x) : Nat))) ((rep 15 8 : Nat) : Int) = (S3 8 (S2 8 (S1 8 x)) : Nat) := by
    rw [show (((S2 8 (S1 8 x) : Nat) : Int) / 16 + (S2 8 (S1 8 x) : Nat)) = ((S2 8 (S1 8 x) / 16 + S2 8 (S1 8 x) : Nat) : Int) by omega, wrapN (by omega), bits_and_u64_nat _ _ (by omega) (by decide)]
    rfl
  simp only [g3]
  generalize S3 8 (S2 8 (S1 8 x)) = z at h k3
  have g4 : IntKind.u64.wrap ((z : Int) + (z : Int) / 256) = ((z + z / 256 : Nat) : Int) := by
    rw [show ((z : Int) + (z : Int) / 256) = ((z + z / 256 : Nat) : Int) by omega]; exact wrapN (by omega)
  simp only [g4]
  have b4 : z + z / 256 < 2305843009213693952 := by omega
  generalize z + z / 256 = t at h b4
  have g5 : IntKind.u64.wrap ((t : Int) + (t : Int) / 65536) = ((t + t / 65536 : Nat) : Int) := by
    rw [show ((t : Int) + (t : Int) / 65536) = ((t + t / 65536 : Nat) : Int) by omega]; exact wrapN (by omega)
  simp only [g5]
  have b5 : t + t / 65536 < 4611686018427387904 := by omega
  generalize t + t / 65536 = u at h b5
  have g6 : IntKind.u64.wrap ((u : Int) + (u : Int) / 4294967296) = ((u + u / 4294967296 : Nat) : Int) := by
    rw [show ((u : Int) + (u : Int) / 4294967296) = ((u + u / 4294967296 : Nat) : Int) by omega]; exact wrapN (by omega)
  simp only [g6]
  generalize u + u / 4294967296 = v at h
  have g7 : IntKind.i64.wrap ((v : Nat) : Int) = v := by rw [IntKind.wrap_i64]; omega
  rw [g7]
  have g8 : bits .and .i64 ((v : Nat) : Int) 127 = (v : Int) % 128 := bits_mask .i64 63 (by decide) (fun n a b => by rw [IntKind.wrap_i64]; omega) 7 (by decide) _ (by omega) (by have := h.1; omega)
  rw [g8, ← h.2]
  omega
/-- In how many bits two numbers differ. -/
def apartN (a b : Nat) : Nat := cnt (fun i => a.testBit i != b.testBit i) 64
theorem apart_xor (a b : Nat) : cnt (a ^^^ b).testBit 64 = apartN a b := cnt_congr fun i _ => by rw [Nat.testBit_xor]
theorem apart_comm (a b : Nat) : apartN a b = apartN b a := cnt_congr fun i _ => by cases a.testBit i <;> cases b.testBit i <;> rfl
theorem apart_tri (a b c : Nat) : apartN a b ≤ apartN a c + apartN c b := cnt_tri (fun i h => by
  revert h
  cases a.testBit i <;> cases b.testBit i <;> cases c.testBit i <;> decide) 64
theorem apart_zero {a b : Nat} (ha : a < 2 ^ 64) (hb : b < 2 ^ 64) : apartN a b = 0 ↔ a = b := by
  unfold apartN
  rw [cnt_zero]
  constructor
  · intro h
    apply Nat.eq_of_testBit_eq
    intro i
    rcases Nat.lt_or_ge i 64 with g | g
    · have := h i g
      revert this
      cases a.testBit i <;> cases b.testBit i <;> decide
    · rw [Nat.testBit_lt_two_pow (Nat.lt_of_lt_of_le ha (Nat.pow_le_pow_right (by decide) g)), Nat.testBit_lt_two_pow (Nat.lt_of_lt_of_le hb (Nat.pow_le_pow_right (by decide) g))]
  · rintro rfl i _
    cases a.testBit i <;> rfl
theorem apart_not {a : Nat} (ha : a < 2 ^ 64) : apartN a (2 ^ 64 - (a + 1)) = 64 := cnt_all fun i hi => by
  rw [Nat.testBit_two_pow_sub_succ ha, decide_eq_true hi]
  cases a.testBit i <;> rfl
theorem apart_le (a b : Nat) : apartN a b ≤ 64 := cnt_le _ _
end Go.Proofs.Ytdgdjlpbnaoheaa
