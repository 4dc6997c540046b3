/- Parts of a proof, laid together. Each part says its own conditions. -/
import Derived.Test.YtoacpebmhbkmbaaGreatDoorT16
import Derived.Test.YtoacpebmhbkmbaaGreatDoorT12
import Derived.Test.YtoacpebmhbkmbaaGreatDoorT17
import Derived.Laws.Bits128
import Derived.Test.YtoacpebmhbkmbaaGreatDoorT22
import Derived.Shelf.Spec.TrailingZeros
namespace Go.Proofs.YtoacpebmhbkmbaaGreatDoor
theorem and_split {a c : Nat} (b d : Nat) (ha : a < 256) (hc : c < 256) : (a + 256 * b) &&& (c + 256 * d) = (a &&& c) + 256 * (b &&& d) := by
 have hac : (a &&& c) < 2 ^ 8 := Nat.lt_of_le_of_lt Nat.and_le_left (by omega)
 apply Nat.eq_of_testBit_eq
 intro k
 rw [show a + 256 * b = 2 ^ 8 * b + a by omega,show c + 256 * d = 2 ^ 8 * d + c by omega,show (a &&& c) + 256 * (b &&& d) = 2 ^ 8 * (b &&& d) + (a &&& c) by omega]
 rw [Nat.testBit_and,Nat.testBit_two_pow_mul_add _ (by omega),Nat.testBit_two_pow_mul_add _ (by omega),Nat.testBit_two_pow_mul_add _ hac]
 by_cases hk : k < 8 <;> simp [hk]
def g1 (a : Nat) : Nat := ((a / 2) &&& 85) + (a &&& 85)
def g2 (a : Nat) : Nat := ((a / 4) &&& 51) + (a &&& 51)
def g3 (a : Nat) : Nat := ((a / 16) + a) &&& 15
def F1 (M x : Nat) : Nat := ((x / 2) &&& M) + (x &&& M)
def F2 (M x : Nat) : Nat := ((x / 4) &&& M) + (x &&& M)
def F3 (M x : Nat) : Nat := ((x / 16) + x) &&& M
theorem F1_split {a : Nat} (b M : Nat) (ha : a < 256) : F1 (85 + 256 * M) (a + 256 * b) = g1 a + 256 * F1 M b := by
 unfold F1 g1
 have h : (a / 2 + 128 * (b % 2)) &&& 85 = (a / 2) &&& 85 := by
  have : ∀ a < 256, ∀ c < 2,(a / 2 + 128 * c) &&& 85 = (a / 2) &&& 85 := by decide +kernel
  exact this a ha _ (by omega)
 rw [show (a + 256 * b) / 2 = (a / 2 + 128 * (b % 2)) + 256 * (b / 2) by omega,and_split _ _ (by omega) (by omega),and_split _ _ ha (by omega),h]
 omega
theorem F2_split {a : Nat} (b M : Nat) (ha : a < 256) : F2 (51 + 256 * M) (a + 256 * b) = g2 a + 256 * F2 M b := by
 unfold F2 g2
 have h : (a / 4 + 64 * (b % 4)) &&& 51 = (a / 4) &&& 51 := by
  have : ∀ a < 256, ∀ c < 4,(a / 4 + 64 * c) &&& 51 = (a / 4) &&& 51 := by decide +kernel
  exact this a ha _ (by omega)
 rw [show (a + 256 * b) / 4 = (a / 4 + 64 * (b % 4)) + 256 * (b / 4) by omega,and_split _ _ (by omega) (by omega),and_split _ _ ha (by omega),h]
 omega
theorem F3_split {a : Nat} (b M : Nat) (h1 : a % 16 ≤ 4) (h2 : a / 16 ≤ 4) (hb : b % 16 ≤ 4) : F3 (15 + 256 * M) (a + 256 * b) = g3 a + 256 * F3 M b := by
 unfold F3 g3
 have h : (a / 16 + 16 * (b % 16) + a) &&& 15 = (a / 16 + a) &&& 15 := by
  rw [show (15 : Nat) = 2 ^ 4 - 1 from rfl,Nat.and_two_pow_sub_one_eq_mod,Nat.and_two_pow_sub_one_eq_mod]
  omega
 rw [show (a + 256 * b) / 16 + (a + 256 * b) = (a / 16 + 16 * (b % 16) + a) + 256 * (b / 16 + b) by omega,and_split _ _ (by omega) (by omega),h]
def pc8 (a : Nat) : Nat := g3 (g2 (g1 a))
theorem g1_lt {a : Nat} (h : a < 256) : g1 a < 256 := by
 have : ∀ a < 256,g1 a < 256 := by decide +kernel
 exact this a h
theorem g2_lt {a : Nat} (h : a < 256) : g2 (g1 a) % 16 ≤ 4 ∧ g2 (g1 a) / 16 ≤ 4 := by
 have : ∀ a < 256,g2 (g1 a) % 16 ≤ 4 ∧ g2 (g1 a) / 16 ≤ 4 := by decide +kernel
 exact this a h
theorem pc8_le {a : Nat} (h : a < 256) : pc8 a ≤ 8 := by
 have : ∀ a < 256,pc8 a ≤ 8 := by decide +kernel
 exact this a h
def M55 : Nat → Nat
 | 0 => 0
 | n + 1 => 85 + 256 * M55 n
def M33 : Nat → Nat
 | 0 => 0
 | n + 1 => 51 + 256 * M33 n
def M0f : Nat → Nat
 | 0 => 0
 | n + 1 => 15 + 256 * M0f n
def pcB : Nat → Nat → Nat
 | 0,_ => 0
 | n + 1,x => pc8 (x % 256) + 256 * pcB n (x / 256)
def H2 (n x : Nat) : Nat := F2 (M33 n) (F1 (M55 n) x)
theorem H2_zero (x : Nat) : H2 0 x = 0 := by
 unfold H2 F2 F1 M33 M55
 simp
theorem H2_succ (n x : Nat) : H2 (n + 1) x = g2 (g1 (x % 256)) + 256 * H2 n (x / 256) := by
 have e : x = x % 256 + 256 * (x / 256) := by omega
 have h1 : F1 (M55 (n + 1)) x = g1 (x % 256) + 256 * F1 (M55 n) (x / 256) := by
  have h := F1_split (x / 256) (M55 n) (a := x % 256) (by omega)
  rw [← e] at h
  exact h
 unfold H2
 rw [h1]
 exact F2_split _ _ (g1_lt (by omega))
theorem H2_low (n x : Nat) : H2 n x % 16 ≤ 4 := by
 cases n with
 | zero => rw [H2_zero]; omega
 | succ n =>
  rw [H2_succ]
  have := (g2_lt (a := x % 256) (by omega)).1
  omega
theorem H3_eq : ∀ n x,F3 (M0f n) (H2 n x) = pcB n x
 | 0,x => by rw [H2_zero]; rfl
 | n + 1,x => by
  have h := g2_lt (a := x % 256) (by omega)
  rw [H2_succ]
  show F3 (15 + 256 * M0f n) _ = _
  rw [F3_split _ _ h.1 h.2 (H2_low n _),H3_eq n]
  rfl
def cntF (N : Nat) : Nat → Nat
 | 0 => 0
 | k + 1 => cntF N k + (N.testBit k).toNat
theorem cntF_add (N a b : Nat) : cntF N (a + b) = cntF N a + cntF (N >>> a) b := by
 induction b with
 | zero => rfl
 | succ b ih =>
  rw [← Nat.add_assoc]
  show cntF N (a + b) + _ = _
  rw [ih]
  show _ = cntF N a + (cntF (N >>> a) b + _)
  rw [Nat.testBit_shiftRight]
  omega
theorem cntF_congr {N M : Nat} : ∀ n,(∀ k,k < n → N.testBit k = M.testBit k) → cntF N n = cntF M n
 | 0,_ => rfl
 | n + 1,h => by
  show cntF N n + _ = cntF M n + _
  rw [cntF_congr n (fun k hk => h k (by omega)),h n (by omega)]
theorem pc8_cnt {a : Nat} (h : a < 256) : pc8 a = cntF a 8 := by
 have : ∀ a < 256,pc8 a = cntF a 8 := by decide +kernel
 exact this a h
def sumB : Nat → Nat → Nat
 | 0,_ => 0
 | n + 1,x => x % 256 + sumB n (x / 256)
theorem sumB_pcB : ∀ n x,sumB n (pcB n x) = cntF x (8 * n)
 | 0,_ => rfl
 | n + 1,x => by
  have h8 := pc8_le (a := x % 256) (by omega)
  show (pc8 (x % 256) + 256 * pcB n (x / 256)) % 256 + sumB n ((pc8 (x % 256) + 256 * pcB n (x / 256)) / 256) = _
  rw [show (pc8 (x % 256) + 256 * pcB n (x / 256)) % 256 = pc8 (x % 256) by omega,show (pc8 (x % 256) + 256 * pcB n (x / 256)) / 256 = pcB n (x / 256) by omega,sumB_pcB n,pc8_cnt (by omega)]
  rw [show 8 * (n + 1) = 8 + 8 * n by omega,cntF_add,Nat.shiftRight_eq_div_pow]
  congr 1
  apply cntF_congr
  intro k hk
  rw [show (256 : Nat) = 2 ^ 8 from rfl,Nat.testBit_mod_two_pow]
  simp [hk]
theorem pcB_bytes : ∀ n x, ∀ i,pcB n x / 256 ^ i % 256 ≤ 8
 | 0,_,i => by
  show 0 / 256 ^ i % 256 ≤ 8
  rw [Nat.zero_div]; omega
 | n + 1,x,0 => by
  have h8 := pc8_le (a := x % 256) (by omega)
  show (pc8 (x % 256) + 256 * pcB n (x / 256)) / 1 % 256 ≤ 8
  omega
 | n + 1,x,i + 1 => by
  have h8 := pc8_le (a := x % 256) (by omega)
  have ih := pcB_bytes n (x / 256) i
  show (pc8 (x % 256) + 256 * pcB n (x / 256)) / 256 ^ (i + 1) % 256 ≤ 8
  rw [Nat.pow_succ', ← Nat.div_div_eq_div_mul,show (pc8 (x % 256) + 256 * pcB n (x / 256)) / 256 = pcB n (x / 256) by omega]
  exact ih
theorem pcB_lt : ∀ n x,pcB n x < 256 ^ n
 | 0,_ => by show 0 < 1; omega
 | n + 1,x => by
  have h8 := pc8_le (a := x % 256) (by omega)
  have ih := pcB_lt n (x / 256)
  show pc8 (x % 256) + 256 * pcB n (x / 256) < 256 ^ (n + 1)
  rw [Nat.pow_succ']
  omega
theorem fold_bytes (a0 a1 a2 a3 a4 a5 a6 a7 y0 y1 y2 y3 y4 y5 y6 y7 : Nat) (e0 : a0 = y0 + 256 * a1) (e1 : a1 = y1 + 256 * a2) (e2 : a2 = y2 + 256 * a3) (e3 : a3 = y3 + 256 * a4) (e4 : a4 = y4 + 256 * a5) (e5 : a5 = y5 + 256 * a6) (e6 : a6 = y6 + 256 * a7) (e7 : a7 = y7)
  (h0 : y0 ≤ 8) (h1 : y1 ≤ 8) (h2 : y2 ≤ 8) (h3 : y3 ≤ 8) (h4 : y4 ≤ 8) (h5 : y5 ≤ 8) (h6 : y6 ≤ 8) (h7 : y7 ≤ 8) :
  a0 / 256 = a1 ∧ (a0 + a1) / 65536 = a2 + a3 ∧ (a0 + a1 + (a2 + a3)) / 4294967296 = a4 + a5 + a6 + a7 ∧ (a0 + a1 + (a2 + a3)) + (a4 + a5 + a6 + a7) < 18446744073709551616 ∧
   ((a0 + a1 + (a2 + a3)) + (a4 + a5 + a6 + a7)) % 128 = y0 + y1 + y2 + y3 + y4 + y5 + y6 + y7 := by
 have f0 : a0 = (y0 + 256 * y1) + 65536 * a2 := by omega
 have f1 : a1 = (y1 + 256 * y2) + 65536 * a3 := by omega
 have f2 : a2 = (y2 + 256 * y3) + 65536 * a4 := by omega
 have f3 : a3 = (y3 + 256 * y4) + 65536 * a5 := by omega
 have b4 : a7 ≤ 8 := by omega
 have b5 : a6 ≤ 2056 := by omega
 have b6 : a5 ≤ 526344 := by omega
 have b7 : a4 ≤ 134744072 := by omega
 have b8 : a3 ≤ 34494482440 := by omega
 have b9 : a2 ≤ 8830587504648 := by omega
 have b10 : a1 ≤ 2260630401189896 := by omega
 have b11 : a0 ≤ 578721382704613384 := by omega
 refine ⟨by clear f0 f1 f2 f3 e1 e2 e3 e4 e5 e6 e7 b4 b5 b6 b7 b8 b9 b10 b11; omega, ?_, ?_, ?_, ?_⟩
 ·clear e0 e1 e2 e3 e4 e5 e6 e7 f2 f3 b4 b5 b6 b7 b8 b9 b10 b11
  omega
 ·have f4 : a4 = (y4 + 256 * y5) + 65536 * a6 := by omega
  have f5 : a5 = (y5 + 256 * y6) + 65536 * a7 := by omega
  clear e0 e1 e2 e3 e4 e5 e6 e7 b4 b5 b6 b7 b8 b9 b10 b11
  have g0 : ∃ l,l ≤ 134744072 ∧ a0 = l + 4294967296 * a4 := ⟨y0 + 256 * y1 + 65536 * (y2 + 256 * y3),by omega,by omega⟩
  have g1 : ∃ l,l ≤ 134744072 ∧ a1 = l + 4294967296 * a5 := ⟨y1 + 256 * y2 + 65536 * (y3 + 256 * y4),by omega,by omega⟩
  have g2 : ∃ l,l ≤ 134744072 ∧ a2 = l + 4294967296 * a6 := ⟨y2 + 256 * y3 + 65536 * (y4 + 256 * y5),by omega,by omega⟩
  have g3 : ∃ l,l ≤ 134744072 ∧ a3 = l + 4294967296 * a7 := ⟨y3 + 256 * y4 + 65536 * (y5 + 256 * y6),by omega,by omega⟩
  clear f0 f1 f2 f3 f4 f5
  obtain ⟨l0,k0,j0⟩ := g0
  obtain ⟨l1,k1,j1⟩ := g1
  obtain ⟨l2,k2,j2⟩ := g2
  obtain ⟨l3,k3,j3⟩ := g3
  omega
 ·clear e0 e1 e2 e3 e4 e5 e6 e7 f0 f1 f2 f3
  omega
 ·have hS : (a0 + a1 + (a2 + a3)) + (a4 + a5 + a6 + a7) = (y0 + y1 + y2 + y3 + y4 + y5 + y6 + y7) + 128 * (2 * (a1 + a2 + a3 + a4 + a5 + a6 + a7)) := by
   clear f0 f1 f2 f3 b4 b5 b6 b7 b8 b9 b10 b11
   omega
  rw [hS]
  generalize a1 + a2 + a3 + a4 + a5 + a6 + a7 = t
  clear e0 e1 e2 e3 e4 e5 e6 e7 f0 f1 f2 f3 b4 b5 b6 b7 b8 b9 b10 b11 hS
  omega
theorem div_step (z k m : Nat) (h : k * 256 = m) : z / k = z / k % 256 + 256 * (z / m) := by
 rw [← h, ← Nat.div_div_eq_div_mul]
 omega
theorem ones_steps (x : Nat) (_hx : x < 18446744073709551616) :
  F1 6148914691236517205 x < 18446744073709551616 ∧ F2 3689348814741910323 (F1 6148914691236517205 x) < 18446744073709551616 ∧
  F2 3689348814741910323 (F1 6148914691236517205 x) / 16 + F2 3689348814741910323 (F1 6148914691236517205 x) < 18446744073709551616 ∧
  ∃ z,F3 1085102592571150095 (F2 3689348814741910323 (F1 6148914691236517205 x)) = z ∧ z < 18446744073709551616 ∧ z + z / 256 < 18446744073709551616 ∧ (z + z / 256) + (z + z / 256) / 65536 < 18446744073709551616 ∧ ((z + z / 256) + (z + z / 256) / 65536) + ((z + z / 256) + (z + z / 256) / 65536) / 4294967296 < 18446744073709551616 ∧
   (((z + z / 256) + (z + z / 256) / 65536) + ((z + z / 256) + (z + z / 256) / 65536) / 4294967296) % 128 = cntF x 64 := by
 have m1 : (6148914691236517205 : Nat) = M55 8 := by decide +kernel
 have m2 : (3689348814741910323 : Nat) = M33 8 := by decide +kernel
 have m3 : (1085102592571150095 : Nat) = M0f 8 := by decide +kernel
 have b1 : F1 6148914691236517205 x < 18446744073709551616 := by
  unfold F1
  have h1 : (x / 2) &&& 6148914691236517205 ≤ 6148914691236517205 := Nat.and_le_right
  have h2 : x &&& 6148914691236517205 ≤ 6148914691236517205 := Nat.and_le_right
  omega
 have b2 : F2 3689348814741910323 (F1 6148914691236517205 x) < 8198552921648689608 := by
  generalize F1 6148914691236517205 x = t
  unfold F2
  have h1 : (t / 4) &&& 3689348814741910323 ≤ 3689348814741910323 := Nat.and_le_right
  have h2 : t &&& 3689348814741910323 ≤ 3689348814741910323 := Nat.and_le_right
  omega
 refine ⟨b1,by omega,by omega,_,rfl, ?_⟩
 have hz : F3 1085102592571150095 (F2 3689348814741910323 (F1 6148914691236517205 x)) = pcB 8 x := by
  rw [m1,m2,m3]
  exact H3_eq 8 x
 rw [hz]
 have hlt : pcB 8 x < 18446744073709551616 := by
  have := pcB_lt 8 x
  rw [show (256 : Nat) ^ 8 = 18446744073709551616 by decide +kernel] at this
  exact this
 have hs := sumB_pcB 8 x
 have hb := pcB_bytes 8 x
 generalize pcB 8 x = z at *
 have q0 := hb 0
 have q1 := hb 1
 have q2 := hb 2
 have q3 := hb 3
 have q4 := hb 4
 have q5 := hb 5
 have q6 := hb 6
 have q7 := hb 7
 simp only [Nat.reducePow,Nat.div_one] at q0 q1 q2 q3 q4 q5 q6 q7
 have hs' : z % 256 + (z / 256 % 256 + (z / 65536 % 256 + (z / 16777216 % 256 + (z / 4294967296 % 256 + (z / 1099511627776 % 256 + (z / 281474976710656 % 256 + (z / 72057594037927936 % 256))))))) = cntF x 64 := by
  rw [← hs]
  show _ = z % 256 + (z / 256 % 256 + (z / 256 / 256 % 256 + (z / 256 / 256 / 256 % 256 + (z / 256 / 256 / 256 / 256 % 256 + (z / 256 / 256 / 256 / 256 / 256 % 256 + (z / 256 / 256 / 256 / 256 / 256 / 256 % 256 + (z / 256 / 256 / 256 / 256 / 256 / 256 / 256 % 256 + 0)))))))
  simp only [Nat.div_div_eq_div_mul,Nat.reduceMul,Nat.add_zero]
 have hf := fold_bytes z (z / 256) (z / 65536) (z / 16777216) (z / 4294967296) (z / 1099511627776) (z / 281474976710656) (z / 72057594037927936) (z % 256) (z / 256 % 256) (z / 65536 % 256) (z / 16777216 % 256) (z / 4294967296 % 256) (z / 1099511627776 % 256) (z / 281474976710656 % 256) (z / 72057594037927936 % 256) (Nat.mod_add_div z 256).symm (div_step z 256 65536 rfl) (div_step z 65536 16777216 rfl) (div_step z 16777216 4294967296 rfl) (div_step z 4294967296 1099511627776 rfl) (div_step z 1099511627776 281474976710656 rfl) (div_step z 281474976710656 72057594037927936 rfl) (Nat.mod_eq_of_lt (Nat.div_lt_of_lt_mul hlt)).symm q0 q1 q2 q3 q4 q5 q6 q7
 obtain ⟨_,f1,f2,f3,f4⟩ := hf
 rw [f1,f2]
 refine ⟨hlt,Nat.lt_of_le_of_lt ?_ f3,Nat.lt_of_le_of_lt ?_ f3,f3,by rw [f4, ← hs']; simp only [Nat.add_assoc]⟩
 ·rw [Nat.add_assoc]; exact Nat.le_add_right _ _
 ·exact Nat.le_add_right _ _
theorem cnt_word (N i : Nat) : cntF (wdN N i) 64 = cntF (N >>> (64 * i)) 64 := by
 apply cntF_congr
 intro k hk
 rw [wdN_bit,Nat.testBit_shiftRight]
 simp [hk]
theorem cnt_words (N i : Nat) : cntF N (64 * (i + 1)) = cntF N (64 * i) + cntF (wdN N i) 64 := by
 rw [show 64 * (i + 1) = 64 * i + 64 by omega,cntF_add,cnt_word]
theorem cntF_le (N : Nat) : ∀ n,cntF N n ≤ n
 | 0 => Nat.le_refl _
 | n + 1 => by
  have := cntF_le N n
  show cntF N n + (N.testBit n).toNat ≤ n + 1
  cases N.testBit n <;> simp <;> omega
end Go.Proofs.YtoacpebmhbkmbaaGreatDoor
namespace Go.Proofs.YtoacpebmhbkmbaaGreatDoor
open Go Go.RowKit
theorem wrapu (n : Nat) (h : n < 18446744073709551616) : IntKind.u64.wrap (n : Int) = (n : Int) := by
 rw [IntKind.wrap_u64]
 omega
theorem andu (a b : Nat) (ha : a < 18446744073709551616) (hb : b < 18446744073709551616) : bits .and .u64 (a : Int) (b : Int) = ((a &&& b : Nat) : Int) := u64_and_nat _ _ ha hb
theorem k_half (M a d : Nat) (M' d' : Int) (eM : (M : Int) = M') (ed : (d : Int) = d') (hM : M < 18446744073709551616) (ha : a < 18446744073709551616) (hs : ((a / d) &&& M) + (a &&& M) < 18446744073709551616) :
  IntKind.u64.wrap (bits .and .u64 ((a : Int) / d') M' + bits .and .u64 (a : Int) M') = ((((a / d) &&& M) + (a &&& M) : Nat) : Int) := by
 subst eM
 subst ed
 have h1 : ((a : Int) / (d : Int)) = ((a / d : Nat) : Int) := by simp
 rw [h1,andu _ _ (Nat.lt_of_le_of_lt (Nat.div_le_self _ _) ha) hM,andu _ _ ha hM, ← Int.natCast_add,wrapu _ hs]
theorem k_sum (a d : Nat) (d' : Int) (ed : (d : Int) = d') (hs : a + a / d < 18446744073709551616) : IntKind.u64.wrap ((a : Int) + (a : Int) / d') = ((a + a / d : Nat) : Int) := by
 subst ed
 have h1 : ((a : Int) / (d : Int)) = ((a / d : Nat) : Int) := by simp
 rw [h1, ← Int.natCast_add,wrapu _ hs]
theorem k_nib (M a : Nat) (M' : Int) (eM : (M : Int) = M') (hM : M < 18446744073709551616) (hs : a / 16 + a < 18446744073709551616) : bits .and .u64 (IntKind.u64.wrap ((a : Int) / 16 + (a : Int))) M' = ((F3 M a : Nat) : Int) := by
 subst eM
 have h1 : ((a : Int) / 16) = ((a / 16 : Nat) : Int) := by simp
 rw [h1, ← Int.natCast_add,wrapu _ hs,andu _ _ hs hM]
 rfl
theorem fin_ones (t c : Nat) (_h7 : t < 18446744073709551616) (h8 : t % 128 = c) : bits .and .i64 (wrap64 (t : Int)) 127 = (c : Int) := by
 rw [i64_and127, ← h8]
 unfold wrap64
 omega
set_option maxRecDepth 100000 in
theorem ones_any (x : Nat) (hx : x < 18446744073709551616) (w : World) : Calls Tryz.prog 85 #[.int .u64 x] w fun e w' => e = .returned (.int .i64 (cntF x 64)) ∧ w = w' := by
 obtain ⟨s1,s2,s3,z,hz,s4,s5,s6,s7,s8⟩ := ones_steps x hx
 have k1 := k_half 6148914691236517205 x 2 6148914691236517205 2 rfl rfl (by decide) hx s1
 have k2 := k_half 3689348814741910323 (F1 6148914691236517205 x) 4 3689348814741910323 4 rfl rfl (by decide) s1 s2
 have k3 := k_nib 1085102592571150095 (F2 3689348814741910323 (F1 6148914691236517205 x)) 1085102592571150095 rfl (by decide) s3
 rw [hz] at k3
 have k4 := k_sum z 256 256 rfl s5
 have k5 := k_sum (z + z / 256) 65536 65536 rfl s6
 have k6 := k_sum ((z + z / 256) + (z + z / 256) / 65536) 4294967296 4294967296 rfl s7
 have e1 : ((x / 2 &&& 6148914691236517205) + (x &&& 6148914691236517205)) = F1 6148914691236517205 x := rfl
 have e2 : ((F1 6148914691236517205 x / 4 &&& 3689348814741910323) + (F1 6148914691236517205 x &&& 3689348814741910323)) = F2 3689348814741910323 (F1 6148914691236517205 x) := rfl
 rw [e1] at k1
 rw [e2] at k2
 generalize F2 3689348814741910323 (F1 6148914691236517205 x) = b at *
 generalize F1 6148914691236517205 x = a at *
 generalize ht : ((z + z / 256) + (z + z / 256) / 65536) + ((z + z / 256) + (z + z / 256) / 65536) / 4294967296 = t at *
 generalize hs : (z + z / 256) + (z + z / 256) / 65536 = s at *
 generalize hr : z + z / 256 = r at *
 have s8' := hide s8
 have s7' := hide s7
 clear s1 s2 s3 s4 s5 s6 s7 s8 hz e1 e2 ht hs hr
 go_enter Tryz.func85,Tryz.ntmps85
 go_wp2
 go_ret
 exact ⟨ret_int (fin_ones t _ (unhide s7') (unhide s8')),rfl⟩
theorem ones_wd (N k : Nat) (w : World) : Calls Tryz.prog 85 #[.int .u64 (wd N k)] w fun e w' => e = .returned (.int .i64 (cntF (wdN N k) 64)) ∧ w = w' := ones_any (wdN N k) (wdN_lt N k) w
theorem idxS0 (N : Nat) (w : World) : (Instr.index 76 (.agg (setC N)) (.int .i64 0)).run Tryz.prog w = .ok (.int .u64 (wd N 0)) w := by kernel_rfl
theorem idxS1 (N : Nat) (w : World) : (Instr.index 76 (.agg (setC N)) (.int .i64 1)).run Tryz.prog w = .ok (.int .u64 (wd N 1)) w := by kernel_rfl
theorem idxS2 (N : Nat) (w : World) : (Instr.index 76 (.agg (setC N)) (.int .i64 2)).run Tryz.prog w = .ok (.int .u64 (wd N 2)) w := by kernel_rfl
theorem idxS3 (N : Nat) (w : World) : (Instr.index 76 (.agg (setC N)) (.int .i64 3)).run Tryz.prog w = .ok (.int .u64 (wd N 3)) w := by kernel_rfl
theorem idxS4 (N : Nat) (w : World) : (Instr.index 76 (.agg (setC N)) (.int .i64 4)).run Tryz.prog w = .ok (.int .u64 (wd N 4)) w := by kernel_rfl
theorem idxS5 (N : Nat) (w : World) : (Instr.index 76 (.agg (setC N)) (.int .i64 5)).run Tryz.prog w = .ok (.int .u64 (wd N 5)) w := by kernel_rfl
theorem idxS6 (N : Nat) (w : World) : (Instr.index 76 (.agg (setC N)) (.int .i64 6)).run Tryz.prog w = .ok (.int .u64 (wd N 6)) w := by kernel_rfl
theorem idxS7 (N : Nat) (w : World) : (Instr.index 76 (.agg (setC N)) (.int .i64 7)).run Tryz.prog w = .ok (.int .u64 (wd N 7)) w := by kernel_rfl
theorem idxS8 (N : Nat) (w : World) : (Instr.index 76 (.agg (setC N)) (.int .i64 8)).run Tryz.prog w = .ok (.int .u64 (wd N 8)) w := by kernel_rfl
theorem idxS9 (N : Nat) (w : World) : (Instr.index 76 (.agg (setC N)) (.int .i64 9)).run Tryz.prog w = .ok (.int .u64 (wd N 9)) w := by kernel_rfl
theorem idxS10 (N : Nat) (w : World) : (Instr.index 76 (.agg (setC N)) (.int .i64 10)).run Tryz.prog w = .ok (.int .u64 (wd N 10)) w := by kernel_rfl
theorem idxS11 (N : Nat) (w : World) : (Instr.index 76 (.agg (setC N)) (.int .i64 11)).run Tryz.prog w = .ok (.int .u64 (wd N 11)) w := by kernel_rfl
theorem idxS12 (N : Nat) (w : World) : (Instr.index 76 (.agg (setC N)) (.int .i64 12)).run Tryz.prog w = .ok (.int .u64 (wd N 12)) w := by kernel_rfl
theorem idxS13 (N : Nat) (w : World) : (Instr.index 76 (.agg (setC N)) (.int .i64 13)).run Tryz.prog w = .ok (.int .u64 (wd N 13)) w := by kernel_rfl
theorem idxS14 (N : Nat) (w : World) : (Instr.index 76 (.agg (setC N)) (.int .i64 14)).run Tryz.prog w = .ok (.int .u64 (wd N 14)) w := by kernel_rfl
theorem idxS15 (N : Nat) (w : World) : (Instr.index 76 (.agg (setC N)) (.int .i64 15)).run Tryz.prog w = .ok (.int .u64 (wd N 15)) w := by kernel_rfl
theorem idx_Set (N i : Nat) (hi : i < 16) (w : World) : (Instr.index 76 (.agg (setC N)) (.int .i64 i)).run Tryz.prog w = .ok (.int .u64 (wd N i)) w := by
 have : i = 0 ∨ i = 1 ∨ i = 2 ∨ i = 3 ∨ i = 4 ∨ i = 5 ∨ i = 6 ∨ i = 7 ∨ i = 8 ∨ i = 9 ∨ i = 10 ∨ i = 11 ∨ i = 12 ∨ i = 13 ∨ i = 14 ∨ i = 15 := by omega
 rcases this with rfl | rfl | rfl | rfl | rfl | rfl | rfl | rfl | rfl | rfl | rfl | rfl | rfl | rfl | rfl | rfl
 ·exact idxS0 N w
 ·exact idxS1 N w
 ·exact idxS2 N w
 ·exact idxS3 N w
 ·exact idxS4 N w
 ·exact idxS5 N w
 ·exact idxS6 N w
 ·exact idxS7 N w
 ·exact idxS8 N w
 ·exact idxS9 N w
 ·exact idxS10 N w
 ·exact idxS11 N w
 ·exact idxS12 N w
 ·exact idxS13 N w
 ·exact idxS14 N w
 ·exact idxS15 N w
set_option maxRecDepth 100000 in
set_option maxHeartbeats 1000000 in
theorem slen_any (N : Nat) (w : World) : Calls Tryz.prog 48 #[.agg (setC N)] w fun e w' => e = .returned (.int .i64 (cntF N 1024)) ∧ Ext w w' := by
 have hB := Blk.new w 76 (setC N)
 have hx0 := hide (ext_self1 w (.cells (setC N) 76))
 generalize hw1 : w.alloc (.cells (setC N) 76) = w1 at *
 have hself := Ext.refl w1
 have hidx := idx_Set N
 have e0 := hB.cells 0 (v := .int .u64 (wd N 0)) rfl
 have e1 := hB.cells 1 (v := .int .u64 (wd N 1)) rfl
 have e2 := hB.cells 2 (v := .int .u64 (wd N 2)) rfl
 have e3 := hB.cells 3 (v := .int .u64 (wd N 3)) rfl
 have e4 := hB.cells 4 (v := .int .u64 (wd N 4)) rfl
 have e5 := hB.cells 5 (v := .int .u64 (wd N 5)) rfl
 have e6 := hB.cells 6 (v := .int .u64 (wd N 6)) rfl
 have e7 := hB.cells 7 (v := .int .u64 (wd N 7)) rfl
 have e8 := hB.cells 8 (v := .int .u64 (wd N 8)) rfl
 have e9 := hB.cells 9 (v := .int .u64 (wd N 9)) rfl
 have e10 := hB.cells 10 (v := .int .u64 (wd N 10)) rfl
 have e11 := hB.cells 11 (v := .int .u64 (wd N 11)) rfl
 have e12 := hB.cells 12 (v := .int .u64 (wd N 12)) rfl
 have e13 := hB.cells 13 (v := .int .u64 (wd N 13)) rfl
 have e14 := hB.cells 14 (v := .int .u64 (wd N 14)) rfl
 have e15 := hB.cells 15 (v := .int .u64 (wd N 15)) rfl
 clear hB
 subst hw1
 go_enter Tryz.func48,Tryz.ntmps48
 go_wp2_with fail
 go_loop [3,7] (fun n i => ∃ k : Nat,k ≤ 16 ∧ i = .int .i64 k ∧ n = .int .i64 (cntF N (64 * k))) (fun _ i => 16 - (intOf i).toNat)
 case atStart => exact ⟨0,by omega,rfl,rfl⟩
 case round =>
  obtain ⟨k,hk,rfl,rfl⟩ := hrel
  by_cases hlt : k < 16
  ·have hix := idx_Set N k hlt
   unfold setC at hix
   have hc := hide (cnt_words N k)
   have hle := cntF_le N (64 * k)
   have hle2 := cntF_le (wdN N k) 64
   go_wp2_with ((with_reducible refine (ones_wd N k _).mono ?_); rintro e w' ⟨rfl,rfl⟩)
   go_round
   case rel => exact ⟨k + 1,by omega,by go_num,by rw [unhide hc]; go_num⟩
   case measure => simp [intOf]; omega
  ·have : k = 16 := by omega
   subst this
   go_wp2_with fail
   go_ret
   exact ⟨rfl,unhide hx0⟩
end Go.Proofs.YtoacpebmhbkmbaaGreatDoor
namespace Go.Proofs.YtoacpebmhbkmbaaGreatDoor
open Go Go.RowKit
attribute [local go_sem] qUpon lUpon
def Tab (w : World) : Prop := TabAt 0 Lib.deBruijn64tab w
theorem Tab.lt {w : World} (h : Tab w) : 0 < w.heap.size := World.block_lt_of_cell? w _ (h 0 (by decide))
theorem Tab.keep {w w' : World} {S : List Nat} (h : Tab w) (k : Keep S w w') (hS : 0 ∉ S) : Tab w' := fun j hj => by
 rw [World.cell?_of_block (k.block _ h.lt hS)]
 exact h j hj
theorem Tab.ext {w w' : World} (h : Tab w) (k : Ext w w') : Tab w' := h.keep (k.keep []) (by simp)
set_option maxHeartbeats 1000000 in
theorem tz_core (x k idx : Nat) (w : World) (hx0 : ((x : Int) == 0) = false)
  (key : IntKind.u64.wrap (bits BinOp.and IntKind.u64 (x : Int) (IntKind.u64.wrap (-(x : Int))) * 285870213051353865) / 288230376151711744 = (idx : Int))
  (hi : idx < 64) (hk : k < 64) (hcell : w.cell? ⟨0,idx,none⟩ = some (.int .u8 k)) :
  Calls Tryz.prog 140 #[.int .u64 (x : Int)] w fun e w' => e = .returned (.int .i64 k) ∧ w' = w := by
 go_enter Tryz.func140,Tryz.ntmps140
 go_wp2_with (simp only [key])
 go_ret
 exact ⟨rfl,rfl⟩
theorem tz_any (x : Nat) (hx0 : x ≠ 0) (hx : x < 18446744073709551616) (w : World) (hT : Tab w) :
  Calls Tryz.prog 140 #[.int .u64 (x : Int)] w fun e w' => e = .returned (.int .i64 (Lib.ctz 64 x)) ∧ w' = w := by
 obtain ⟨hlow,hk⟩ := Lib.lowest_bit 64 x hx0 hx
 obtain ⟨hi,htab⟩ := Lib.deBruijn64_at _ hk
 have hcell := hT _ hi
 rw [htab] at hcell
 exact tz_core x _ _ w (by simp; omega) (tz64_key x _ hx hx0 hlow) hi hk hcell
theorem tz_wd (N k : Nat) (h0 : wdN N k ≠ 0) (w : World) (hT : Tab w) :
  Calls Tryz.prog 140 #[.int .u64 (wd N k)] w fun e w' => e = .returned (.int .i64 (Lib.ctz 64 (wdN N k))) ∧ w' = w := tz_any (wdN N k) h0 (wdN_lt N k) w hT
set_option maxRecDepth 100000 in
set_option maxHeartbeats 1000000 in
theorem min_any (N : Nat) (w : World) (hT : Tab w) : Calls Tryz.prog 113 #[.agg (setC N)] w fun e w' => e = .returned (.tuple #[.int .i64 (minV N), .bool (anyB N)]) ∧ Ext w w' := by
 have hT' := hide (hT.ext (ext_self1 w (.cells (setC N) 76)))
 have hB := Blk.new w 76 (setC N)
 have hx0 := hide (ext_self1 w (.cells (setC N) 76))
 generalize hw1 : w.alloc (.cells (setC N) 76) = w1 at *
 have hself := Ext.refl w1
 have e0 := hB.cells 0 (v := .int .u64 (wd N 0)) rfl
 have e1 := hB.cells 1 (v := .int .u64 (wd N 1)) rfl
 have e2 := hB.cells 2 (v := .int .u64 (wd N 2)) rfl
 have e3 := hB.cells 3 (v := .int .u64 (wd N 3)) rfl
 have e4 := hB.cells 4 (v := .int .u64 (wd N 4)) rfl
 have e5 := hB.cells 5 (v := .int .u64 (wd N 5)) rfl
 have e6 := hB.cells 6 (v := .int .u64 (wd N 6)) rfl
 have e7 := hB.cells 7 (v := .int .u64 (wd N 7)) rfl
 have e8 := hB.cells 8 (v := .int .u64 (wd N 8)) rfl
 have e9 := hB.cells 9 (v := .int .u64 (wd N 9)) rfl
 have e10 := hB.cells 10 (v := .int .u64 (wd N 10)) rfl
 have e11 := hB.cells 11 (v := .int .u64 (wd N 11)) rfl
 have e12 := hB.cells 12 (v := .int .u64 (wd N 12)) rfl
 have e13 := hB.cells 13 (v := .int .u64 (wd N 13)) rfl
 have e14 := hB.cells 14 (v := .int .u64 (wd N 14)) rfl
 have e15 := hB.cells 15 (v := .int .u64 (wd N 15)) rfl
 clear hB hT
 subst hw1
 go_enter Tryz.func113,Tryz.ntmps113
 go_wp2_with fail
 go_loop [7] (fun i => ∃ k : Nat,k ≤ 16 ∧ i = .int .i64 k ∧ zeroTo N k) (fun i => 16 - (intOf i).toNat)
 case atStart => exact ⟨0,by omega,rfl,fun j hj => by omega⟩
 case round =>
  obtain ⟨k,hk,rfl,hz⟩ := hrel
  by_cases hlt : k < 16
  ·have hix := idx_Set N k hlt
   unfold setC at hix
   by_cases hw : wdN N k = 0
   ·have hwd : wd N k = 0 := by unfold wd; rw [hw]; rfl
    have hn := hide (zeroTo_next hz hw)
    clear hw hz
    go_wp2_with fail
    go_round
    case rel => exact ⟨k + 1,by omega,by go_num,unhide hn⟩
    case measure => simp [intOf]; omega
   ·have hwd : (wd N k == 0) = false := by unfold wd; simp; omega
    have hl := hide (toL_word hlt hz hw)
    have hw' := hide hw
    obtain ⟨h64,_,_⟩ := ctz_bit hw (wdN_lt N k)
    clear hw hz
    go_wp2_with fail
    refine (tz_wd N k (unhide hw') _ (unhide hT')).mono ?_
    rintro e w' ⟨rfl,rfl⟩
    have e1 := unhide hl
    generalize Lib.ctz 64 (wdN N k) = c at *
    have s1 : IntKind.i64.wrap (64 * (k : Int)) = 64 * (k : Int) := IntWalk.i64_in _ (by omega)
    have s2 : IntKind.i64.wrap (64 * (k : Int) + (c : Int)) = ((64 * k + c : Nat) : Int) := by rw [IntWalk.i64_in _ (by omega)]; omega
    have e2 := hide e1
    clear e1 hl
    go_wp2_with fail
    go_ret2
    rw [(min_cons (unhide e2)).1,(min_cons (unhide e2)).2]
    exact ⟨rfl,unhide hx0⟩
  ·have : k = 16 := by omega
   subst this
   have hl := hide (toL_zero hz)
   clear hz
   go_wp2_with fail
   go_ret2
   rw [(min_nil (unhide hl)).1,(min_nil (unhide hl)).2]
   exact ⟨rfl,unhide hx0⟩
end Go.Proofs.YtoacpebmhbkmbaaGreatDoor
