/- The hash, told in plain Lean: words, the schedule, a round, a block. -/
import Derived.Test.YtelnnegfkdfpiaaGreatDoorSha1
import Derived.WalkKit
import Derived.WalkSpells
import Derived.WalkLawsBesides
import Derived.Lib.Hide
namespace Go.Proofs.YtelnnegfkdfpiaaGreatDoor
open Go.RowKit

def kz : List Nat := [1116352408, 1899447441, 3049323471, 3921009573, 961987163, 1508970993, 2453635748, 2870763221, 3624381080, 310598401, 607225278, 1426881987, 1925078388, 2162078206, 2614888103, 3248222580, 3835390401, 4022224774, 264347078, 604807628, 770255983, 1249150122, 1555081692, 1996064986, 2554220882, 2821834349, 2952996808, 3210313671, 3336571891, 3584528711, 113926993, 338241895, 666307205, 773529912, 1294757372, 1396182291, 1695183700, 1986661051, 2177026350, 2456956037, 2730485921, 2820302411, 3259730800, 3345764771, 3516065817, 3600352804, 4094571909, 275423344, 430227734, 506948616, 659060556, 883997877, 958139571, 1322822218, 1537002063, 1747873779, 1955562222, 2024104815, 2227730452, 2361852424, 2428436474, 2756734187, 3204031479, 3329325298]
def kW (i : Nat) : W32 := BitVec.ofNat 32 (kz.getD i 0)
structure St where
  a : W32
  b : W32
  c : W32
  d : W32
  e : W32
  f : W32
  g : W32
  h : W32
def St.l (v : St) : List W32 := [v.a, v.b, v.c, v.d, v.e, v.f, v.g, v.h]
def wordAt (l : List UInt8) : W32 := BitVec.ofNat 32 ((l.getD 0 0).toNat * 16777216 + (l.getD 1 0).toNat * 65536 + (l.getD 2 0).toNat * 256 + (l.getD 3 0).toNat)
def sig0 (x : W32) : W32 := wx (wx (rr x 7) (rr x 18)) (sr x 3)
def sig1 (x : W32) : W32 := wx (wx (rr x 17) (rr x 19)) (sr x 10)
def wS (l : List UInt8) (i : Nat) : W32 := if h : i < 16 then wordAt (l.drop (4 * i)) else wp (wp (wp (wS l (i - 16)) (sig0 (wS l (i - 15)))) (wS l (i - 7))) (sig1 (wS l (i - 2)))
termination_by i
decreasing_by all_goals omega
theorem wS_lo (l : List UInt8) (i : Nat) (h : i < 16) : wS l i = wordAt (l.drop (4 * i)) := by rw [wS, dif_pos h]
theorem wS_hi (l : List UInt8) (i : Nat) (h : ¬ i < 16) : wS l i = wp (wp (wp (wS l (i - 16)) (sig0 (wS l (i - 15)))) (wS l (i - 7))) (sig1 (wS l (i - 2))) := by rw [wS, dif_neg h]
def big1 (v : St) : W32 := wx (wx (rr v.e 6) (rr v.e 11)) (rr v.e 25)
def cho (v : St) : W32 := wx (wa v.e v.f) (wa (wn v.e) v.g)
def big0 (v : St) : W32 := wx (wx (rr v.a 2) (rr v.a 13)) (rr v.a 22)
def maj (v : St) : W32 := wx (wx (wa v.a v.b) (wa v.a v.c)) (wa v.b v.c)
def tee (v : St) (k w : W32) : W32 := wp (wp (wp (wp v.h (big1 v)) (cho v)) k) w
def rnd (v : St) (k w : W32) : St := ⟨wp (wp (tee v k w) (big0 v)) (maj v), v.a, v.b, v.c, wp v.d (tee v k w), v.e, v.f, v.g⟩
def rds (l : List UInt8) (v : St) : Nat → St
  | 0 => v
  | i + 1 => rnd (rds l v i) (kW i) (wS l i)
def St.plus (v r : St) : St := ⟨wp v.a r.a, wp v.b r.b, wp v.c r.c, wp v.d r.d, wp v.e r.e, wp v.f r.f, wp v.g r.g, wp v.h r.h⟩
def blkS (l : List UInt8) (v : St) : St := v.plus (rds l v 64)
def U (x : W32) : Value := .int .u32 x.toNat
def I (x : W32) : Value := .int .i64 x.toNat
def U1 (x : W32) : List Value := [.int .u32 x.toNat]
def I1 (x : W32) : List Value := [.int .i64 x.toNat]
theorem sum7 (a b c d e f g : W32) : ((a.toNat : Int) + b.toNat + c.toNat + d.toNat + e.toNat + (f.toNat + g.toNat)) % 4294967296 = ((wp (wp (wp (wp (wp (wp a b) c) d) e) f) g).toNat : Int) := by
  simp only [wp, BitVec.toNat_add]; omega
theorem sum7L (a b c d e f g : W32) : ((a.toNat : Int) + b.toNat + c.toNat + d.toNat + e.toNat + f.toNat + g.toNat) % 4294967296 = ((wp (wp (wp (wp (wp (wp a b) c) d) e) f) g).toNat : Int) := by
  simp only [wp, BitVec.toNat_add]; omega
theorem sum6 (p a b c d e : W32) : ((p.toNat : Int) + (a.toNat + b.toNat + c.toNat + d.toNat + e.toNat)) % 4294967296 = ((wp p (wp (wp (wp (wp a b) c) d) e)).toNat : Int) := by
  simp only [wp, BitVec.toNat_add]; omega
theorem sum4 (a b c d : W32) : ((a.toNat : Int) + b.toNat + c.toNat + d.toNat) % 4294967296 = ((wp (wp (wp a b) c) d).toNat : Int) := by
  simp only [wp, BitVec.toNat_add]; omega
/-- the table of the program -/
def Tab (w : World) : Prop := ∀ i : Nat, i < 64 → w.cell? ⟨0, i, none⟩ = some (.int .u32 (kW i).toNat)
theorem Tab.pos {w : World} (h : Tab w) : 0 < w.heap.size := by
  have := h 0 (by decide)
  rcases Nat.eq_zero_or_pos w.heap.size with h0 | h0
  · simp [World.cell?, Array.getElem?_eq_none (show w.heap.size ≤ 0 by omega)] at this
  · exact h0
theorem Tab.below {B : Nat} {w w' : World} (h : Tab w) (hb : Below B w w') (hB : 0 < B) : Tab w' := fun i hi => by
  rw [hb.cell (p := ⟨0, i, none⟩) hB]; exact h i hi
theorem Tab.alloc {w : World} (h : Tab w) (o : Obj) : Tab (w.alloc o) := h.below ((Below.refl _ _).alloc (Nat.le_refl _) o) h.pos
/-- four bytes of a text -/
theorem or_bytes (k : IntKind) (hk : k = .u32 ∨ k = .i64) (a b c d : UInt8) :
    bits .or k ((a.toNat : Int) * 16777216) ((b.toNat : Int) * 65536) = ((a.toNat : Int) * 16777216 + (b.toNat : Int) * 65536) ∧
    bits .or k ((a.toNat : Int) * 16777216 + (b.toNat : Int) * 65536) ((c.toNat : Int) * 256) = ((a.toNat : Int) * 16777216 + (b.toNat : Int) * 65536 + (c.toNat : Int) * 256) ∧
    bits .or k ((a.toNat : Int) * 16777216 + (b.toNat : Int) * 65536 + (c.toNat : Int) * 256) (d.toNat : Int) = ((a.toNat : Int) * 16777216 + (b.toNat : Int) * 65536 + (c.toNat : Int) * 256 + (d.toNat : Int)) := by
  have ha := a.toNat_lt; have hb := b.toNat_lt; have hc := c.toNat_lt; have hd := d.toNat_lt
  have main : ∀ (x y i : Nat), y < 2 ^ i → 2 ^ i * x + y < 2 ^ 32 → bits .or k ((2 ^ i * x : Nat) : Int) (y : Int) = ((2 ^ i * x + y : Nat) : Int) := by
    intro x y i hy hlt
    have e1 : ∀ z : Nat, z < 2 ^ 32 → (BitVec.ofInt k.bits (z : Int)).toNat = z := by
      intro z hz
      rw [BitVec.ofInt_natCast, BitVec.toNat_ofNat]
      rcases hk with rfl | rfl
      · exact Nat.mod_eq_of_lt (by show z < 2 ^ 32; omega)
      · exact Nat.mod_eq_of_lt (by show z < 2 ^ 64; omega)
    have e2 : ∀ z : Nat, z < 2 ^ 32 → k.wrap (z : Int) = z := by
      intro z hz
      rcases hk with rfl | rfl
      · exact IntWalk.u32_in _ (by omega)
      · exact IntWalk.i64_in _ (by omega)
    simp only [bits, BitVec.toNat_or]
    rw [e1 _ (by omega), e1 y (by omega), ← Nat.two_pow_add_eq_or_of_lt hy x]
    exact e2 _ hlt
  have g2 := main (a.toNat * 256 + b.toNat) (c.toNat * 256) 16 (by omega) (by omega)
  have g3 := main (a.toNat * 65536 + b.toNat * 256 + c.toNat) d.toNat 8 (by omega) (by omega)
  refine ⟨?_, ?_, ?_⟩
  · have h1 := main a.toNat (b.toNat * 65536) 24 (by omega) (by omega)
    rw [show ((2 ^ 24 * a.toNat : Nat) : Int) = (a.toNat : Int) * 16777216 from by omega, show ((b.toNat * 65536 : Nat) : Int) = (b.toNat : Int) * 65536 from by omega] at h1
    rw [h1]; omega
  · rw [show ((2 ^ 16 * (a.toNat * 256 + b.toNat) : Nat) : Int) = (a.toNat : Int) * 16777216 + (b.toNat : Int) * 65536 from by omega, show ((c.toNat * 256 : Nat) : Int) = (c.toNat : Int) * 256 from by omega] at g2
    rw [g2]; omega
  · rw [show ((2 ^ 8 * (a.toNat * 65536 + b.toNat * 256 + c.toNat) : Nat) : Int) = (a.toNat : Int) * 16777216 + (b.toNat : Int) * 65536 + (c.toNat : Int) * 256 from by omega] at g3
    rw [g3]; omega
theorem wordAt_int (s : ByteArray) (k : Nat) (h : k + 4 ≤ s.size) : ((s[k]'(by omega)).toNat : Int) * 16777216 + ((s[k + 1]'(by omega)).toNat : Int) * 65536 + ((s[k + 2]'(by omega)).toNat : Int) * 256 + ((s[k + 3]'(by omega)).toNat : Int) = (wordAt (s.data.toList.drop k)).toNat := by
  have e : ∀ j, (hj : k + j < s.size) → ((s.data.toList.drop k).getD j 0) = s[k + j] := by
    intro j hj
    rw [List.getD_eq_getElem?_getD, List.getElem?_drop, List.getElem?_eq_getElem (by simpa using hj)]
    simp [ByteArray.getElem_eq_getElem_data]
  unfold wordAt
  rw [e 0 (by omega), e 1 (by omega), e 2 (by omega), e 3 (by omega), BitVec.toNat_ofNat]
  have h0 := (s[k]'(by omega)).toNat_lt; have h1 := (s[k + 1]'(by omega)).toNat_lt; have h2 := (s[k + 2]'(by omega)).toNat_lt; have h3 := (s[k + 3]'(by omega)).toNat_lt
  simp only [Nat.add_zero]
  omega
theorem word_any (s : ByteArray) (w : World) (hs : 4 ≤ s.size) : Calls Tryz.prog 120 #[.string s] w fun e w' => e = .returned (.int .u32 (wordAt s.data.toList).toNat) ∧ w' = w.drew := by
  have hw := wordAt_int s 0 (by omega)
  obtain ⟨f1, f2, f3⟩ := or_bytes .u32 (.inl rfl) (s[0]'(by omega)) (s[1]'(by omega)) (s[2]'(by omega)) (s[3]'(by omega))
  have b0 := (s[0]'(by omega)).toNat_lt; have b1 := (s[1]'(by omega)).toNat_lt; have b2 := (s[2]'(by omega)).toNat_lt; have b3 := (s[3]'(by omega)).toNat_lt
  have HW := Lib.hid hw
  clear hw
  have i0 : 0 < s.size := by omega
  have i1 : (1 : Int) < (s.size : Int) := by omega
  have i2 : (2 : Int) < (s.size : Int) := by omega
  have i3 : (3 : Int) < (s.size : Int) := by omega
  go_enter Tryz.func120, Tryz.ntmps120
  go_wp2
  go_region
  go_wp2
  go_ret
  exact ⟨congrArg (fun v => Ending.returned (Value.int .u32 v)) HW.out, rfl⟩
end Go.Proofs.YtelnnegfkdfpiaaGreatDoor
