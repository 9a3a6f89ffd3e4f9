/- SHA-256 in plain words; the words' turns on both sides. -/
import Derived.Test.YtcmpcpigchlhpaaDoorEs
import Derived.Test.YtcmpcpigchlhpaaDoorGa
import Derived.Lib.LaidTab

namespace Go.Proofs.YtcmpcpigchlhpaaDoor
set_option linter.unusedSectionVars false
open Go.Av
variable [Av.Start]
set_option maxRecDepth 10000
set_option maxHeartbeats 1000000
set_option linter.unusedSimpArgs false
set_option linter.unusedVariables false

/-- a package's table of numbers -/
theorem gvar_tab {P : Program} {n : String} {g : Nat} {k : IntKind} {zs : List Int} (hg : P.globalNamed n = some g) (h : Lib.TabIs P Av.Start.w0 n k zs) : GVar g (zs.map (.int k)) := by
  intro w σ hp hi
  have hc : ∀ i, i < zs.length → Av.Start.w0.cell? ⟨g, i, none⟩ = some (.int k (zs.getD i 0)) := fun i hi => by
    rw [World.var?_cell hg h i, List.getElem?_toArray, List.getElem?_map, List.getElem?_eq_getElem hi, List.getD_eq_getElem?_getD, List.getElem?_eq_getElem hi]
    rfl
  refine .vptr _ g 0 (fun i => .int k (zs.getD i 0)) (fun i hi2 => ?_) (fun i hi2 => ?_)
  · rw [List.length_map] at hi2
    have := hc i hi2
    rw [Nat.zero_add]
    refine ⟨fun ho => ?_, hi.cell0 this⟩
    have h1 := hi.kept.free _ _ ho
    have h2 := World.block_lt_of_cell? (w := Av.Start.w0) (a := ⟨g, i, none⟩) this
    have h2 : g < Av.Start.w0.heap.size := h2
    omega
  · rw [List.getElem_map]
    rw [List.length_map] at hi2
    simp only [List.getD_eq_getElem?_getD, List.getElem?_eq_getElem hi2, Option.getD_some]
    exact .int _ _

/-! ### words -/
abbrev u32 (n : Int) : Int := IntKind.u32.wrap n
def W32 (n : Int) : Prop := 0 ≤ n ∧ n < 4294967296
theorem u32_id {n : Int} (h : W32 n) : u32 n = n := by
  obtain ⟨h0, h1⟩ := h
  show n % 4294967296 = n
  omega
theorem u32_w (n : Int) : W32 (u32 n) := by
  show 0 ≤ n % 4294967296 ∧ n % 4294967296 < 4294967296
  omega
/-- a word turned to the right -/
def rotV (x : Int) (n : Nat) : Int := bitI .or .u32 (x.fdiv (2 ^ n)) (u32 (x * 2 ^ (32 - n)))
theorem bitI_w (op : BinOp) (a b : Int) : W32 (bitI op .u32 a b) := by
  unfold bitI
  split <;> exact u32_w _
theorem rotV_w (x : Int) (n : Nat) : W32 (rotV x n) := bitI_w _ _ _
theorem or_comm32 (a b : Int) : bitI .or .u32 a b = bitI .or .u32 b a := by
  simp only [bitI]
  rw [BitVec.or_comm]
theorem specTurn_gives (x : Int) (n : Nat) (h : Hp) (hn : 1 ≤ n ∧ n ≤ 31) : Gives Tryd.prog 89 [.int .u32 x, .int .i64 n] h (.int .u32 (rotV x n)) := by
  have w1 : IntKind.i64.wrap (32 - (n : Int)) = 32 - n := wrap_id (by omega) (by omega)
  have m1 : min n 32 = n := by omega
  have m2 : min (32 - (n : Int)).toNat 32 = 32 - n := by omega
  refine meets_of [] mixed Tryd.func89 rfl (by kernel_rfl) (by kernel_rfl) (by rw [Tryd.ntmps89]; simp only [List.length_cons, List.length_nil]; omega) (fun hf => ?_)
  rw [Tryd.results89]
  clear hf
  try simp -implicitDefEqProofs only [w1, m1, m2, IntKind.bits, push_cast, Nat.reduceEqDiff, Nat.reduceBEq, Nat.reduceBNe, Nat.reduceAdd, Nat.reduceMul, Nat.reduceLT, Nat.reduceLeDiff, Nat.reduceSub, reduceCtorEq, Int.reduceToNat, ↓reduceIte]
  repeat'
    (first
     | (refine uYes ?_; first | exact List.mem_cons_self | (simp only [List.mem_cons, List.not_mem_nil, or_false, true_or, or_true]; done))
     | (refine uNo (by kernel_rfl))
     | (refine flatMk ?_; kernel_rfl)
     | (refine And.intro ?_ ?_)
     | (intro hx)
     | ((first
         | (refine callGF ?_)
         | (refine callQGF ?_)
         | (refine skipG ?_)
         | (refine callS (in_gives _ _ _ _) ?_)
         | (refine callQ (in_gives _ _ _ _) ?_)
         | (refine callG (fun hc => (in_gives _ _ _ _)) ?_)
         | (refine callQG (fun hc => (in_gives _ _ _ _)) ?_)); simp -implicitDefEqProofs only [w1, m1, m2, IntKind.bits, push_cast, Nat.reduceEqDiff, Nat.reduceBEq, Nat.reduceBNe, Nat.reduceAdd, Nat.reduceMul, Nat.reduceLT, Nat.reduceLeDiff, Nat.reduceSub, reduceCtorEq, Int.reduceToNat, ↓reduceIte]))
  all_goals first
    | omega
    | rfl
    | trace_state
theorem and31 : ∀ n : Fin 32, 1 ≤ n.val → bitI .and .u64 (IntKind.u64.wrap (-(n.val : Int))) 31 = 32 - (n.val : Int) := by decide +kernel
theorem rotLeft_gives (x : Int) (n : Nat) (h : Hp) (hn : 1 ≤ n ∧ n ≤ 31) : Gives Tryd.prog 85 [.int .u32 x, .int .i64 (-n)] h (.int .u32 (rotV x n)) := by
  have w1 := and31 ⟨n, by omega⟩ hn.1
  simp only at w1
  have w2 : IntKind.u64.wrap (32 - (32 - (n : Int))) = n := by
    rw [show IntKind.u64.wrap (32 - (32 - (n : Int))) = (32 - (32 - (n : Int))) % 18446744073709551616 from rfl]
    omega
  have m1 : min n 32 = n := by omega
  have m2 : min (32 - (n : Int)).toNat 32 = 32 - n := by omega
  refine meets_of [] mixed Tryd.func85 rfl (by kernel_rfl) (by kernel_rfl) (by rw [Tryd.ntmps85]; simp only [List.length_cons, List.length_nil]; omega) (fun hf => ?_)
  rw [Tryd.results85]
  clear hf
  try simp -implicitDefEqProofs only [w1, w2, m1, m2, IntKind.bits, push_cast, Nat.reduceEqDiff, Nat.reduceBEq, Nat.reduceBNe, Nat.reduceAdd, Nat.reduceMul, Nat.reduceLT, Nat.reduceLeDiff, Nat.reduceSub, reduceCtorEq, Int.reduceToNat, ↓reduceIte]
  repeat'
    (first
     | (refine uYes ?_; first | exact List.mem_cons_self | (simp only [List.mem_cons, List.not_mem_nil, or_false, true_or, or_true]; done))
     | (refine uNo (by kernel_rfl))
     | (refine flatMk ?_; kernel_rfl)
     | (refine And.intro ?_ ?_)
     | (intro hx)
     | ((first
         | (refine callGF ?_)
         | (refine callQGF ?_)
         | (refine skipG ?_)
         | (refine callS (in_gives _ _ _ _) ?_)
         | (refine callQ (in_gives _ _ _ _) ?_)
         | (refine callG (fun hc => (in_gives _ _ _ _)) ?_)
         | (refine callQG (fun hc => (in_gives _ _ _ _)) ?_)); simp -implicitDefEqProofs only [w1, w2, m1, m2, IntKind.bits, push_cast, Nat.reduceEqDiff, Nat.reduceBEq, Nat.reduceBNe, Nat.reduceAdd, Nat.reduceMul, Nat.reduceLT, Nat.reduceLeDiff, Nat.reduceSub, reduceCtorEq, Int.reduceToNat, ↓reduceIte]))
  all_goals first
    | omega
    | (rw [rotV, or_comm32]; done)
    | trace_state
theorem right_gives (x : Int) (n : Nat) (h : Hp) (hn : 1 ≤ n ∧ n ≤ 31) : Gives Tryd.prog 67 [.int .u32 x, .int .i64 n] h (.int .u32 (rotV x n)) := by
  have w1 : IntKind.i64.wrap (0 - (n : Int)) = -n := by rw [wrap_id (by omega) (by omega)]; omega
  refine meets_of [] mixed Tryd.func67 rfl (by kernel_rfl) (by kernel_rfl) (by rw [Tryd.ntmps67]; simp only [List.length_cons, List.length_nil]; omega) (fun hf => ?_)
  rw [Tryd.results67]
  clear hf
  try simp -implicitDefEqProofs only [w1, push_cast, Nat.reduceEqDiff, Nat.reduceBEq, Nat.reduceBNe, Nat.reduceAdd, Nat.reduceMul, Nat.reduceLT, Nat.reduceLeDiff, Nat.reduceSub, reduceCtorEq, Int.reduceToNat, ↓reduceIte]
  repeat'
    (first
     | (refine uYes ?_; first | exact List.mem_cons_self | (simp only [List.mem_cons, List.not_mem_nil, or_false, true_or, or_true]; done))
     | (refine uNo (by kernel_rfl))
     | (refine flatMk ?_; kernel_rfl)
     | (refine And.intro ?_ ?_)
     | (intro hx)
     | ((first
         | (refine callGF ?_)
         | (refine callQGF ?_)
         | (refine skipG ?_)
         | (refine callS (rotLeft_gives x n _ hn) ?_)
         | (refine callQ (rotLeft_gives x n _ hn) ?_)
         | (refine callG (fun hc => (rotLeft_gives x n _ hn)) ?_)
         | (refine callQG (fun hc => (rotLeft_gives x n _ hn)) ?_)); simp -implicitDefEqProofs only [w1, push_cast, Nat.reduceEqDiff, Nat.reduceBEq, Nat.reduceBNe, Nat.reduceAdd, Nat.reduceMul, Nat.reduceLT, Nat.reduceLeDiff, Nat.reduceSub, reduceCtorEq, Int.reduceToNat, ↓reduceIte]))
  all_goals first
    | omega
    | rfl
    | trace_state
end Go.Proofs.YtcmpcpigchlhpaaDoor

/- SHA-256 in plain words: the schedule, the rounds, a block. -/
namespace Go.Proofs.YtcmpcpigchlhpaaDoor
set_option linter.unusedSectionVars false
open Go.Av
variable [Av.Start]
set_option maxRecDepth 10000
set_option maxHeartbeats 1000000
set_option linter.unusedSimpArgs false
set_option linter.unusedVariables false

def cubesL : List Int := [1116352408, 1899447441, 3049323471, 3921009573, 961987163, 1508970993, 2453635748, 2870763221, 3624381080, 310598401, 607225278, 1426881987, 1925078388, 2162078206, 2614888103, 3248222580, 3835390401, 4022224774, 264347078, 604807628, 770255983, 1249150122, 1555081692, 1996064986, 2554220882, 2821834349, 2952996808, 3210313671, 3336571891, 3584528711, 113926993, 338241895, 666307205, 773529912, 1294757372, 1396182291, 1695183700, 1986661051, 2177026350, 2456956037, 2730485921, 2820302411, 3259730800, 3345764771, 3516065817, 3600352804, 4094571909, 275423344, 430227734, 506948616, 659060556, 883997877, 958139571, 1322822218, 1537002063, 1747873779, 1955562222, 2024104815, 2227730452, 2361852424, 2428436474, 2756734187, 3204031479, 3329325298]
def rootsL : List Int := [1779033703, 3144134277, 1013904242, 2773480762, 1359893119, 2600822924, 528734635, 1541459225]
class TabSha [Av.Start] : Prop where
  cubes : GVar 2 (cubesL.map (.int .u32))
  roots : GVar 0 (rootsL.map (.int .u32))

abbrev xr (a b : Int) : Int := bitI .xor .u32 a b
abbrev an (a b : Int) : Int := bitI .and .u32 a b
def s0V (x : Int) : Int := xr (xr (rotV x 7) (rotV x 18)) (x.fdiv 8)
def s1V (x : Int) : Int := xr (xr (rotV x 17) (rotV x 19)) (x.fdiv 1024)
def nextW (ws : List Int) : Int := u32 (u32 (u32 (ws.getD (ws.length - 16) 0 + s0V (ws.getD (ws.length - 15) 0)) + ws.getD (ws.length - 7) 0) + s1V (ws.getD (ws.length - 2) 0))
def schedV (ws : List Int) : Nat → List Int
  | 0 => ws
  | k + 1 => schedV ws k ++ [nextW (schedV ws k)]
theorem schedV_len (ws : List Int) : ∀ k, (schedV ws k).length = ws.length + k
  | 0 => rfl
  | k + 1 => by rw [schedV, List.length_append, schedV_len ws k]; rfl
structure S8 where
  a : Int
  b : Int
  c : Int
  d : Int
  e : Int
  f : Int
  g : Int
  h : Int
def S8.l (s : S8) : List Int := [s.a, s.b, s.c, s.d, s.e, s.f, s.g, s.h]
def bigE (e : Int) : Int := xr (xr (rotV e 6) (rotV e 11)) (rotV e 25)
def bigA (a : Int) : Int := xr (xr (rotV a 2) (rotV a 13)) (rotV a 22)
def chV (e f g : Int) : Int := xr (an e f) (an (xr 4294967295 e) g)
def majV (a b c : Int) : Int := xr (xr (an a b) (an a c)) (an b c)
def oneV (s : S8) (k w : Int) : Int := u32 (u32 (u32 (u32 (s.h + bigE s.e) + chV s.e s.f s.g) + k) + w)
def twoV (s : S8) : Int := u32 (bigA s.a + majV s.a s.b s.c)
def rnd (s : S8) (k w : Int) : S8 := ⟨u32 (oneV s k w + twoV s), s.a, s.b, s.c, u32 (s.d + oneV s k w), s.e, s.f, s.g⟩
def rndsV (s : S8) (ws : List Int) : Nat → S8
  | 0 => s
  | i + 1 => rnd (rndsV s ws i) (cubesL.getD i 0) (ws.getD i 0)
def add8 (s v : S8) : S8 := ⟨u32 (s.a + v.a), u32 (s.b + v.b), u32 (s.c + v.c), u32 (s.d + v.d), u32 (s.e + v.e), u32 (s.f + v.f), u32 (s.g + v.g), u32 (s.h + v.h)⟩
/-- a word of four bytes -/
def wordV (bs : List UInt8) (i : Nat) : Int := (bs.getD (4 * i) 0).toNat * 16777216 + (bs.getD (4 * i + 1) 0).toNat * 65536 + (bs.getD (4 * i + 2) 0).toNat * 256 + (bs.getD (4 * i + 3) 0).toNat
def wordsV (bs : List UInt8) (n : Nat) : List Int := (List.range n).map (wordV bs)
def blockV (s : S8) (bs : List UInt8) : S8 := add8 s (rndsV s (schedV (wordsV bs 16) 48) 64)
theorem bitI_or {a b : Int} (ha : W32 a) (hb : W32 b) : bitI .or .u32 a b = ((a.toNat ||| b.toNat : Nat) : Int) := by
  obtain ⟨a0, a1⟩ := ha
  obtain ⟨b0, b1⟩ := hb
  have e : (BitVec.ofInt 32 a ||| BitVec.ofInt 32 b).toNat = a.toNat ||| b.toNat := by
    rw [BitVec.toNat_or, BitVec.toNat_ofInt, BitVec.toNat_ofInt]
    rw [Int.emod_eq_of_lt a0 (by omega), Int.emod_eq_of_lt b0 (by omega)]
  have hl : a.toNat ||| b.toNat < 2 ^ 32 := Nat.or_lt_two_pow (by omega) (by omega)
  show u32 ((BitVec.ofInt 32 a ||| BitVec.ofInt 32 b).toNat : Int) = _
  rw [e]
  exact u32_id ⟨by omega, by omega⟩
theorem or_add {x b : Int} (k : Nat) (hx : 0 ≤ x) (hb : 0 ≤ b) (hbk : b < 2 ^ k) (hw : x * 2 ^ k + b < 4294967296) : bitI .or .u32 (x * 2 ^ k) b = x * 2 ^ k + b := by
  have hp : (0 : Int) < 2 ^ k := Int.pow_pos (by omega)
  have h0 : 0 ≤ x * 2 ^ k := Int.mul_nonneg hx (by omega)
  rw [bitI_or ⟨h0, by omega⟩ ⟨hb, by omega⟩]
  obtain ⟨x, rfl⟩ := Int.eq_ofNat_of_zero_le hx
  obtain ⟨b, rfl⟩ := Int.eq_ofNat_of_zero_le hb
  have e1 : ((x : Int) * 2 ^ k).toNat = x <<< k := by
    rw [Nat.shiftLeft_eq]
    have : ((x : Int) * 2 ^ k) = ((x * 2 ^ k : Nat) : Int) := by rw [Int.natCast_mul, Int.natCast_pow]; rfl
    rw [this, Int.toNat_natCast]
  have hb' : b < 2 ^ k := by
    have : ((b : Nat) : Int) < ((2 ^ k : Nat) : Int) := by rw [Int.natCast_pow]; exact hbk
    omega
  rw [e1, Int.toNat_natCast, ← Nat.shiftLeft_add_eq_or_of_lt hb', Nat.shiftLeft_eq]
  rw [Int.natCast_add, Int.natCast_mul, Int.natCast_pow]
  rfl
end Go.Proofs.YtcmpcpigchlhpaaDoor

/- SHA-256: the program's block. -/
namespace Go.Proofs.YtcmpcpigchlhpaaDoor
set_option linter.unusedSectionVars false
open Go.Av
variable [Av.Start] [TabSha]
set_option maxRecDepth 10000
set_option maxHeartbeats 2000000
set_option linter.unusedSimpArgs false
set_option linter.unusedVariables false

/-- the first j bytes of a word -/
def pwV (bs : List UInt8) (i : Nat) : Nat → Int
  | 0 => 0
  | j + 1 => pwV bs i j * 256 + (bs.getD (4 * i + j) 0).toNat
theorem pwV_range (bs : List UInt8) (i : Nat) : ∀ j, 0 ≤ pwV bs i j ∧ pwV bs i j < 256 ^ j
  | 0 => ⟨Int.le_refl _, by show (0 : Int) < 1; decide⟩
  | j + 1 => by
    obtain ⟨h0, h1⟩ := pwV_range bs i j
    have hb : (bs.getD (4 * i + j) 0).toNat < 256 := (bs.getD (4 * i + j) 0).toNat_lt
    rw [pwV, Int.pow_succ]
    omega
theorem pwV_word (bs : List UInt8) (i : Nat) : pwV bs i 4 = wordV bs i := by
  simp only [pwV, wordV, Nat.add_zero]
  omega
theorem pwV_step (bs : List UInt8) (i : Nat) {j : Nat} (hj : j < 4) : bitI .or .u32 (u32 (pwV bs i j * 2 ^ 8)) ((bs.getD (4 * i + j) 0).toNat : Int) = pwV bs i (j + 1) := by
  obtain ⟨h0, h1⟩ := pwV_range bs i j
  have hb : (bs.getD (4 * i + j) 0).toNat < 256 := (bs.getD (4 * i + j) 0).toNat_lt
  have hlt : pwV bs i j < 16777216 := by
    have : j = 0 ∨ j = 1 ∨ j = 2 ∨ j = 3 := by omega
    rcases this with rfl | rfl | rfl | rfl
    · simp only [Int.pow_zero] at h1; omega
    · simp only [Int.pow_one] at h1; omega
    · rw [show (256 : Int) ^ 2 = 65536 from rfl] at h1; omega
    · rw [show (256 : Int) ^ 3 = 16777216 from rfl] at h1; omega
  have e8 : (2 : Int) ^ 8 = 256 := rfl
  have hu : u32 (pwV bs i j * 2 ^ 8) = pwV bs i j * 2 ^ 8 := u32_id ⟨by omega, by omega⟩
  rw [hu, or_add 8 h0 (by omega) (by omega) (by omega), pwV]
  rfl
theorem wordsV_len (bs : List UInt8) (n : Nat) : (wordsV bs n).length = n := by simp [wordsV]
theorem wordsV_succ (bs : List UInt8) (n : Nat) : wordsV bs (n + 1) = wordsV bs n ++ [wordV bs n] := by
  simp [wordsV, List.range_succ]
/-- the row of a block's words -/
def wRow (A : List Int) (v : Int) (n : Nat) : List D := (A ++ v :: List.replicate n 0).map (.int .u32)
theorem wRow_len (A : List Int) (v : Int) (n : Nat) : (wRow A v n).length = A.length + n + 1 := by
  simp [wRow]; omega
theorem wRow_get {A : List Int} {v : Int} {n k : Nat} (h : A.length = k) : ((wRow A v n).drop k).headD .junk = .int .u32 v := by
  subst h
  simp [wRow]
theorem wRow_set {A : List Int} {v x : Int} {n k : Nat} (h : A.length = k) : (wRow A v n).take k ++ D.int .u32 x :: (wRow A v n).drop (k + 1) = wRow A x n := by
  subst h
  simp [wRow, List.drop_append]
theorem wRow_next (A : List Int) (v : Int) (n : Nat) : wRow A v (n + 1) = wRow (A ++ [v]) 0 n := by
  simp [wRow, List.replicate_succ]
theorem wRow_old {A : List Int} {v : Int} {n k : Nat} (h : k < A.length) : ((wRow A v n).drop k).headD .junk = .int .u32 (A.getD k 0) := by
  rw [wRow, ← List.map_drop, List.drop_append_of_le_length (by omega), List.drop_eq_getElem_cons h]
  simp [List.getD_eq_getElem?_getD, List.getElem?_eq_getElem h]
theorem wRow_cl (A : List Int) (v : Int) (n m : Nat) : ∀ d, d ∈ wRow A v n → Cl m d := fun d hd => by
  obtain ⟨x, _, rfl⟩ := List.mem_map.1 hd
  exact .int _ _
/-- a row of words, the rest noughts -/
def fRow (A : List Int) (n : Nat) : List D := (A ++ List.replicate n 0).map (.int .u32)
theorem fRow_succ (A : List Int) (n : Nat) : fRow A (n + 1) = wRow A 0 n := by
  simp [fRow, wRow, List.replicate_succ]
theorem wRow_f (A : List Int) (v : Int) (n : Nat) : wRow A v n = fRow (A ++ [v]) n := by
  simp [fRow, wRow]
theorem fRow_cl (A : List Int) (n m : Nat) : ∀ d, d ∈ fRow A n → Cl m d := fun d hd => by
  obtain ⟨x, _, rfl⟩ := List.mem_map.1 hd
  exact .int _ _
theorem ints32_cl (A : List Int) (m : Nat) : ∀ d, d ∈ A.map (D.int .u32) → Cl m d := fun d hd => by
  obtain ⟨x, _, rfl⟩ := List.mem_map.1 hd
  exact .int _ _
theorem ints32_head {A : List Int} {k : Nat} (h : k < A.length) : ((A.drop k).map (D.int .u32)).headD .junk = .int .u32 (A.getD k 0) := by
  rw [List.drop_eq_getElem_cons h]
  simp [List.getD_eq_getElem?_getD, List.getElem?_eq_getElem h]
/-- a sum to which the first i words are added -/
def addL (s v : S8) (i : Nat) : List Int := (add8 s v).l.take i ++ s.l.drop i
theorem addL_len (s v : S8) {i : Nat} (hi : i ≤ 8) : (addL s v i).length = 8 := by
  simp [addL, S8.l]
  omega
theorem addL_get (s v : S8) {i : Nat} (hi : i < 8) : (addL s v i).getD i 0 = s.l.getD i 0 := by
  have : i = 0 ∨ i = 1 ∨ i = 2 ∨ i = 3 ∨ i = 4 ∨ i = 5 ∨ i = 6 ∨ i = 7 := by omega
  rcases this with rfl | rfl | rfl | rfl | rfl | rfl | rfl | rfl <;> rfl
theorem addL_step (s v : S8) {i : Nat} (hi : i < 8) : (addL s v i).take i ++ u32 (s.l.getD i 0 + v.l.getD i 0) :: (addL s v i).drop (i + 1) = addL s v (i + 1) := by
  have : i = 0 ∨ i = 1 ∨ i = 2 ∨ i = 3 ∨ i = 4 ∨ i = 5 ∨ i = 6 ∨ i = 7 := by omega
  rcases this with rfl | rfl | rfl | rfl | rfl | rfl | rfl | rfl <;> rfl
def z8 : List D := [.int .u32 0, .int .u32 0, .int .u32 0, .int .u32 0, .int .u32 0, .int .u32 0, .int .u32 0, .int .u32 0]
def S8.cs (s : S8) : List D := s.l.map (.int .u32)
theorem S8.cs_is (s : S8) : s.cs = [.int .u32 s.a, .int .u32 s.b, .int .u32 s.c, .int .u32 s.d, .int .u32 s.e, .int .u32 s.f, .int .u32 s.g, .int .u32 s.h] := rfl
theorem z8_cl (m : Nat) : ∀ d, d ∈ z8 → Cl m d := fun d hd => by
  simp only [z8, List.mem_cons, List.not_mem_nil, or_false] at hd
  rcases hd with rfl | rfl | rfl | rfl | rfl | rfl | rfl | rfl <;> exact .int _ _
theorem S8.cs_cl (s : S8) (m : Nat) : ∀ d, d ∈ s.cs → Cl m d := fun d hd => by
  obtain ⟨x, _, rfl⟩ := List.mem_map.1 hd
  exact .int _ _
theorem block_gives (s : S8) (tx : List UInt8) (h : Hp) (ht : 64 ≤ tx.length) (hl : tx.length ≤ 1000000000) : Gives Tryd.prog 47 [.agg s.cs, .str tx] h (.agg (blockV s tx).cs) := by
  refine meets_of [] mixed Tryd.func47 rfl (by kernel_rfl) (by kernel_rfl) (by rw [Tryd.ntmps47]; simp only [List.length_cons, List.length_nil]; omega) (fun hf => ?_)
  rw [Tryd.results47]
  clear hf
  try simp -implicitDefEqProofs only [lenMax, push_cast, Nat.reduceEqDiff, Nat.reduceBEq, Nat.reduceBNe, Nat.reduceAdd, Nat.reduceMul, Nat.reduceLT, Nat.reduceLeDiff, Nat.reduceSub, reduceCtorEq, Int.reduceToNat, ↓reduceIte]
  repeat'
    (first
     | (refine uYes ?_; first | exact List.mem_cons_self | (simp only [List.mem_cons, List.not_mem_nil, or_false, true_or, or_true]; done))
     | (refine uNo (by kernel_rfl))
     | (refine flatMk ?_; kernel_rfl)
     | (refine And.intro ?_ ?_)
     | (intro hx)
     | ((first
         | (refine callGF ?_)
         | (refine callQGF ?_)
         | (refine skipG ?_)
         | (refine callS (in_gives _ _ _ _) ?_)
         | (refine callQ (in_gives _ _ _ _) ?_)
         | (refine callG (fun hc => (in_gives _ _ _ _)) ?_)
         | (refine callQG (fun hc => (in_gives _ _ _ _)) ?_)); simp -implicitDefEqProofs only [lenMax, push_cast, Nat.reduceEqDiff, Nat.reduceBEq, Nat.reduceBNe, Nat.reduceAdd, Nat.reduceMul, Nat.reduceLT, Nat.reduceLeDiff, Nat.reduceSub, reduceCtorEq, Int.reduceToNat, ↓reduceIte]))
  all_goals try omega
  refine ev_loop [] (fun i : Nat => [(1, .str tx), (2, .ptr h.length 0), (4, .ptr (h.length + 1) 0), (5, .ptr (h.length + 2) 0), (19, .int .i64 i)])
    (fun i => [.row s.cs, .row z8, .row (wRow (wordsV tx i) 0 (63 - i))]) (fun i => i ≤ 16) (fun i => 16 - i) 0 trivial (Nat.zero_le _) ?_ ?_
  · refine ⟨3, by simp, by simp [tokSts], ?_⟩
    simp -implicitDefEqProofs only [Int.natCast_add, Int.cast_ofNat_Int, List.length_nil, Nat.le_refl, WeakTo, tokSts, tokOks, List.append_cancel_left_eq, exists_eq_left', exists_eq_left, List.append_cancel_left_eq, List.take_length, ObCl, and_true, true_and, push_cast, Nat.reduceEqDiff, Nat.reduceBEq, Nat.reduceBNe, Nat.reduceAdd, Nat.reduceMul, Nat.reduceLT, Nat.reduceLeDiff, Nat.reduceSub, reduceCtorEq, Int.reduceToNat, ↓reduceIte]
    exact ⟨rfl, ⟨S8.cs_cl s _, z8_cl _, wRow_cl _ _ _ _⟩, by omega, by omega⟩
  · intro i hi
    by_cases hlt : i < 16
    · have w1 : IntKind.i64.wrap (4 * (i : Int)) = 4 * i := wrap_id (by omega) (by omega)
      have t1 : (4 * (i : Int)).toNat = 4 * i := by omega
      have t2 : (4 * (i : Int) + 4).toNat = 4 * i + 4 := by omega
      have m1 : min (4 * i + 4) tx.length = 4 * i + 4 := by omega
      have m2 : 4 * i + 4 - 4 * i = 4 := by omega
      have w2 : IntKind.i64.wrap (4 * (i : Int) + 4) = 4 * i + 4 := wrap_id (by omega) (by omega)
      try simp -implicitDefEqProofs only [w1, w2, t1, t2, m1, m2, lenMax, push_cast, Nat.reduceEqDiff, Nat.reduceBEq, Nat.reduceBNe, Nat.reduceAdd, Nat.reduceMul, Nat.reduceLT, Nat.reduceLeDiff, Nat.reduceSub, reduceCtorEq, Int.reduceToNat, ↓reduceIte]
      repeat'
        (first
         | (refine uYes ?_; first | exact List.mem_cons_self | (simp only [List.mem_cons, List.not_mem_nil, or_false, true_or, or_true]; done))
         | (refine uNo (by kernel_rfl))
         | (refine flatMk ?_; kernel_rfl)
         | (refine And.intro ?_ ?_)
         | (intro hx)
         | ((first
             | (refine callGF ?_)
             | (refine callQGF ?_)
             | (refine skipG ?_)
             | (refine callS (in_gives _ _ _ _) ?_)
             | (refine callQ (in_gives _ _ _ _) ?_)
             | (refine callG (fun hc => (in_gives _ _ _ _)) ?_)
             | (refine callQG (fun hc => (in_gives _ _ _ _)) ?_)); simp -implicitDefEqProofs only [w1, w2, t1, t2, m1, m2, lenMax, push_cast, Nat.reduceEqDiff, Nat.reduceBEq, Nat.reduceBNe, Nat.reduceAdd, Nat.reduceMul, Nat.reduceLT, Nat.reduceLeDiff, Nat.reduceSub, reduceCtorEq, Int.reduceToNat, ↓reduceIte]))
      all_goals try omega
      have hA := wordsV_len tx i
      have hgd : ∀ j, j < 4 → (((tx.take (4 * i + 4)).drop (4 * i)).map fun b => D.int .u8 (b.toNat : Int)).getD j (.int .u8 0) = .int .u8 ((tx.getD (4 * i + j) 0).toNat : Int) := fun j hj => by
        rw [List.getD_eq_getElem?_getD, List.getElem?_map, List.getElem?_drop, List.getElem?_take, if_pos (by omega), List.getElem?_eq_getElem (by omega), List.getD_eq_getElem?_getD, List.getElem?_eq_getElem (by omega)]
        rfl
      have mn8 : min 8 32 = 8 := rfl
      refine ev_loop [] (fun j : Nat => [(1, .str tx), (2, .ptr h.length 0), (4, .ptr (h.length + 1) 0), (5, .ptr (h.length + 2) 0), (19, .int .i64 i), (6, .int .i64 i), (29, .slice (((tx.take (4 * i + 4)).drop (4 * i)).map fun b => .int .u8 (b.toNat : Int)) .no), (30, .int .i64 4), (31, .int .i64 j)])
        (fun j => [.row s.cs, .row z8, .row (wRow (wordsV tx i) (pwV tx i j) (63 - i))]) (fun j => j ≤ 4) (fun j => 4 - j) 0 trivial (Nat.zero_le _) ?_ ?_
      · refine ⟨3, by simp, by simp [tokSts], ?_⟩
        simp -implicitDefEqProofs only [Int.natCast_add, Int.cast_ofNat_Int, List.length_nil, Nat.le_refl, WeakTo, tokSts, tokOks, List.append_cancel_left_eq, exists_eq_left', exists_eq_left, List.append_cancel_left_eq, List.take_length, ObCl, and_true, true_and, push_cast, Nat.reduceEqDiff, Nat.reduceBEq, Nat.reduceBNe, Nat.reduceAdd, Nat.reduceMul, Nat.reduceLT, Nat.reduceLeDiff, Nat.reduceSub, reduceCtorEq, Int.reduceToNat, ↓reduceIte]
        exact ⟨rfl, ⟨S8.cs_cl s _, z8_cl _, wRow_cl _ _ _ _⟩, by omega, by omega⟩
      · intro j hj
        have w3 : IntKind.i64.wrap ((j : Int) + 1) = j + 1 := wrap_id (by omega) (by omega)
        have w4 : IntKind.i64.wrap ((i : Int) + 1) = i + 1 := wrap_id (by omega) (by omega)
        have hwl := wRow_len (wordsV tx i) (pwV tx i j) (63 - i)
        have hwg := wRow_get (A := wordsV tx i) (v := pwV tx i j) (n := 63 - i) hA
        have hws := fun x => wRow_set (A := wordsV tx i) (v := pwV tx i j) (x := x) (n := 63 - i) hA
        rw [hA] at hwl
        by_cases hlj : j < 4
        · have hst := pwV_step tx i hlj
          have hb : (tx.getD (4 * i + j) 0).toNat < 256 := (tx.getD (4 * i + j) 0).toNat_lt
          have hcv : IntKind.u32.wrap ((tx.getD (4 * i + j) 0).toNat : Int) = (tx.getD (4 * i + j) 0).toNat := u32_id ⟨by omega, by omega⟩
          have hgj := hgd j hlj
          try simp -implicitDefEqProofs only [w1, w2, w3, m1, m2, hwl, hwg, hws, hgj, hcv, hst, mn8, IntKind.bits, push_cast, Nat.reduceEqDiff, Nat.reduceBEq, Nat.reduceBNe, Nat.reduceAdd, Nat.reduceMul, Nat.reduceLT, Nat.reduceLeDiff, Nat.reduceSub, reduceCtorEq, Int.reduceToNat, ↓reduceIte]
          repeat'
            (first
             | (refine uYes ?_; first | exact List.mem_cons_self | (simp only [List.mem_cons, List.not_mem_nil, or_false, true_or, or_true]; done))
             | (refine uNo (by kernel_rfl))
             | (refine flatMk ?_; kernel_rfl)
             | (refine And.intro ?_ ?_)
             | (intro hx)
             | ((first
                 | (refine callGF ?_)
                 | (refine callQGF ?_)
                 | (refine skipG ?_)
                 | (refine callS (in_gives _ _ _ _) ?_)
                 | (refine callQ (in_gives _ _ _ _) ?_)
                 | (refine callG (fun hc => (in_gives _ _ _ _)) ?_)
                 | (refine callQG (fun hc => (in_gives _ _ _ _)) ?_)); simp -implicitDefEqProofs only [w1, w2, w3, m1, m2, hwl, hwg, hws, hgj, hcv, hst, mn8, IntKind.bits, push_cast, Nat.reduceEqDiff, Nat.reduceBEq, Nat.reduceBNe, Nat.reduceAdd, Nat.reduceMul, Nat.reduceLT, Nat.reduceLeDiff, Nat.reduceSub, reduceCtorEq, Int.reduceToNat, ↓reduceIte]))
          all_goals first
            | omega
            | (refine round_mk (j + 1) (by omega) (by omega) ?_
               simp -implicitDefEqProofs only [w3, hst, hws, Int.natCast_add, Int.cast_ofNat_Int, List.length_nil, Nat.le_refl, WeakTo, tokSts, tokOks, List.append_cancel_left_eq, exists_eq_left', exists_eq_left, List.append_cancel_left_eq, List.take_length, ObCl, and_true, true_and, push_cast, Nat.reduceEqDiff, Nat.reduceBEq, Nat.reduceBNe, Nat.reduceAdd, Nat.reduceMul, Nat.reduceLT, Nat.reduceLeDiff, Nat.reduceSub, reduceCtorEq, Int.reduceToNat, ↓reduceIte]
               exact ⟨⟨S8.cs_cl s _, z8_cl _, wRow_cl _ _ _ _⟩, by omega, by omega⟩)
            | (obtain ⟨b, _, rfl⟩ := List.mem_map.1 hx
               rfl)
            | trace_state
        · try simp -implicitDefEqProofs only [w1, w2, w3, w4, m1, m2, hwl, hwg, hws, mn8, IntKind.bits, push_cast, Nat.reduceEqDiff, Nat.reduceBEq, Nat.reduceBNe, Nat.reduceAdd, Nat.reduceMul, Nat.reduceLT, Nat.reduceLeDiff, Nat.reduceSub, reduceCtorEq, Int.reduceToNat, ↓reduceIte]
          repeat'
            (first
             | (refine uYes ?_; first | exact List.mem_cons_self | (simp only [List.mem_cons, List.not_mem_nil, or_false, true_or, or_true]; done))
             | (refine uNo (by kernel_rfl))
             | (refine flatMk ?_; kernel_rfl)
             | (refine And.intro ?_ ?_)
             | (intro hx)
             | ((first
                 | (refine callGF ?_)
                 | (refine callQGF ?_)
                 | (refine skipG ?_)
                 | (refine callS (in_gives _ _ _ _) ?_)
                 | (refine callQ (in_gives _ _ _ _) ?_)
                 | (refine callG (fun hc => (in_gives _ _ _ _)) ?_)
                 | (refine callQG (fun hc => (in_gives _ _ _ _)) ?_)); simp -implicitDefEqProofs only [w1, w2, w3, w4, m1, m2, hwl, hwg, hws, mn8, IntKind.bits, push_cast, Nat.reduceEqDiff, Nat.reduceBEq, Nat.reduceBNe, Nat.reduceAdd, Nat.reduceMul, Nat.reduceLT, Nat.reduceLeDiff, Nat.reduceSub, reduceCtorEq, Int.reduceToNat, ↓reduceIte]))
          all_goals first
            | omega
            | (have hj4 : j = 4 := by omega
               have hrow : wRow (wordsV tx i) (pwV tx i j) (63 - i) = wRow (wordsV tx (i + 1)) 0 (63 - (i + 1)) := by
                 rw [hj4, pwV_word, wordsV_succ, ← wRow_next]
                 congr 1
                 omega
               refine round_mk (i + 1) (by omega) (by omega) ?_
               simp -implicitDefEqProofs only [w4, hrow, Int.natCast_add, Int.cast_ofNat_Int, List.length_nil, Nat.le_refl, WeakTo, tokSts, tokOks, List.append_cancel_left_eq, exists_eq_left', exists_eq_left, List.append_cancel_left_eq, List.take_length, ObCl, and_true, true_and, push_cast, Nat.reduceEqDiff, Nat.reduceBEq, Nat.reduceBNe, Nat.reduceAdd, Nat.reduceMul, Nat.reduceLT, Nat.reduceLeDiff, Nat.reduceSub, reduceCtorEq, Int.reduceToNat, ↓reduceIte]
               exact ⟨⟨S8.cs_cl s _, z8_cl _, wRow_cl _ _ _ _⟩, by omega, by omega⟩)
            | trace_state
    · obtain rfl : i = 16 := by omega
      try simp -implicitDefEqProofs only [lenMax, push_cast, Nat.reduceEqDiff, Nat.reduceBEq, Nat.reduceBNe, Nat.reduceAdd, Nat.reduceMul, Nat.reduceLT, Nat.reduceLeDiff, Nat.reduceSub, reduceCtorEq, Int.reduceToNat, ↓reduceIte]
      repeat'
        (first
         | (refine uYes ?_; first | exact List.mem_cons_self | (simp only [List.mem_cons, List.not_mem_nil, or_false, true_or, or_true]; done))
         | (refine uNo (by kernel_rfl))
         | (refine flatMk ?_; kernel_rfl)
         | (refine And.intro ?_ ?_)
         | (intro hx)
         | ((first
             | (refine callGF ?_)
             | (refine callQGF ?_)
             | (refine skipG ?_)
             | (refine callS (in_gives _ _ _ _) ?_)
             | (refine callQ (in_gives _ _ _ _) ?_)
             | (refine callG (fun hc => (in_gives _ _ _ _)) ?_)
             | (refine callQG (fun hc => (in_gives _ _ _ _)) ?_)); simp -implicitDefEqProofs only [lenMax, push_cast, Nat.reduceEqDiff, Nat.reduceBEq, Nat.reduceBNe, Nat.reduceAdd, Nat.reduceMul, Nat.reduceLT, Nat.reduceLeDiff, Nat.reduceSub, reduceCtorEq, Int.reduceToNat, ↓reduceIte]))
      all_goals try omega
      rw [blockV]
      have hws16 := wordsV_len tx 16
      generalize wordsV tx 16 = ws at hws16
      refine ev_loop [] (fun i : Nat => [(2, .ptr h.length 0), (4, .ptr (h.length + 1) 0), (5, .ptr (h.length + 2) 0), (9, .int .i64 i)])
        (fun i => [.row s.cs, .row z8, .row (fRow (schedV ws (i - 16)) (64 - i))]) (fun i => 16 ≤ i ∧ i ≤ 64) (fun i => 64 - i) 16 trivial ⟨by omega, by omega⟩ ?_ ?_
      · refine ⟨3, by simp, by simp [tokSts], ?_⟩
        simp -implicitDefEqProofs only [Int.natCast_add, Int.cast_ofNat_Int, List.length_nil, Nat.le_refl, WeakTo, tokSts, tokOks, List.append_cancel_left_eq, exists_eq_left', exists_eq_left, List.append_cancel_left_eq, List.take_length, ObCl, and_true, true_and, push_cast, Nat.reduceEqDiff, Nat.reduceBEq, Nat.reduceBNe, Nat.reduceAdd, Nat.reduceMul, Nat.reduceLT, Nat.reduceLeDiff, Nat.reduceSub, reduceCtorEq, Int.reduceToNat, ↓reduceIte]
        exact ⟨rfl, ⟨S8.cs_cl s _, z8_cl _, fRow_cl _ _ _⟩, by omega, by omega⟩
      · rintro i ⟨hi1, hi2⟩
        have hA := schedV_len ws (i - 16)
        have hA : (schedV ws (i - 16)).length = i := by omega
        have w4 : IntKind.i64.wrap ((i : Int) + 1) = i + 1 := wrap_id (by omega) (by omega)
        by_cases hlt : i < 64
        · have hf : fRow (schedV ws (i - 16)) (64 - i) = wRow (schedV ws (i - 16)) 0 (63 - i) := by rw [show 64 - i = (63 - i) + 1 by omega, fRow_succ]
          have hsc : schedV ws (i + 1 - 16) = schedV ws (i - 16) ++ [nextW (schedV ws (i - 16))] := by rw [show i + 1 - 16 = (i - 16) + 1 by omega, schedV]
          have hN : nextW (schedV ws (i - 16)) = u32 (u32 (u32 ((schedV ws (i - 16)).getD (i - 16) 0 + s0V ((schedV ws (i - 16)).getD (i - 15) 0)) + (schedV ws (i - 16)).getD (i - 7) 0) + s1V ((schedV ws (i - 16)).getD (i - 2) 0)) := by rw [nextW, hA]
          rw [hf]
          generalize schedV ws (i - 16) = A at hA hf hsc hN
          have hwl := wRow_len A 0 (63 - i)
          have hg := fun k (hk : k < A.length) => wRow_old (v := 0) (n := 63 - i) hk
          have g16 := hg (i - 16) (by omega)
          have g15 := hg (i - 15) (by omega)
          have g7 := hg (i - 7) (by omega)
          have g2 := hg (i - 2) (by omega)
          have hws := fun x => wRow_set (A := A) (v := 0) (x := x) (n := 63 - i) hA
          rw [hA] at hwl
          have w16 : IntKind.i64.wrap ((i : Int) - 16) = i - 16 := wrap_id (by omega) (by omega)
          have w15 : IntKind.i64.wrap ((i : Int) - 15) = i - 15 := wrap_id (by omega) (by omega)
          have w7 : IntKind.i64.wrap ((i : Int) - 7) = i - 7 := wrap_id (by omega) (by omega)
          have w2 : IntKind.i64.wrap ((i : Int) - 2) = i - 2 := wrap_id (by omega) (by omega)
          have t16 : ((i : Int) - 16).toNat = i - 16 := by omega
          have t15 : ((i : Int) - 15).toNat = i - 15 := by omega
          have t7 : ((i : Int) - 7).toNat = i - 7 := by omega
          have t2 : ((i : Int) - 2).toNat = i - 2 := by omega
          have p3 : ((2 : Int) ^ min 3 32) = 8 := rfl
          have p10 : ((2 : Int) ^ min 10 32) = 1024 := rfl
          try simp -implicitDefEqProofs only [w16, w15, w7, w2, t16, t15, t7, t2, p3, p10, g16, g15, g7, g2, hwl, hws, w4, lenMax, IntKind.bits, push_cast, Nat.reduceEqDiff, Nat.reduceBEq, Nat.reduceBNe, Nat.reduceAdd, Nat.reduceMul, Nat.reduceLT, Nat.reduceLeDiff, Nat.reduceSub, reduceCtorEq, Int.reduceToNat, ↓reduceIte]
          repeat'
            (first
             | (refine uYes ?_; first | exact List.mem_cons_self | (simp only [List.mem_cons, List.not_mem_nil, or_false, true_or, or_true]; done))
             | (refine uNo (by kernel_rfl))
             | (refine flatMk ?_; kernel_rfl)
             | (refine And.intro ?_ ?_)
             | (intro hx)
             | ((first
                 | (refine callGF ?_)
                 | (refine callQGF ?_)
                 | (refine skipG ?_)
                 | (refine inX_mk [] (by kernel_rfl) (by simp) ?_)
                 | (refine callXG (dst := some 64) (fun _ => right_gives _ 7 _ (by omega)) ?_)
                 | (refine callXG (dst := some 66) (fun _ => right_gives _ 18 _ (by omega)) ?_)
                 | (refine callXG (dst := some 78) (fun _ => right_gives _ 17 _ (by omega)) ?_)
                 | (refine callXG (dst := some 80) (fun _ => right_gives _ 19 _ (by omega)) ?_)); simp -implicitDefEqProofs only [w16, w15, w7, w2, t16, t15, t7, t2, p3, p10, g16, g15, g7, g2, hwl, hws, w4, lenMax, IntKind.bits, push_cast, Nat.reduceEqDiff, Nat.reduceBEq, Nat.reduceBNe, Nat.reduceAdd, Nat.reduceMul, Nat.reduceLT, Nat.reduceLeDiff, Nat.reduceSub, reduceCtorEq, Int.reduceToNat, ↓reduceIte]))
          all_goals first
            | omega
            | skip
          have hrow : fRow (schedV ws (i + 1 - 16)) (64 - (i + 1)) = wRow A (IntKind.u32.wrap (IntKind.u32.wrap (IntKind.u32.wrap (A.getD (i - 16) 0 + bitI .xor .u32 (bitI .xor .u32 (rotV (A.getD (i - 15) 0) 7) (rotV (A.getD (i - 15) 0) 18)) ((A.getD (i - 15) 0).fdiv 8)) + A.getD (i - 7) 0) + bitI .xor .u32 (bitI .xor .u32 (rotV (A.getD (i - 2) 0) 17) (rotV (A.getD (i - 2) 0) 19)) ((A.getD (i - 2) 0).fdiv 1024))) (63 - i) := by
            rw [hsc, show 64 - (i + 1) = 63 - i by omega, ← wRow_f]
            exact congrArg (fun x => wRow A x (63 - i)) hN
          refine round_mk (i + 1) ⟨by omega, by omega⟩ (by omega) ?_
          simp -implicitDefEqProofs only [w4, hws, hrow, Int.natCast_add, Int.cast_ofNat_Int, List.length_nil, Nat.le_refl, WeakTo, tokSts, tokOks, List.append_cancel_left_eq, exists_eq_left', exists_eq_left, List.append_cancel_left_eq, List.take_length, ObCl, and_true, true_and, push_cast, Nat.reduceEqDiff, Nat.reduceBEq, Nat.reduceBNe, Nat.reduceAdd, Nat.reduceMul, Nat.reduceLT, Nat.reduceLeDiff, Nat.reduceSub, reduceCtorEq, Int.reduceToNat, ↓reduceIte]
          exact ⟨⟨S8.cs_cl s _, z8_cl _, wRow_cl _ _ _ _⟩, by omega, by omega⟩
        · obtain rfl : i = 64 := by omega
          try simp -implicitDefEqProofs only [lenMax, S8.cs_is, push_cast, Nat.reduceEqDiff, Nat.reduceBEq, Nat.reduceBNe, Nat.reduceAdd, Nat.reduceMul, Nat.reduceLT, Nat.reduceLeDiff, Nat.reduceSub, reduceCtorEq, Int.reduceToNat, ↓reduceIte]
          repeat'
            (first
             | (refine uYes ?_; first | exact List.mem_cons_self | (simp only [List.mem_cons, List.not_mem_nil, or_false, true_or, or_true]; done))
             | (refine uNo (by kernel_rfl))
             | (refine flatMk ?_; kernel_rfl)
             | (refine And.intro ?_ ?_)
             | (intro hx)
             | ((first
                 | (refine callGF ?_)
                 | (refine callQGF ?_)
                 | (refine skipG ?_)
                 | (refine callS (in_gives _ _ _ _) ?_)
                 | (refine callQ (in_gives _ _ _ _) ?_)
                 | (refine callG (fun hc => (in_gives _ _ _ _)) ?_)
                 | (refine callQG (fun hc => (in_gives _ _ _ _)) ?_)); simp -implicitDefEqProofs only [lenMax, S8.cs_is, push_cast, Nat.reduceEqDiff, Nat.reduceBEq, Nat.reduceBNe, Nat.reduceAdd, Nat.reduceMul, Nat.reduceLT, Nat.reduceLeDiff, Nat.reduceSub, reduceCtorEq, Int.reduceToNat, ↓reduceIte]))
          all_goals try omega
          have hW := schedV_len ws 48
          have hW : (schedV ws 48).length = 64 := by omega
          have e64 : fRow (schedV ws (64 - 16)) (64 - 64) = (schedV ws 48).map (.int .u32) := by simp [fRow]
          simp only [e64]
          generalize schedV ws 48 = W at hW
          refine ev_loop [] (fun i : Nat => [(2, .ptr h.length 0), (4, .ptr (h.length + 1) 0), (5, .ptr (h.length + 2) 0), (12, .ptr (h.length + 3) 0), (88, .int .i64 i)])
            (fun i => [.row s.cs, .row z8, .row (W.map (.int .u32)), .row (rndsV s W i).cs]) (fun i => i ≤ 64) (fun i => 64 - i) 0 trivial (Nat.zero_le _) ?_ ?_
          · refine ⟨4, by simp, by simp [tokSts], ?_⟩
            simp -implicitDefEqProofs only [Int.natCast_add, Int.cast_ofNat_Int, List.length_nil, Nat.le_refl, WeakTo, tokSts, tokOks, List.append_cancel_left_eq, exists_eq_left', exists_eq_left, List.append_cancel_left_eq, List.take_length, ObCl, and_true, true_and, push_cast, Nat.reduceEqDiff, Nat.reduceBEq, Nat.reduceBNe, Nat.reduceAdd, Nat.reduceMul, Nat.reduceLT, Nat.reduceLeDiff, Nat.reduceSub, reduceCtorEq, Int.reduceToNat, ↓reduceIte]
            exact ⟨rfl, ⟨S8.cs_cl s _, z8_cl _, ints32_cl _ _, S8.cs_cl _ _⟩, by omega, by omega, by omega⟩
          · intro i hi
            have w4 : IntKind.i64.wrap ((i : Int) + 1) = i + 1 := wrap_id (by omega) (by omega)
            by_cases hlt : i < 64
            · have hv1 : rndsV s W (i + 1) = rnd (rndsV s W i) (cubesL.getD i 0) (W.getD i 0) := rfl
              generalize rndsV s W i = v at hv1
              have hwg : ((W.drop i).map (D.int .u32)).headD .junk = .int .u32 (W.getD i 0) := ints32_head (by omega)
              have hcg : ((cubesL.drop i).map (D.int .u32)).headD .junk = .int .u32 (cubesL.getD i 0) := ints32_head (show i < 64 from hlt)
              have hcl : cubesL.length = 64 := rfl
              have hmx : IntKind.u32.max = 4294967295 := rfl
              try simp -implicitDefEqProofs only [S8.cs_is, hwg, hcg, hcl, hW, hmx, w4, lenMax, IntKind.signed, IntKind.bits, push_cast, Nat.reduceEqDiff, Nat.reduceBEq, Nat.reduceBNe, Nat.reduceAdd, Nat.reduceMul, Nat.reduceLT, Nat.reduceLeDiff, Nat.reduceSub, reduceCtorEq, Int.reduceToNat, ↓reduceIte]
              repeat'
                (first
                 | (refine uYes ?_; first | exact List.mem_cons_self | (simp only [List.mem_cons, List.not_mem_nil, or_false, true_or, or_true]; done))
                 | (refine uNo (by kernel_rfl))
                 | (refine flatMk ?_; kernel_rfl)
                 | (refine And.intro ?_ ?_)
                 | (intro hx)
                 | ((first
                     | (refine callGF ?_)
                     | (refine callQGF ?_)
                     | (refine skipG ?_)
                     | (refine callS (right_gives v.e 6 _ (by omega)) ?_)
                     | (refine callQ (right_gives v.e 6 _ (by omega)) ?_)
                     | (refine callG (fun hc => (right_gives v.e 6 _ (by omega))) ?_)
                     | (refine callQG (fun hc => (right_gives v.e 6 _ (by omega))) ?_)
                     | (refine callS (right_gives v.e 11 _ (by omega)) ?_)
                     | (refine callQ (right_gives v.e 11 _ (by omega)) ?_)
                     | (refine callG (fun hc => (right_gives v.e 11 _ (by omega))) ?_)
                     | (refine callQG (fun hc => (right_gives v.e 11 _ (by omega))) ?_)
                     | (refine callS (right_gives v.e 25 _ (by omega)) ?_)
                     | (refine callQ (right_gives v.e 25 _ (by omega)) ?_)
                     | (refine callG (fun hc => (right_gives v.e 25 _ (by omega))) ?_)
                     | (refine callQG (fun hc => (right_gives v.e 25 _ (by omega))) ?_)
                     | (refine callS (right_gives v.a 2 _ (by omega)) ?_)
                     | (refine callQ (right_gives v.a 2 _ (by omega)) ?_)
                     | (refine callG (fun hc => (right_gives v.a 2 _ (by omega))) ?_)
                     | (refine callQG (fun hc => (right_gives v.a 2 _ (by omega))) ?_)
                     | (refine callS (right_gives v.a 13 _ (by omega)) ?_)
                     | (refine callQ (right_gives v.a 13 _ (by omega)) ?_)
                     | (refine callG (fun hc => (right_gives v.a 13 _ (by omega))) ?_)
                     | (refine callQG (fun hc => (right_gives v.a 13 _ (by omega))) ?_)
                     | (refine callS (right_gives v.a 22 _ (by omega)) ?_)
                     | (refine callQ (right_gives v.a 22 _ (by omega)) ?_)
                     | (refine callG (fun hc => (right_gives v.a 22 _ (by omega))) ?_)
                     | (refine callQG (fun hc => (right_gives v.a 22 _ (by omega))) ?_)
                     | (refine idxG (cubesL.map (.int .u32)) TabSha.cubes ?_)); simp -implicitDefEqProofs only [S8.cs_is, hwg, hcg, hcl, hW, hmx, w4, lenMax, IntKind.signed, IntKind.bits, push_cast, Nat.reduceEqDiff, Nat.reduceBEq, Nat.reduceBNe, Nat.reduceAdd, Nat.reduceMul, Nat.reduceLT, Nat.reduceLeDiff, Nat.reduceSub, reduceCtorEq, Int.reduceToNat, ↓reduceIte]))
              all_goals first
                | omega
                | skip
              refine round_mk (i + 1) (by omega) (by omega) ?_
              simp -implicitDefEqProofs only [w4, hv1, rnd, oneV, twoV, bigE, bigA, chV, majV, S8.cs_is, Int.natCast_add, Int.cast_ofNat_Int, List.length_nil, Nat.le_refl, WeakTo, tokSts, tokOks, List.append_cancel_left_eq, exists_eq_left', exists_eq_left, List.append_cancel_left_eq, List.take_length, ObCl, and_true, true_and, push_cast, Nat.reduceEqDiff, Nat.reduceBEq, Nat.reduceBNe, Nat.reduceAdd, Nat.reduceMul, Nat.reduceLT, Nat.reduceLeDiff, Nat.reduceSub, reduceCtorEq, Int.reduceToNat, ↓reduceIte]
              repeat' apply And.intro
              all_goals first
                | omega
                | exact z8_cl _
                | exact ints32_cl _ _
                | rfl
                | trace_state
            · obtain rfl : i = 64 := by omega
              generalize rndsV s W 64 = v
              try simp -implicitDefEqProofs only [lenMax, S8.cs_is, w4, push_cast, Nat.reduceEqDiff, Nat.reduceBEq, Nat.reduceBNe, Nat.reduceAdd, Nat.reduceMul, Nat.reduceLT, Nat.reduceLeDiff, Nat.reduceSub, reduceCtorEq, Int.reduceToNat, ↓reduceIte]
              repeat'
                (first
                 | (refine uYes ?_; first | exact List.mem_cons_self | (simp only [List.mem_cons, List.not_mem_nil, or_false, true_or, or_true]; done))
                 | (refine uNo (by kernel_rfl))
                 | (refine flatMk ?_; kernel_rfl)
                 | (refine And.intro ?_ ?_)
                 | (intro hx)
                 | ((first
                     | (refine callGF ?_)
                     | (refine callQGF ?_)
                     | (refine skipG ?_)
                     | (refine callS (in_gives _ _ _ _) ?_)
                     | (refine callQ (in_gives _ _ _ _) ?_)
                     | (refine callG (fun hc => (in_gives _ _ _ _)) ?_)
                     | (refine callQG (fun hc => (in_gives _ _ _ _)) ?_)); simp -implicitDefEqProofs only [lenMax, S8.cs_is, w4, push_cast, Nat.reduceEqDiff, Nat.reduceBEq, Nat.reduceBNe, Nat.reduceAdd, Nat.reduceMul, Nat.reduceLT, Nat.reduceLeDiff, Nat.reduceSub, reduceCtorEq, Int.reduceToNat, ↓reduceIte]))
              all_goals try omega
              refine ev_loop [] (fun i : Nat => [(2, .ptr h.length 0), (4, .ptr (h.length + 1) 0), (12, .ptr (h.length + 3) 0), (168, .int .i64 i)])
                (fun i => [.row ((addL s v i).map (.int .u32)), .row z8, .row (W.map (.int .u32)), .row (v.l.map (.int .u32))]) (fun i => i ≤ 8) (fun i => 8 - i) 0 trivial (Nat.zero_le _) ?_ ?_
              · refine ⟨4, by simp, by simp [tokSts], ?_⟩
                simp -implicitDefEqProofs only [Int.natCast_add, Int.cast_ofNat_Int, List.length_nil, Nat.le_refl, WeakTo, tokSts, tokOks, List.append_cancel_left_eq, exists_eq_left', exists_eq_left, List.append_cancel_left_eq, List.take_length, ObCl, and_true, true_and, push_cast, Nat.reduceEqDiff, Nat.reduceBEq, Nat.reduceBNe, Nat.reduceAdd, Nat.reduceMul, Nat.reduceLT, Nat.reduceLeDiff, Nat.reduceSub, reduceCtorEq, Int.reduceToNat, ↓reduceIte]
                repeat' apply And.intro
                all_goals first
                  | omega
                  | exact z8_cl _
                  | exact ints32_cl _ _
                  | rfl
                  | trace_state
              · intro i hi
                have w4 : IntKind.i64.wrap ((i : Int) + 1) = i + 1 := wrap_id (by omega) (by omega)
                by_cases hlt : i < 8
                · have hal : (addL s v i).length = 8 := addL_len s v (by omega)
                  have hvl : v.l.length = 8 := rfl
                  have h1 : (((addL s v i).drop i).map (D.int .u32)).headD .junk = .int .u32 (s.l.getD i 0) := by rw [ints32_head (by omega), addL_get s v hlt]
                  have h2 : ((v.l.drop i).map (D.int .u32)).headD .junk = .int .u32 (v.l.getD i 0) := ints32_head (by omega)
                  have h3 : ((addL s v i).take i).map (D.int .u32) ++ D.int .u32 (IntKind.u32.wrap (s.l.getD i 0 + v.l.getD i 0)) :: ((addL s v i).drop (i + 1)).map (D.int .u32) = (addL s v (i + 1)).map (D.int .u32) := by
                    rw [← addL_step s v hlt, List.map_append, List.map_cons]
                  try simp -implicitDefEqProofs only [hal, hvl, h1, h2, h3, w4, lenMax, IntKind.signed, IntKind.bits, push_cast, Nat.reduceEqDiff, Nat.reduceBEq, Nat.reduceBNe, Nat.reduceAdd, Nat.reduceMul, Nat.reduceLT, Nat.reduceLeDiff, Nat.reduceSub, reduceCtorEq, Int.reduceToNat, ↓reduceIte]
                  repeat'
                    (first
                     | (refine uYes ?_; first | exact List.mem_cons_self | (simp only [List.mem_cons, List.not_mem_nil, or_false, true_or, or_true]; done))
                     | (refine uNo (by kernel_rfl))
                     | (refine flatMk ?_; kernel_rfl)
                     | (refine And.intro ?_ ?_)
                     | (intro hx)
                     | ((first
                         | (refine callGF ?_)
                         | (refine callQGF ?_)
                         | (refine skipG ?_)
                         | (refine inX_mk [] (by kernel_rfl) (by simp) ?_)); simp -implicitDefEqProofs only [hal, hvl, h1, h2, h3, w4, lenMax, IntKind.signed, IntKind.bits, push_cast, Nat.reduceEqDiff, Nat.reduceBEq, Nat.reduceBNe, Nat.reduceAdd, Nat.reduceMul, Nat.reduceLT, Nat.reduceLeDiff, Nat.reduceSub, reduceCtorEq, Int.reduceToNat, ↓reduceIte]))
                  all_goals first
                    | omega
                    | (refine round_mk (i + 1) (by omega) (by omega) ?_
                       simp -implicitDefEqProofs only [w4, h3, Int.natCast_add, Int.cast_ofNat_Int, List.length_nil, Nat.le_refl, WeakTo, tokSts, tokOks, List.append_cancel_left_eq, exists_eq_left', exists_eq_left, List.append_cancel_left_eq, List.take_length, ObCl, and_true, true_and, push_cast, Nat.reduceEqDiff, Nat.reduceBEq, Nat.reduceBNe, Nat.reduceAdd, Nat.reduceMul, Nat.reduceLT, Nat.reduceLeDiff, Nat.reduceSub, reduceCtorEq, Int.reduceToNat, ↓reduceIte]
                       repeat' apply And.intro
                       all_goals first
                         | omega
                         | exact z8_cl _
                         | exact ints32_cl _ _
                         | rfl
                         | trace_state)
                    | trace_state
                · obtain rfl : i = 8 := by omega
                  have e8 : (addL s v 8).map (D.int .u32) = (add8 s v).cs := rfl
                  try simp -implicitDefEqProofs only [e8, S8.cs_is, z8, lenMax, push_cast, Nat.reduceEqDiff, Nat.reduceBEq, Nat.reduceBNe, Nat.reduceAdd, Nat.reduceMul, Nat.reduceLT, Nat.reduceLeDiff, Nat.reduceSub, reduceCtorEq, Int.reduceToNat, ↓reduceIte]
                  repeat'
                    (first
                     | (refine uYes ?_; first | exact List.mem_cons_self | (simp only [List.mem_cons, List.not_mem_nil, or_false, true_or, or_true]; done))
                     | (refine uNo (by kernel_rfl))
                     | (refine flatMk ?_; kernel_rfl)
                     | (refine And.intro ?_ ?_)
                     | (intro hx)
                     | ((first
                         | (refine callGF ?_)
                         | (refine callQGF ?_)
                         | (refine skipG ?_)
                         | (refine callS (in_gives _ _ _ _) ?_)
                         | (refine callQ (in_gives _ _ _ _) ?_)
                         | (refine callG (fun hc => (in_gives _ _ _ _)) ?_)
                         | (refine callQG (fun hc => (in_gives _ _ _ _)) ?_)); simp -implicitDefEqProofs only [e8, S8.cs_is, z8, lenMax, push_cast, Nat.reduceEqDiff, Nat.reduceBEq, Nat.reduceBNe, Nat.reduceAdd, Nat.reduceMul, Nat.reduceLT, Nat.reduceLeDiff, Nat.reduceSub, reduceCtorEq, Int.reduceToNat, ↓reduceIte]))
                  all_goals first
                    | omega
                    | trace_state
end Go.Proofs.YtcmpcpigchlhpaaDoor

/- SHA-256: the reference's words and constants. -/
namespace Go.Proofs.YtcmpcpigchlhpaaDoor
set_option linter.unusedSectionVars false
open Go.Av
variable [Av.Start] [TabSha]
set_option maxRecDepth 10000
set_option maxHeartbeats 1000000
set_option linter.unusedSimpArgs false
set_option linter.unusedVariables false

def byD (bs : List UInt8) : List D := bs.map fun b => D.int .u8 (b.toNat : Int)
theorem byD_len (bs : List UInt8) : (byD bs).length = bs.length := by simp [byD]
theorem byD_get {bs : List UInt8} {k : Nat} (h : k < bs.length) : (byD bs).getD k (.int .u8 0) = .int .u8 ((bs.getD k 0).toNat : Int) := by
  rw [byD, List.getD_eq_getElem?_getD, List.getElem?_map, List.getElem?_eq_getElem h, List.getD_eq_getElem?_getD, List.getElem?_eq_getElem h]
  rfl
theorem byD_sz (bs : List UInt8) : AllSz 1 (byD bs) ↔ True := by
  simp only [iff_true]
  intro e he
  obtain ⟨x, _, rfl⟩ := List.mem_map.1 he
  rfl
def wdD (ws : List Int) : List D := ws.map (D.int .u32)
theorem wdD_len (ws : List Int) : (wdD ws).length = ws.length := by simp [wdD]
theorem wdD_get {ws : List Int} {k : Nat} (h : k < ws.length) : (wdD ws).getD k (.int .u32 0) = .int .u32 (ws.getD k 0) := by
  rw [wdD, List.getD_eq_getElem?_getD, List.getElem?_map, List.getElem?_eq_getElem h, List.getD_eq_getElem?_getD, List.getElem?_eq_getElem h]
  rfl
theorem wdD_sz (ws : List Int) : AllSz 1 (wdD ws) ↔ True := by
  simp only [iff_true]
  intro e he
  obtain ⟨x, _, rfl⟩ := List.mem_map.1 he
  rfl
theorem wdD_flat (ws : List Int) : flat (wdD ws) = wdD ws := by
  rw [flat, wdD, List.flatMap_map]
  induction ws with
  | nil => rfl
  | cons x xs ih => rw [List.flatMap_cons, ih]; rfl
theorem wdD_snoc (ws : List Int) (x : Int) : wdD ws ++ [D.int .u32 x] = wdD (ws ++ [x]) := by simp [wdD]
theorem word_or (b0 b1 b2 b3 : UInt8) : bitI .or .u32 (bitI .or .u32 (bitI .or .u32 (u32 ((b0.toNat : Int) * 2 ^ 24)) (u32 ((b1.toNat : Int) * 2 ^ 16))) (u32 ((b2.toNat : Int) * 2 ^ 8))) (b3.toNat : Int) = b0.toNat * 16777216 + b1.toNat * 65536 + b2.toNat * 256 + b3.toNat := by
  have h0 : b0.toNat < 256 := b0.toNat_lt
  have h1 : b1.toNat < 256 := b1.toNat_lt
  have h2 : b2.toNat < 256 := b2.toNat_lt
  have h3 : b3.toNat < 256 := b3.toNat_lt
  have p24 : (2 : Int) ^ 24 = 16777216 := rfl
  have p16 : (2 : Int) ^ 16 = 65536 := rfl
  have p8 : (2 : Int) ^ 8 = 256 := rfl
  have e0 : u32 ((b0.toNat : Int) * 2 ^ 24) = (b0.toNat : Int) * 2 ^ 24 := u32_id ⟨by omega, by omega⟩
  have e1 : u32 ((b1.toNat : Int) * 2 ^ 16) = (b1.toNat : Int) * 2 ^ 16 := u32_id ⟨by omega, by omega⟩
  have e2 : u32 ((b2.toNat : Int) * 2 ^ 8) = (b2.toNat : Int) * 2 ^ 8 := u32_id ⟨by omega, by omega⟩
  rw [e0, e1, e2, or_add 24 (by omega) (by omega) (by omega) (by omega)]
  have f1 : (b0.toNat : Int) * 2 ^ 24 + (b1.toNat : Int) * 2 ^ 16 = ((b0.toNat : Int) * 256 + b1.toNat) * 2 ^ 16 := by omega
  rw [f1, or_add 16 (by omega) (by omega) (by omega) (by omega)]
  have f2 : ((b0.toNat : Int) * 256 + b1.toNat) * 2 ^ 16 + (b2.toNat : Int) * 2 ^ 8 = (((b0.toNat : Int) * 256 + b1.toNat) * 256 + b2.toNat) * 2 ^ 8 := by omega
  rw [f2, or_add 8 (by omega) (by omega) (by omega) (by omega)]
  omega
theorem specWords_gives (bs : List UInt8) (h : Hp) (hb : bs.length = 64) : Gives Tryd.prog 87 [.slice (byD bs) .no] h (.slice (wdD (schedV (wordsV bs 16) 48)) .no) := by
  have hbl := byD_len bs
  have hbz := byD_sz bs
  refine meets_of [10] mixed Tryd.func87 rfl (by kernel_rfl) (by kernel_rfl) (by rw [Tryd.ntmps87]; simp only [List.length_cons, List.length_nil]; omega) (fun hf => ?_)
  rw [Tryd.results87]
  clear hf
  try simp -implicitDefEqProofs only [push_cast, Nat.reduceEqDiff, Nat.reduceBEq, Nat.reduceBNe, Nat.reduceAdd, Nat.reduceMul, Nat.reduceLT, Nat.reduceLeDiff, Nat.reduceSub, reduceCtorEq, Int.reduceToNat, ↓reduceIte]
  repeat'
    (first
     | (refine uYes ?_; first | exact List.mem_cons_self | (simp only [List.mem_cons, List.not_mem_nil, or_false, true_or, or_true]; done))
     | (refine uNo (by kernel_rfl))
     | (refine flatMk ?_; kernel_rfl)
     | (refine And.intro ?_ ?_)
     | (intro hx)
     | ((first
         | (refine callGF ?_)
         | (refine callQGF ?_)
         | (refine skipG ?_)
         | (refine callS (in_gives _ _ _ _) ?_)
         | (refine callQ (in_gives _ _ _ _) ?_)
         | (refine callG (fun hc => (in_gives _ _ _ _)) ?_)
         | (refine callQG (fun hc => (in_gives _ _ _ _)) ?_)); simp -implicitDefEqProofs only [push_cast, Nat.reduceEqDiff, Nat.reduceBEq, Nat.reduceBNe, Nat.reduceAdd, Nat.reduceMul, Nat.reduceLT, Nat.reduceLeDiff, Nat.reduceSub, reduceCtorEq, Int.reduceToNat, ↓reduceIte]))
  all_goals try first
    | omega
    | (simp only [lenMax]; omega)
  refine ev_loop [] (fun i : Nat => [(0, .slice (byD bs) .no), (3, .slice (wdD (wordsV bs i)) (.buf h.length 1)), (4, .int .i64 i)])
    (fun i => [.buf i]) (fun i => i ≤ 16) (fun i => 16 - i) 0 trivial (Nat.zero_le _) ?_ ?_
  · refine ⟨1, by simp, by simp [tokSts], ?_⟩
    simp -implicitDefEqProofs only [Int.natCast_add, Int.cast_ofNat_Int, List.length_nil, Nat.le_refl, WeakTo, tokSts, tokOks, List.append_cancel_left_eq, exists_eq_left', exists_eq_left, List.append_cancel_left_eq, List.take_length, ObCl, and_true, true_and, push_cast, Nat.reduceEqDiff, Nat.reduceBEq, Nat.reduceBNe, Nat.reduceAdd, Nat.reduceMul, Nat.reduceLT, Nat.reduceLeDiff, Nat.reduceSub, reduceCtorEq, Int.reduceToNat, ↓reduceIte]
    rfl
  · intro i hi
    have hA := wordsV_len bs i
    have hal := wdD_len (wordsV bs i)
    have haz := wdD_sz (wordsV bs i)
    have haf := wdD_flat (wordsV bs i)
    have w4 : IntKind.i64.wrap ((i : Int) + 1) = i + 1 := wrap_id (by omega) (by omega)
    by_cases hlt : i < 16
    · have w0 : IntKind.i64.wrap (4 * (i : Int)) = 4 * i := wrap_id (by omega) (by omega)
      have w1 : IntKind.i64.wrap (4 * (i : Int) + 1) = 4 * i + 1 := wrap_id (by omega) (by omega)
      have w2 : IntKind.i64.wrap (4 * (i : Int) + 2) = 4 * i + 2 := wrap_id (by omega) (by omega)
      have w3 : IntKind.i64.wrap (4 * (i : Int) + 3) = 4 * i + 3 := wrap_id (by omega) (by omega)
      have t0 : (4 * (i : Int)).toNat = 4 * i := by omega
      have t1 : (4 * (i : Int) + 1).toNat = 4 * i + 1 := by omega
      have t2 : (4 * (i : Int) + 2).toNat = 4 * i + 2 := by omega
      have t3 : (4 * (i : Int) + 3).toNat = 4 * i + 3 := by omega
      have g0 := byD_get (bs := bs) (k := 4 * i) (by omega)
      have g1 := byD_get (bs := bs) (k := 4 * i + 1) (by omega)
      have g2 := byD_get (bs := bs) (k := 4 * i + 2) (by omega)
      have g3 := byD_get (bs := bs) (k := 4 * i + 3) (by omega)
      have hcv : ∀ b : UInt8, IntKind.u32.wrap (b.toNat : Int) = b.toNat := fun b => by
        have : b.toNat < 256 := b.toNat_lt
        exact u32_id ⟨by omega, by omega⟩
      have m24 : min 24 32 = 24 := rfl
      have m16 : min 16 32 = 16 := rfl
      have m8 : min 8 32 = 8 := rfl
      have hwo := word_or (bs.getD (4 * i) 0) (bs.getD (4 * i + 1) 0) (bs.getD (4 * i + 2) 0) (bs.getD (4 * i + 3) 0)
      try simp -implicitDefEqProofs only [w0, w1, w2, w3, w4, t0, t1, t2, t3, g0, g1, g2, g3, hcv, m24, m16, m8, hwo, hbl, hbz, hal, haz, haf, hA, lenMax, IntKind.bits, push_cast, Nat.reduceEqDiff, Nat.reduceBEq, Nat.reduceBNe, Nat.reduceAdd, Nat.reduceMul, Nat.reduceLT, Nat.reduceLeDiff, Nat.reduceSub, reduceCtorEq, Int.reduceToNat, ↓reduceIte]
      repeat'
        (first
         | (refine uYes ?_; first | exact List.mem_cons_self | (simp only [List.mem_cons, List.not_mem_nil, or_false, true_or, or_true]; done))
         | (refine uNo (by kernel_rfl))
         | (refine flatMk ?_; kernel_rfl)
         | (refine And.intro ?_ ?_)
         | (intro hx)
         | ((first
             | (refine callGF ?_)
             | (refine callQGF ?_)
             | (refine skipG ?_)
             | (refine inX_mk [h.length] (by kernel_rfl) (by simp) ?_)); simp -implicitDefEqProofs only [w0, w1, w2, w3, w4, t0, t1, t2, t3, g0, g1, g2, g3, hcv, m24, m16, m8, hwo, hbl, hbz, hal, haz, haf, hA, lenMax, IntKind.bits, push_cast, Nat.reduceEqDiff, Nat.reduceBEq, Nat.reduceBNe, Nat.reduceAdd, Nat.reduceMul, Nat.reduceLT, Nat.reduceLeDiff, Nat.reduceSub, reduceCtorEq, Int.reduceToNat, ↓reduceIte]))
      all_goals first
        | omega
        | skip
      have hws : wdD (wordsV bs (i + 1)) = wdD (wordsV bs i) ++ [D.int .u32 ((bs.getD (4 * i) 0).toNat * 16777216 + (bs.getD (4 * i + 1) 0).toNat * 65536 + (bs.getD (4 * i + 2) 0).toNat * 256 + (bs.getD (4 * i + 3) 0).toNat)] := by
        rw [wordsV_succ, ← wdD_snoc]
        rfl
      refine round_mk (i + 1) (by omega) (by omega) ?_
      simp -implicitDefEqProofs only [w4, hws, hal, hA, Int.natCast_add, Int.cast_ofNat_Int, List.length_nil, Nat.le_refl, WeakTo, tokSts, tokOks, List.append_cancel_left_eq, exists_eq_left', exists_eq_left, List.append_cancel_left_eq, List.take_length, ObCl, and_true, true_and, push_cast, Nat.reduceEqDiff, Nat.reduceBEq, Nat.reduceBNe, Nat.reduceAdd, Nat.reduceMul, Nat.reduceLT, Nat.reduceLeDiff, Nat.reduceSub, reduceCtorEq, Int.reduceToNat, ↓reduceIte]
    · obtain rfl : i = 16 := by omega
      try simp -implicitDefEqProofs only [push_cast, Nat.reduceEqDiff, Nat.reduceBEq, Nat.reduceBNe, Nat.reduceAdd, Nat.reduceMul, Nat.reduceLT, Nat.reduceLeDiff, Nat.reduceSub, reduceCtorEq, Int.reduceToNat, ↓reduceIte]
      repeat'
        (first
         | (refine uYes ?_; first | exact List.mem_cons_self | (simp only [List.mem_cons, List.not_mem_nil, or_false, true_or, or_true]; done))
         | (refine uNo (by kernel_rfl))
         | (refine flatMk ?_; kernel_rfl)
         | (refine And.intro ?_ ?_)
         | (intro hx)
         | ((first
             | (refine callGF ?_)
             | (refine callQGF ?_)
             | (refine skipG ?_)
             | (refine callS (in_gives _ _ _ _) ?_)
             | (refine callQ (in_gives _ _ _ _) ?_)
             | (refine callG (fun hc => (in_gives _ _ _ _)) ?_)
             | (refine callQG (fun hc => (in_gives _ _ _ _)) ?_)); simp -implicitDefEqProofs only [push_cast, Nat.reduceEqDiff, Nat.reduceBEq, Nat.reduceBNe, Nat.reduceAdd, Nat.reduceMul, Nat.reduceLT, Nat.reduceLeDiff, Nat.reduceSub, reduceCtorEq, Int.reduceToNat, ↓reduceIte]))
      all_goals try omega
      have hws16 := wordsV_len bs 16
      generalize wordsV bs 16 = ws at hws16 hal haz haf
      refine ev_loop [] (fun i : Nat => [(3, .slice (wdD (schedV ws (i - 16))) (.buf h.length 1)), (5, .int .i64 i)])
        (fun i => [.buf i]) (fun i => 16 ≤ i ∧ i ≤ 64) (fun i => 64 - i) 16 trivial ⟨by omega, by omega⟩ ?_ ?_
      · refine ⟨1, by simp, by simp [tokSts], ?_⟩
        simp -implicitDefEqProofs only [Int.natCast_add, Int.cast_ofNat_Int, List.length_nil, Nat.le_refl, WeakTo, tokSts, tokOks, List.append_cancel_left_eq, exists_eq_left', exists_eq_left, List.append_cancel_left_eq, List.take_length, ObCl, and_true, true_and, push_cast, Nat.reduceEqDiff, Nat.reduceBEq, Nat.reduceBNe, Nat.reduceAdd, Nat.reduceMul, Nat.reduceLT, Nat.reduceLeDiff, Nat.reduceSub, reduceCtorEq, Int.reduceToNat, ↓reduceIte]
        rfl
      · rintro i ⟨hi1, hi2⟩
        have hA := schedV_len ws (i - 16)
        have hA : (schedV ws (i - 16)).length = i := by omega
        have w4 : IntKind.i64.wrap ((i : Int) + 1) = i + 1 := wrap_id (by omega) (by omega)
        by_cases hlt : i < 64
        · have hsc : schedV ws (i + 1 - 16) = schedV ws (i - 16) ++ [nextW (schedV ws (i - 16))] := by rw [show i + 1 - 16 = (i - 16) + 1 by omega, schedV]
          have hN : nextW (schedV ws (i - 16)) = u32 (u32 (u32 ((schedV ws (i - 16)).getD (i - 16) 0 + s0V ((schedV ws (i - 16)).getD (i - 15) 0)) + (schedV ws (i - 16)).getD (i - 7) 0) + s1V ((schedV ws (i - 16)).getD (i - 2) 0)) := by rw [nextW, hA]
          generalize schedV ws (i - 16) = A at hA hsc hN
          have hal := wdD_len A
          have haz := wdD_sz A
          have haf := wdD_flat A
          rw [hA] at hal
          have g16 := wdD_get (ws := A) (k := i - 16) (by omega)
          have g15 := wdD_get (ws := A) (k := i - 15) (by omega)
          have g7 := wdD_get (ws := A) (k := i - 7) (by omega)
          have g2 := wdD_get (ws := A) (k := i - 2) (by omega)
          have w16 : IntKind.i64.wrap ((i : Int) - 16) = i - 16 := wrap_id (by omega) (by omega)
          have w15 : IntKind.i64.wrap ((i : Int) - 15) = i - 15 := wrap_id (by omega) (by omega)
          have w7 : IntKind.i64.wrap ((i : Int) - 7) = i - 7 := wrap_id (by omega) (by omega)
          have w2 : IntKind.i64.wrap ((i : Int) - 2) = i - 2 := wrap_id (by omega) (by omega)
          have t16 : ((i : Int) - 16).toNat = i - 16 := by omega
          have t15 : ((i : Int) - 15).toNat = i - 15 := by omega
          have t7 : ((i : Int) - 7).toNat = i - 7 := by omega
          have t2 : ((i : Int) - 2).toNat = i - 2 := by omega
          have p3 : ((2 : Int) ^ min 3 32) = 8 := rfl
          have p10 : ((2 : Int) ^ min 10 32) = 1024 := rfl
          try simp -implicitDefEqProofs only [w16, w15, w7, w2, t16, t15, t7, t2, p3, p10, g16, g15, g7, g2, hal, haz, haf, w4, IntKind.bits, push_cast, Nat.reduceEqDiff, Nat.reduceBEq, Nat.reduceBNe, Nat.reduceAdd, Nat.reduceMul, Nat.reduceLT, Nat.reduceLeDiff, Nat.reduceSub, reduceCtorEq, Int.reduceToNat, ↓reduceIte]
          repeat'
            (first
             | (refine uYes ?_; first | exact List.mem_cons_self | (simp only [List.mem_cons, List.not_mem_nil, or_false, true_or, or_true]; done))
             | (refine uNo (by kernel_rfl))
             | (refine flatMk ?_; kernel_rfl)
             | (refine And.intro ?_ ?_)
             | (intro hx)
             | ((first
                 | (refine callGF ?_)
                 | (refine callQGF ?_)
                 | (refine skipG ?_)
                 | (refine callS (specTurn_gives (A.getD (i - 15) 0) 7 _ (by omega)) ?_)
                 | (refine callQ (specTurn_gives (A.getD (i - 15) 0) 7 _ (by omega)) ?_)
                 | (refine callG (fun hc => (specTurn_gives (A.getD (i - 15) 0) 7 _ (by omega))) ?_)
                 | (refine callQG (fun hc => (specTurn_gives (A.getD (i - 15) 0) 7 _ (by omega))) ?_)
                 | (refine callS (specTurn_gives (A.getD (i - 15) 0) 18 _ (by omega)) ?_)
                 | (refine callQ (specTurn_gives (A.getD (i - 15) 0) 18 _ (by omega)) ?_)
                 | (refine callG (fun hc => (specTurn_gives (A.getD (i - 15) 0) 18 _ (by omega))) ?_)
                 | (refine callQG (fun hc => (specTurn_gives (A.getD (i - 15) 0) 18 _ (by omega))) ?_)
                 | (refine callS (specTurn_gives (A.getD (i - 2) 0) 17 _ (by omega)) ?_)
                 | (refine callQ (specTurn_gives (A.getD (i - 2) 0) 17 _ (by omega)) ?_)
                 | (refine callG (fun hc => (specTurn_gives (A.getD (i - 2) 0) 17 _ (by omega))) ?_)
                 | (refine callQG (fun hc => (specTurn_gives (A.getD (i - 2) 0) 17 _ (by omega))) ?_)
                 | (refine callS (specTurn_gives (A.getD (i - 2) 0) 19 _ (by omega)) ?_)
                 | (refine callQ (specTurn_gives (A.getD (i - 2) 0) 19 _ (by omega)) ?_)
                 | (refine callG (fun hc => (specTurn_gives (A.getD (i - 2) 0) 19 _ (by omega))) ?_)
                 | (refine callQG (fun hc => (specTurn_gives (A.getD (i - 2) 0) 19 _ (by omega))) ?_)
                 | (refine inX_mk [h.length] (by kernel_rfl) (by simp) ?_)); simp -implicitDefEqProofs only [w16, w15, w7, w2, t16, t15, t7, t2, p3, p10, g16, g15, g7, g2, hal, haz, haf, w4, IntKind.bits, push_cast, Nat.reduceEqDiff, Nat.reduceBEq, Nat.reduceBNe, Nat.reduceAdd, Nat.reduceMul, Nat.reduceLT, Nat.reduceLeDiff, Nat.reduceSub, reduceCtorEq, Int.reduceToNat, ↓reduceIte]))
          all_goals first
            | omega
            | (simp only [lenMax]; omega)
            | skip
          have hrow : wdD (schedV ws (i + 1 - 16)) = wdD A ++ [D.int .u32 (IntKind.u32.wrap (IntKind.u32.wrap (IntKind.u32.wrap (A.getD (i - 16) 0 + bitI .xor .u32 (bitI .xor .u32 (rotV (A.getD (i - 15) 0) 7) (rotV (A.getD (i - 15) 0) 18)) ((A.getD (i - 15) 0).fdiv 8)) + A.getD (i - 7) 0) + bitI .xor .u32 (bitI .xor .u32 (rotV (A.getD (i - 2) 0) 17) (rotV (A.getD (i - 2) 0) 19)) ((A.getD (i - 2) 0).fdiv 1024)))] := by
            rw [hsc, ← wdD_snoc]
            exact congrArg (fun x => wdD A ++ [D.int .u32 x]) hN
          refine round_mk (i + 1) ⟨by omega, by omega⟩ (by omega) ?_
          simp -implicitDefEqProofs only [w4, hrow, hal, Int.natCast_add, Int.cast_ofNat_Int, List.length_nil, Nat.le_refl, WeakTo, tokSts, tokOks, List.append_cancel_left_eq, exists_eq_left', exists_eq_left, List.append_cancel_left_eq, List.take_length, ObCl, and_true, true_and, push_cast, Nat.reduceEqDiff, Nat.reduceBEq, Nat.reduceBNe, Nat.reduceAdd, Nat.reduceMul, Nat.reduceLT, Nat.reduceLeDiff, Nat.reduceSub, reduceCtorEq, Int.reduceToNat, ↓reduceIte]
        · obtain rfl : i = 64 := by omega
          have e48 : schedV ws (64 - 16) = schedV ws 48 := rfl
          rw [e48] at hA
          simp only [e48]
          generalize schedV ws 48 = W at hA
          try simp -implicitDefEqProofs only [push_cast, Nat.reduceEqDiff, Nat.reduceBEq, Nat.reduceBNe, Nat.reduceAdd, Nat.reduceMul, Nat.reduceLT, Nat.reduceLeDiff, Nat.reduceSub, reduceCtorEq, Int.reduceToNat, ↓reduceIte]
          repeat'
            (first
             | (refine uYes ?_; first | exact List.mem_cons_self | (simp only [List.mem_cons, List.not_mem_nil, or_false, true_or, or_true]; done))
             | (refine uNo (by kernel_rfl))
             | (refine flatMk ?_; kernel_rfl)
             | (refine And.intro ?_ ?_)
             | (intro hx)
             | ((first
                 | (refine callGF ?_)
                 | (refine callQGF ?_)
                 | (refine skipG ?_)
                 | (refine callS (in_gives _ _ _ _) ?_)
                 | (refine callQ (in_gives _ _ _ _) ?_)
                 | (refine callG (fun hc => (in_gives _ _ _ _)) ?_)
                 | (refine callQG (fun hc => (in_gives _ _ _ _)) ?_)); simp -implicitDefEqProofs only [push_cast, Nat.reduceEqDiff, Nat.reduceBEq, Nat.reduceBNe, Nat.reduceAdd, Nat.reduceMul, Nat.reduceLT, Nat.reduceLeDiff, Nat.reduceSub, reduceCtorEq, Int.reduceToNat, ↓reduceIte]))
          all_goals first
            | omega
            | trace_state
end Go.Proofs.YtcmpcpigchlhpaaDoor
