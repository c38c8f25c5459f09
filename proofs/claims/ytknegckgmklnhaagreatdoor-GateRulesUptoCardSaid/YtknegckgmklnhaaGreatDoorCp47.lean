/- The clean machine, part 47: floats of whole numbers up to 2^53: they are told apart. -/
/- Same: whether two values are the same. -/
/- Whether something holds of all values in a value; Known. -/
import Derived.Test.YtknegckgmklnhaaGreatDoorVaC3
namespace Go.CP

theorem cut_zero {neg : Bool} {n : Nat} : Ieee.Toward.even.cut neg n 0 = n := by
  simp only [Ieee.Toward.cut, Nat.zero_min, Nat.shiftLeft_zero, Nat.div_one, Nat.mod_one]
  simp

theorem f64_word {neg : Bool} {rung : Nat} (h1 : 2 ^ 52 ≤ rung) (h2 : rung < 2047 * 2 ^ 52) : Ieee.double.read (Ieee.double.word neg rung) = .number neg (2 ^ 52 + rung % 2 ^ 52) (-1074 + ((rung / 2 ^ 52 - 1 : Nat) : Int)) := by
  have e1 : Ieee.double.signWeight = 2 ^ 63 := rfl
  have e2 : Ieee.double.binade = 2 ^ 52 := rfl
  have e3 : Ieee.double.infRung = 2047 * 2 ^ 52 := rfl
  have e4 : Ieee.double.leastPlace = -1074 := rfl
  have hr : Ieee.double.word neg rung % 2 ^ 63 = rung := by
    cases neg
    · show rung % 2 ^ 63 = rung; omega
    · show (Ieee.double.signWeight + rung) % 2 ^ 63 = rung; rw [e1]; omega
  have hs : (Ieee.double.word neg rung / 2 ^ 63 % 2 == 1) = neg := by
    cases neg
    · show (rung / 2 ^ 63 % 2 == 1) = false
      have : rung / 2 ^ 63 = 0 := by omega
      rw [this]; rfl
    · show ((Ieee.double.signWeight + rung) / 2 ^ 63 % 2 == 1) = true
      have : (Ieee.double.signWeight + rung) / 2 ^ 63 = 1 := by rw [e1]; omega
      rw [this]; rfl
  unfold Ieee.Format.read
  simp only [e1, e2, e3, e4, hr, hs]
  rw [if_neg (by omega), if_pos h2]

theorem kept53 {neg : Bool} : Ieee.Toward.even.cut neg (9007199254740992 <<< 0) 1 = 4503599627370496 := by
  cases neg <;> rfl

theorem pow_scale {x C K N a b c : Nat} (h1 : K = N * 2 ^ a) (h2 : a + b = c) (hC : 2 ^ c = C) (hx : 2 ^ b = x) : K * x = N * C := by
  subst h1 hC hx
  rw [Nat.mul_assoc, ← Nat.pow_add, h2]

/-- What is kept of a whole number. -/
theorem kept {neg : Bool} {N L : Nat} (hL1 : 2 ^ L ≤ N) (hL2 : N < 2 ^ (L + 1)) (hN : N ≤ 2 ^ 53) (hL53 : L ≤ 53) {C D : Nat} (hC : 2 ^ 1074 = C) (hD : 2 ^ (L + 1022) = D) :
    ∃ K, Ieee.Toward.even.cut neg (N <<< (0 - ((L : Int) - 52)).toNat) (((L : Int) - 52) - 0).toNat = K ∧ 2 ^ 52 ≤ K ∧ K < 2 ^ 53 ∧ K * D = N * C := by
  rcases Nat.lt_or_ge 52 L with k | k
  · have hL : L = 53 := by omega
    subst hL
    have hN53 : N = 9007199254740992 := by omega
    subst hN53
    refine ⟨4503599627370496, kept53, by omega, by omega, ?_⟩
    have h1 : (9007199254740992 : Nat) = 4503599627370496 * 2 ^ 1 := by omega
    exact (pow_scale (K := 9007199254740992) (N := 4503599627370496) (a := 1) (b := 1074) (c := 53 + 1022) h1 (by omega) hD hC).symm
  · have e6 : (0 - ((L : Int) - 52)).toNat = 52 - L := by omega
    have e7 : (((L : Int) - 52) - 0).toNat = 0 := by omega
    rw [e6, e7, cut_zero, Nat.shiftLeft_eq]
    have p1 : 2 ^ L * 2 ^ (52 - L) = 2 ^ 52 := by rw [← Nat.pow_add, show L + (52 - L) = 52 by omega]
    have p2 : 2 ^ (L + 1) * 2 ^ (52 - L) = 2 ^ 53 := by rw [← Nat.pow_add, show L + 1 + (52 - L) = 53 by omega]
    refine ⟨_, rfl, ?_, ?_, pow_scale rfl (by omega) hC hD⟩
    · rw [← p1]; exact Nat.mul_le_mul_right _ hL1
    · rw [← p2]; exact Nat.mul_lt_mul_of_pos_right hL2 (Nat.pow_pos (by omega))

theorem rungs {L K B : Nat} (hB : B = 4503599627370496) (hL : L ≤ 53) (h1 : B ≤ K) (h2 : K < 2 * B) : B ≤ (L + 1022) * B + K ∧ (L + 1022) * B + K < 2047 * B ∧ B + ((L + 1022) * B + K) % B = K ∧ ((L + 1022) * B + K) / B - 1 = L + 1022 := by
  subst hB
  refine ⟨by omega, by omega, by omega, by omega⟩

theorem near_word {neg : Bool} {N L : Nat} (hpos : 0 < N) (hLL : N.log2 = L) (hL53 : L ≤ 53) {K : Nat} (hK : Ieee.Toward.even.cut neg (N <<< (0 - ((L : Int) - 52)).toNat) (((L : Int) - 52) - 0).toNat = K) (hK1 : 2 ^ 52 ≤ K) (hK2 : K < 2 ^ 53) :
    Ieee.double.read (Ieee.double.nearest neg N 0) = .number neg K ((L : Int) - 52) := by
  have e2 : Ieee.double.binade = 2 ^ 52 := rfl
  have e3 : Ieee.double.infRung = 2047 * 2 ^ 52 := rfl
  have e4 : Ieee.double.leastPlace = -1074 := rfl
  have e5 : ((Ieee.double.fractionBits : Nat) : Int) = 52 := rfl
  have hlast : max ((0 : Int) + (L : Nat) - 52) (-1074) = (L : Int) - 52 := by omega
  unfold Ieee.Format.nearest
  rw [if_neg (by omega)]
  simp only [hLL, e2, e3, e4, e5, hlast]
  rw [hK]
  have e8 : ((L : Int) - 52 - -1074).toNat = L + 1022 := by omega
  rw [e8]
  obtain ⟨r1, r2, r3, r4⟩ := rungs (L := L) (K := K) (B := 2 ^ 52) rfl hL53 hK1 hK2
  have hw := f64_word (neg := neg) r1 r2
  rw [r3, r4] at hw
  rw [Nat.min_eq_left (Nat.le_of_lt r2), hw]
  have e12 : (-1074 + ((L + 1022 : Nat) : Int)) = (L : Int) - 52 := by omega
  rw [e12]

/-- What the float of a whole number reads as; C: 2^1074. -/
theorem read_near {n : Int} (h : n.natAbs ≤ 2 ^ 53) {C : Nat} (hC : 2 ^ 1074 = C) : ∃ (m : Nat) (i : Int), Ieee.double.read (FloatKind.f64.nearest n) = .number (decide (n < 0)) m i ∧ -1074 ≤ i ∧ m * 2 ^ (i + 1074).toNat = n.natAbs * C := by
  show ∃ (m : Nat) (i : Int), Ieee.double.read (Ieee.double.nearest (decide (n < 0)) n.natAbs 0) = _ ∧ _
  generalize hneg : decide (n < 0) = neg
  generalize hN : n.natAbs = N at h
  rcases Nat.eq_zero_or_pos N with h0 | hpos
  · subst h0
    have hn : neg = false := by rw [← hneg]; exact decide_eq_false (by omega)
    subst hn
    exact ⟨0, -1074, rfl, by omega, by simp⟩
  have hL1 : 2 ^ N.log2 ≤ N := Nat.log2_self_le (by omega)
  have hL2 : N < 2 ^ (N.log2 + 1) := Nat.lt_log2_self
  generalize hLL : N.log2 = L at hL1 hL2
  have hL53 : L ≤ 53 := by
    rcases Nat.lt_or_ge 53 L with k | k
    · have : 2 ^ 54 ≤ 2 ^ L := Nat.pow_le_pow_right (by omega) k
      omega
    · exact k
  obtain ⟨K, hK, hK1, hK2, hKv⟩ := kept (neg := neg) hL1 hL2 h hL53 hC rfl
  refine ⟨K, (L : Int) - 52, near_word hpos hLL hL53 hK hK1 hK2, by omega, ?_⟩
  have e11 : ((L : Int) - 52 + 1074).toNat = L + 1022 := by omega
  rw [e11]; exact hKv

theorem signed_scale {n : Int} {m C : Nat} {i base : Int} (hb : -1074 ≤ base) (hi : base ≤ i) (h : m * 2 ^ (i + 1074).toNat = n.natAbs * C) :
    Ieee.signed (decide (n < 0)) m (i - base).toNat * ((2 ^ (base + 1074).toNat : Nat) : Int) = n * (C : Int) := by
  have e : m * 2 ^ (i - base).toNat * 2 ^ (base + 1074).toNat = n.natAbs * C := by
    rw [Nat.mul_assoc, ← Nat.pow_add, ← h]; congr 2; omega
  unfold Ieee.signed
  rw [Nat.shiftLeft_eq]
  by_cases hn : n < 0
  · rw [decide_eq_true hn, if_pos rfl, Int.neg_mul, ← Int.natCast_mul, e, Int.natCast_mul]
    have : n = -(n.natAbs : Int) := by omega
    rw [show n * (C : Int) = -((n.natAbs : Int) * C) by rw [← Int.neg_mul, ← this]]
  · rw [decide_eq_false hn, if_neg (by simp), ← Int.natCast_mul, e, Int.natCast_mul]
    have : n = (n.natAbs : Int) := by omega
    rw [← this]

theorem pow_any (n : Nat) : ∃ C : Nat, 2 ^ n = C ∧ 0 < C := ⟨_, rfl, Nat.pow_pos (by omega)⟩

/-- Floats of whole numbers are the same just if these are. -/
theorem floatEq_near {a b : Int} (ha : a.natAbs ≤ 2 ^ 53) (hb : b.natAbs ≤ 2 ^ 53) : Op.floatEq .f64 (FloatKind.f64.nearest a) (FloatKind.f64.nearest b) = decide (a = b) := by
  obtain ⟨C, hC, hc⟩ := pow_any 1074
  obtain ⟨m, i, r1, i1, v1⟩ := read_near ha hC
  obtain ⟨m', j, r2, j1, v2⟩ := read_near hb hC
  clear hC
  show (Ieee.double.order _ _ == some .eq) = _
  unfold Ieee.Format.order
  rw [r1, r2]
  simp only [Ieee.Datum.order]
  have s1 := signed_scale (n := a) (base := min i j) (by omega) (by omega) v1
  have s2 := signed_scale (n := b) (base := min i j) (by omega) (by omega) v2
  have hp : (0 : Int) < ((2 ^ (min i j + 1074).toNat : Nat) : Int) := by
    have : 0 < 2 ^ (min i j + 1074).toNat := Nat.pow_pos (by omega)
    omega
  generalize ((2 ^ (min i j + 1074).toNat : Nat) : Int) = D at s1 s2 hp
  generalize Ieee.signed (decide (a < 0)) m (i - min i j).toNat = x at s1
  generalize Ieee.signed (decide (b < 0)) m' (j - min i j).toNat = y at s2
  have key : x = y ↔ a = b := by
    constructor
    · intro e
      rw [e, s2] at s1
      exact (Int.eq_of_mul_eq_mul_right (by omega) s1).symm
    · intro e
      rw [e, ← s2] at s1
      exact Int.eq_of_mul_eq_mul_right (by omega) s1
  by_cases hxy : x = y
  · rw [decide_eq_true (key.1 hxy), hxy, Int.compare_eq_eq.2 rfl]; rfl
  · rw [decide_eq_false fun e => hxy (key.2 e)]
    have : compare x y ≠ .eq := fun e => hxy (Int.compare_eq_eq.1 e)
    cases hc : compare x y <;> simp_all <;> rfl

end Go.CP

namespace Go.Proofs.YtknegckgmklnhaaGreatDoor
open Go Go.CP Classical
set_option maxRecDepth 100000

theorem picks_perm {α : Type} : ∀ {l : List α} {p : α × List α}, p ∈ picks l → (p.1 :: p.2).Perm l
  | [], p, h => by simp [picks] at h
  | x :: xs, p, h => by
    simp only [picks, List.mem_cons, List.mem_map] at h
    rcases h with rfl | ⟨q, hq, rfl⟩
    · exact .refl _
    · exact (List.Perm.swap x q.1 q.2).trans ((picks_perm hq).cons x)
theorem picks_map {α β : Type} {f : α → β} : ∀ {l : List α}, picks (l.map f) = (picks l).map fun p => (f p.1, p.2.map f)
  | [] => rfl
  | x :: xs => by
    simp only [List.map_cons, picks, picks_map (l := xs), List.map_map]
    rfl

theorem zip_E {es : List (List UInt8 × T)} : (es.map fun e => LV.str e.1).zip (lvTm es) = mE es := by
  rw [lvTm_eq]
  induction es with
  | nil => rfl
  | cons e es ih => simp only [List.map_cons, List.zip_cons_cons, ih, mE]

/-- A map's entries are all in another one, by p. -/
def InE (p : T → T → Prop) (es' rest : List (List UInt8 × T)) : Prop := ∀ e ∈ rest, ∃ y, T.find es' e.1 = some y ∧ p e.2 y

theorem loop114 {es es' : List (List UInt8 × T)} {p : T → T → Prop} (hn : (es'.map (·.1)).Nodup) {g : FuncId} (hg : ∀ e ∈ es, ∀ y, T.find es' e.1 = some y → Pu Tryz.prog g [vT e.2, vT y] (.bool (decide (p e.2 y)))) {R : LV → LState → Prop} :
    ∀ (n : Nat) (rest : List (List UInt8 × T)), rest.length = n → (∀ e ∈ rest, e ∈ es) → ∀ (st : LState) (o : Nat) (cur : Option (LV × LV)), st[o]? = some (.fiter cur (mE rest)) → (∀ s, R (.bool (decide (InE p es' rest))) s) →
      P114_1 (.imap (es'.map fun e => .str e.1) (lvTm es')) (.fn (.func g) [] []) (.ptr o 0) R st := by
  intro n
  induction n with
  | zero =>
    intro rest hl _ st o cur ho hR
    obtain rfl := List.eq_nil_of_length_eq_zero hl
    apply p114_1
    have e : lnextAll st (.ptr o 0) = some [(.tup [.bool false], st)] := by simp only [lnextAll, ho, mE, List.map_nil]
    have := hR st
    rw [decide_eq_true (show InE p es' [] from fun e h => by cases h)] at this
    simp only [w114_1, lnextK, e, bd_some, allK, lextract_tup, List.getElem?_cons_zero, bsel_false, and_true]
    exact this
  | succ n ih =>
    intro rest hl hsub st o cur ho hR
    apply p114_1
    obtain ⟨x, xs, rfl⟩ : ∃ x xs, rest = x :: xs := by
      cases rest with
      | nil => simp at hl
      | cons x xs => exact ⟨x, xs, rfl⟩
    have e : lnextAll st (.ptr o 0) = some ((picks (mE (x :: xs))).map fun q => (.tup [.bool true, q.1.1, q.1.2], st.set o (.fiter (some q.1) q.2))) := by
      simp only [lnextAll, ho, mE, List.map_cons]
    simp only [w114_1, lnextK, e, bd_some]
    refine allK_of fun q hq => ?_
    obtain ⟨q', hq', rfl⟩ := List.mem_map.1 hq
    simp only [mE] at hq'
    rw [picks_map] at hq'
    obtain ⟨⟨⟨k, t⟩, l⟩, hpk, rfl⟩ := List.mem_map.1 hq'
    have hperm := picks_perm hpk
    have ho1 : (st.set o (.fiter (some (.str k, vT t)) (mE l)))[o]? = some (.fiter (some (.str k, vT t)) (mE l)) := get_set ho
    have hin : (k, t) ∈ x :: xs := hperm.mem_iff.1 List.mem_cons_self
    generalize st.set o (.fiter (some (.str k, vT t)) (mE l)) = st1 at ho1
    have e2 : lentry st1 (.ptr o 0) = some (.tup [.str k, vT t]) := by simp only [lentry, ho1]
    simp only [lextract_tup, List.getElem?_cons_zero, List.getElem?_cons_succ, bd_some, bsel_true, e2, nw_eq, put_new, lmk_some, bd2_some, mget_T hn, if_true]
    have hl2 : l.length = n := by have := hperm.length_eq; simp at this hl; omega
    rcases hf : T.find es' k with _ | y
    · simp only [Option.getD_none, Option.isSome_none, put_new, lmk_some, bd2_some, lun_not, bd_some, Bool.not_false, bsel_true]
      have := hR (st1 ++ [.cells .rw [lvT t]] ++ [.cells .rw [lvT .null]])
      rwa [decide_eq_false (fun h => by obtain ⟨y, h1, _⟩ := h _ hin; rw [hf] at h1; cases h1)] at this
    · have e3 : lclo (.fn (.func g) [] []) [vT t, vT y] = some (g, [vT t, vT y]) := rfl
      simp only [Option.getD_some, Option.isSome_some, put_new, lmk_some, bd2_some, lun_not, bd_some, Bool.not_true, bsel_false, get_new, get_new2, e3]
      refine (hg _ (hsub _ hin) y hf).call ?_
      simp only [lun_not, bd_some, bsel_bool]
      refine ⟨fun h => ?_, fun h => ?_⟩
      · have hp : ¬ p t y := by simpa using h
        have := hR (st1 ++ [.cells .rw [lvT t]] ++ [.cells .rw [lvT y]])
        rwa [decide_eq_false (fun h => by obtain ⟨y', h1, h2⟩ := h _ hin; rw [hf] at h1; cases h1; exact hp h2)] at this
      · have hp : p t y := by simpa using h
        refine ih l hl2 (fun e he => hsub e (hperm.mem_iff.1 (List.mem_cons_of_mem _ he))) _ o _ (get_app (get_app ho1)) fun s => ?_
        have := hR s
        have e4 : InE p es' (x :: xs) = InE p es' l := propext ⟨fun h e he => h e (hperm.mem_iff.1 (List.mem_cons_of_mem _ he)), fun h e he => by
          rcases List.mem_cons.1 (hperm.mem_iff.2 he) with rfl | he
          · exact ⟨y, hf, hp⟩
          · exact h e he⟩
        rwa [e4] at this

/-- maps.EqualFunc -/
theorem eqf114 {es es' : List (List UInt8 × T)} {p : T → T → Prop} (hn : (es'.map (·.1)).Nodup) {g : FuncId} (hg : ∀ e ∈ es, ∀ y, T.find es' e.1 = some y → Pu Tryz.prog g [vT e.2, vT y] (.bool (decide (p e.2 y)))) :
    Pu Tryz.prog 114 [.imap (es.map fun e => .str e.1) (lvTm es), .imap (es'.map fun e => .str e.1) (lvTm es'), .fn (.func g) [] []] (.bool (decide (es.length = es'.length ∧ InE p es' es))) := by
  refine Pu.of (c114 _ _ _ ?_) (by simp only [LV.plains, LV.plain, lvTm_plain, Bool.and_true, Bool.true_and, plains_map (f := fun e : List UInt8 × T => LV.str e.1) fun _ _ => rfl]) rfl
  have e1 : ∀ {es : List (List UInt8 × T)} {st : LState}, lenMap st (.imap (es.map fun e => .str e.1) (lvTm es)) = some (i64 es.length) := fun {es st} => by simp only [lenMap, List.length_map]
  simp only [w114, e1, bd_some, bInt_int, lint_neq, bsel_bool]
  refine ⟨fun h => ?_, fun h => ?_⟩
  · have hne : es.length ≠ es'.length := fun e => by simp [e] at h
    rw [decide_eq_false (fun k => hne k.1)]; rfl
  · have he : es.length = es'.length := by
      have h1 : (es.length : Int) = es'.length := by simpa using h
      omega
    have e2 : ∀ {st : LState}, lrange Tryz.prog st 173 (.imap (es.map fun e => .str e.1) (lvTm es)) = some (.ptr st.length 0, st ++ [.fiter none (mE es)]) := fun {st} => by
      unfold lrange
      rw [Tryz.underlying173]
      simp only [List.length_map, lvTm_len, if_true, zip_E]
    rw [e2]
    simp only [bd2_some]
    refine loop114 hn hg es.length es rfl (fun _ h => h) _ _ none (by simp) fun s => ?_
    by_cases hI : InE p es' es
    · rw [decide_eq_true hI, decide_eq_true ⟨he, hI⟩]; rfl
    · rw [decide_eq_false hI, decide_eq_false fun h => hI h.2]; rfl

theorem dyn_bool {x y : Bool} : eqDyn Tryz.prog 4 (.bool x) (.bool y) = some (x == y) := by kernel_rfl
theorem dyn_int {x y : Int} : eqDyn Tryz.prog 3 (.int .i64 x) (.int .i64 y) = some (x == y) := by kernel_rfl
theorem dyn_str {x y : List UInt8} : eqDyn Tryz.prog 9 (.str x) (.str y) = some (x == y) := by kernel_rfl
theorem dyn_cplx {a b c d : Nat} : eqDyn Tryz.prog 170 (.cplx .f64 a b) (.cplx .f64 c d) = some (Op.floatEq .f64 a c && Op.floatEq .f64 b d) := by kernel_rfl
theorem dyn_later : eqDyn Tryz.prog 169 (.agg []) (.agg []) = some true := by kernel_rfl

theorem sub_len : ∀ {a b : List (List UInt8)}, a.Nodup → (∀ x ∈ a, x ∈ b) → a.length ≤ b.length
  | [], _, _, _ => by simp
  | x :: a, b, h, hs => by
    rw [List.nodup_cons] at h
    have hx := hs x (by simp)
    have h1 := sub_len (a := a) (b := b.erase x) h.2 fun y hy => by
      have hne : y ≠ x := fun e => h.1 (e ▸ hy)
      exact (List.mem_erase_of_ne hne).2 (hs y (List.mem_cons_of_mem _ hy))
    rw [List.length_erase_of_mem hx] at h1
    have := List.length_pos_of_mem hx
    simp only [List.length_cons]; omega

theorem rise_eq : ∀ {es es' : List (List UInt8 × T)}, (es.map (·.1)).Pairwise ltB → (es'.map (·.1)).Pairwise ltB → es.length = es'.length → (∀ e ∈ es, e ∈ es') → es = es'
  | [], [], _, _, _, _ => rfl
  | [], _ :: _, _, _, h, _ => by simp at h
  | _ :: _, [], _, _, h, _ => by simp at h
  | e :: l, e' :: l', h, h', hl, hs => by
    simp only [List.map_cons, List.pairwise_cons] at h h'
    have hll : l.length = l'.length := by simpa using hl
    rcases List.mem_cons.1 (hs e (by simp)) with rfl | he
    · congr 1
      refine rise_eq h.2 h'.2 hll fun x hx => ?_
      rcases List.mem_cons.1 (hs x (List.mem_cons_of_mem _ hx)) with rfl | hx'
      · exact absurd rfl (ltB_ne (h.1 x.1 (List.mem_map.2 ⟨x, hx, rfl⟩)))
      · exact hx'
    · exfalso
      have h1 : ltB e'.1 e.1 := h'.1 e.1 (List.mem_map.2 ⟨e, he, rfl⟩)
      have h2 : ∀ x ∈ (e :: l).map (·.1), x ∈ l'.map (·.1) := by
        intro x hx
        obtain ⟨y, hy, rfl⟩ := List.mem_map.1 hx
        have h3 : ltB e'.1 y.1 := by
          rcases List.mem_cons.1 hy with rfl | hy
          · exact h1
          · exact bl_trans h1 (h.1 y.1 (List.mem_map.2 ⟨y, hy, rfl⟩))
        rcases List.mem_cons.1 (hs y hy) with rfl | hy'
        · exact absurd rfl (ltB_ne h3)
        · exact List.mem_map.2 ⟨y, hy', rfl⟩
      have h4 := sub_len (a := (e :: l).map (·.1)) (by
        refine rise_nodup ?_
        simp only [List.map_cons, List.pairwise_cons]; exact h) h2
      simp at h4; omega

theorem map_same {es es' : List (List UInt8 × T)} (h : (es.map (·.1)).Pairwise ltB) (h' : (es'.map (·.1)).Pairwise ltB) : (es.length = es'.length ∧ InE (· = ·) es' es) ↔ T.map es = T.map es' := by
  constructor
  · rintro ⟨h1, h2⟩
    rw [rise_eq h h' h1 fun e he => by
      obtain ⟨y, h3, h4⟩ := h2 e he
      have := T.find_mem h3
      rw [← h4] at this; exact this]
  · intro e
    cases e
    exact ⟨rfl, fun e he => ⟨e.2, T.find_of_mem (rise_nodup h) he, rfl⟩⟩

def scalar : T → Prop
  | .list _ | .map _ => False
  | _ => True

theorem eq_sc {a b : T} (ha : a.ok) (hb : b.ok) (sa : scalar a) (sb : scalar b) : eqIf true (eqDyn Tryz.prog) (lvT a) (lvT b) = some (decide (a = b)) := by
  have dt : ∀ {p : Prop}, p → some true = some (decide p) := fun h => by rw [decide_eq_true h]
  have df : ∀ {p : Prop}, ¬ p → some false = some (decide p) := fun h => by rw [decide_eq_false h]
  have db : ∀ {p : Prop} {c : Bool}, (c = true ↔ p) → some c = some (decide p) := fun {p c} h => by
    cases c
    · exact df fun hp => by have := h.2 hp; cases this
    · exact dt (h.1 rfl)
  cases a <;> cases b <;> first | exact sa.elim | exact sb.elim | exact df (by simp) | exact dt rfl | skip
  · rename_i x y
    exact (show eqIf true (eqDyn Tryz.prog) (lvT (.bool x)) (lvT (.bool y)) = some (x == y) from dyn_bool).trans (db (by simp))
  · rename_i x y
    exact (show eqIf true (eqDyn Tryz.prog) (lvT (.int x)) (lvT (.int y)) = some (x == y) from dyn_int).trans (db (by simp))
  · rename_i x y z w
    refine (show eqIf true (eqDyn Tryz.prog) (lvT (.point x y)) (lvT (.point z w)) = some (Op.floatEq .f64 (fb x) (fb z) && Op.floatEq .f64 (fb y) (fb w)) from dyn_cplx).trans ?_
    simp only [T.ok] at ha hb
    rw [show fb x = FloatKind.f64.nearest x from rfl, show fb z = FloatKind.f64.nearest z from rfl, show fb y = FloatKind.f64.nearest y from rfl, show fb w = FloatKind.f64.nearest w from rfl,
      floatEq_near (by omega) (by omega), floatEq_near (by omega) (by omega)]
    exact db (by simp)
  · rename_i x y
    exact (show eqIf true (eqDyn Tryz.prog) (lvT (.text x)) (lvT (.text y)) = some (x == y) from dyn_str).trans (db (by simp))

theorem as_list {a : T} : asC 171 (some .nils) (lvT a) true = some (.tup [match a with | .list l => vL l | _ => .nils, .bool (match a with | .list _ => true | _ => false)]) := by cases a <;> rfl
theorem as_map {a : T} : asC 173 (some .nilm) (lvT a) true = some (.tup [match a with | .map es => .imap (es.map fun e => .str e.1) (lvTm es) | _ => .nilm, .bool (match a with | .map _ => true | _ => false)]) := by cases a <;> rfl

/-- Same -/
theorem same_pu : ∀ (n : Nat) (a b : T), SizeOf.sizeOf a < n → a.ok → b.ok → Pu Tryz.prog 48 [vT a, vT b] (.bool (decide (a = b)))
  | 0, _, _, h, _, _ => by omega
  | n + 1, a, b, hn, ha, hb => by
    have hrec : ∀ x ∈ a.items, ∀ y, y.ok → Pu Tryz.prog 48 [vT x, vT y] (.bool (decide (x = y))) := fun x hx y hy => same_pu n x y (by have := T.size_items hx; omega) (T.ok_items ha x hx) hy
    refine Pu.of (c48 _ _ ?_) (by simp only [LV.plains, LV.plain, lvT_plain, Bool.and_true]) rfl
    have lb : ∀ {st : LState} {t : T}, lbox st (vT t) = some (.ptr st.length 0, st ++ [.cells .rw [lvT t]]) := rfl
    have g0 : ld1 [LObj.cells .rw [lvT a], .cells .rw [lvT b]] (.ptr 0 0) = some (lvT a) := rfl
    have g1 : ld1 [LObj.cells .rw [lvT a], .cells .rw [lvT b]] (.ptr 1 0) = some (lvT b) := rfl
    simp only [w48, lb, bd2_some, fAddr_ptr, Nat.zero_add, List.nil_append, List.cons_append, List.length_nil, List.length_cons, g0, g1, bd_some, as_list, as_map, lextract_tup, List.getElem?_cons_zero, List.getElem?_cons_succ]
    have no : ∀ {p : Prop} {st : LState}, ¬ p → dp st (.bool (decide p)) (.bool false) := fun h => by rw [decide_eq_false h]; rfl
    have yes : ∀ {p q : Prop} {dq : Decidable q} {st : LState}, (q ↔ p) → dp st (.bool (decide p)) (.bool (@decide q dq)) := fun {p q dq st} h => by
      by_cases hp : p
      · rw [decide_eq_true hp, decide_eq_true (h.2 hp)]; rfl
      · rw [decide_eq_false hp, decide_eq_false fun hq => hp (h.1 hq)]; rfl
    by_cases sa : scalar a
    · by_cases sb : scalar b
      · have he := eq_sc ha hb sa sb
        cases a <;> first | exact sa.elim | skip
        all_goals cases b <;> first | exact sb.elim | skip
        all_goals simp only [bsel_false, lpick, cond_false, cond_true, bd_some, he, eqB_some, eqOut_eql]
        all_goals exact rfl
      · cases b <;> first | exact (sb trivial).elim | skip
        all_goals cases a <;> first | exact sa.elim | skip
        all_goals simp only [bsel_false, bsel_true, lpick, cond_false, cond_true, bd_some]
        all_goals exact no (by simp)
    · cases a <;> first | exact (sa trivial).elim | skip
      · rename_i l
        cases b <;> simp only [bsel_false, bsel_true] <;> first | exact no (by simp) | skip
        rename_i l'
        refine (eqf113 (p := (· = ·)) (l := l) (l' := l') ha.1 fun i x y hx hy => hrec x (List.mem_of_getElem? hx) y (T.ok_items hb y (List.mem_of_getElem? hy))).call ?_
        exact yes (All2.eq.trans (by simp))
      · rename_i es
        cases b <;> simp only [bsel_false, bsel_true] <;> first | exact no (by simp) | skip
        rename_i es'
        refine (eqf114 (p := (· = ·)) (rise_nodup hb.2.2) fun e he y hy => hrec e.2 (List.mem_map.2 ⟨e, he, rfl⟩) y ((T.okm_iff.1 hb.2.1 _ (T.find_mem hy)).2)).call ?_
        exact yes (map_same ha.2.2 hb.2.2)

end Go.Proofs.YtknegckgmklnhaaGreatDoor

namespace Go.Proofs.YtknegckgmklnhaaGreatDoor
open Go Go.CP
set_option maxRecDepth 100000

mutual
/-- Does it hold of it, and of all in it? -/
def every (q : T → Bool) : T → Bool
  | .list l => q (.list l) && everys q l
  | .map es => q (.map es) && everym q es
  | .null => q .null
  | .unknown => q .unknown
  | .bool b => q (.bool b)
  | .int n => q (.int n)
  | .point a b => q (.point a b)
  | .text s => q (.text s)
def everys (q : T → Bool) : List T → Bool
  | [] => true
  | t :: ts => every q t && everys q ts
def everym (q : T → Bool) : List (List UInt8 × T) → Bool
  | [] => true
  | e :: es => every q e.2 && everym q es
end
theorem everys_eq {q : T → Bool} : ∀ {l : List T}, everys q l = l.all (every q)
  | [] => rfl
  | t :: ts => by simp [everys, everys_eq (l := ts)]
theorem everym_eq {q : T → Bool} : ∀ {l : List (List UInt8 × T)}, everym q l = (l.map (·.2)).all (every q)
  | [] => rfl
  | t :: ts => by simp [everym, everym_eq (l := ts)]
theorem every_eq {q : T → Bool} {t : T} : every q t = (q t && t.items.all (every q)) := by
  cases t <;> simp [every, T.items, everys_eq, everym_eq]

theorem lbox_v {st : LState} {t : T} : lbox st (vT t) = some (.ptr st.length 0, st ++ [.cells .rw [lvT t]]) := rfl

/-- The negation in each's loop. -/
theorem each178 {q : T → Bool} {g : FuncId} {x : T} (hx : Pu Tryz.prog 119 [vT x, .fn (.func g) [] []] (.bool (every q x))) {st : LState} {o : Nat} (ho : st[o]? = some (.cells .rw [.fn (.func g) [] []])) {R : LV → LState → Prop}
    (hR : ∀ s, s[o]? = some (.cells .rw [.fn (.func g) [] []]) → R (.bool (!(every q x))) s) : LCalls Tryz.prog 178 [vT x, .ptr o 0] st R := by
  refine c178 _ _ ?_
  have e1 : ld1 (st ++ [.cells .rw [lvT x]]) (.ptr o 0) = some (.fn (.func g) [] []) := by rw [ld1_of (get_app ho)]; rfl
  simp only [w178, lbox_v, bd2_some, get_new, bd_some, e1]
  refine hx.call ?_
  simp only [lun_not, bd_some]
  exact hR _ (get_app ho)

theorem loop216 {q : T → Bool} {g : FuncId} {l : List T} (hb : l.length ≤ big) (hl : ∀ x ∈ l, Pu Tryz.prog 119 [vT x, .fn (.func g) [] []] (.bool (every q x))) {o : Nat} {R : LV → LState → Prop}
    (h1 : ∀ (k : Nat) s, l.all (every q) = false → R (i64 k) s) (h2 : ∀ s, l.all (every q) = true → R (i64 (-1)) s) :
    ∀ (d i : Nat) (st : LState), i + d = l.length → (l.take i).all (every q) = true → st[o]? = some (.cells .rw [.fn (.func g) [] []]) → P216_1 (vL l) (.fn (.func 178) [] [.ptr o 0]) (i64 l.length) (i64 i) R st := by
  intro d
  induction d with
  | zero =>
    intro i st hi ht ho
    apply p216_1
    have : ¬ ((i : Int) < l.length) := by omega
    simp only [w216_1, bInt_int, lint_lss, bd_some, this, decide_false, bsel_false]
    rw [List.take_of_length_le (by omega)] at ht
    exact h2 _ ht
  | succ d ih =>
    intro i st hi ht ho
    apply p216_1
    have hlt : i < l.length := by omega
    have c1 : (i : Int) < l.length := by omega
    have hx : l[i]? = some l[i] := List.getElem?_eq_getElem hlt
    have hp := hl _ (List.getElem_mem hlt)
    generalize l[i] = x at hx hp
    have e1 : ixSl 1 (vL l) (i64 i) = some (.iptr (lvTs l) (i * 1)) := ixIsl hlt
    have e2 : lclo (.fn (.func 178) [] [.ptr o 0]) [vT x] = some (178, [vT x, .ptr o 0]) := rfl
    simp only [w216_1, bInt_int, lint_lss, bd_some, c1, decide_true, bsel_true, e1, box_el hx, e2, bd2_some]
    refine each178 hp ho fun s hs => ?_
    rcases hq : every q x with _ | _
    · simp only [Bool.not_false, bsel_true]
      exact h1 i s (List.all_eq_false.2 ⟨x, List.mem_of_getElem? hx, by simp [hq]⟩)
    · simp only [Bool.not_true, bsel_false, lint_add, bInt_int, bd_some, wrap_add1 (show i < 2 ^ 40 by unfold big at hb; omega)]
      refine ih (i + 1) s (by omega) ?_ hs
      rw [List.take_add_one, List.all_append, ht, hx]
      simp [hq]

/-- each -/
theorem each_pu {q : T → Bool} {g : FuncId} (hg : ∀ t : T, Pu Tryz.prog g [vT t] (.bool (q t))) : ∀ (n : Nat) (t : T), SizeOf.sizeOf t < n → t.ok → Pu Tryz.prog 119 [vT t, .fn (.func g) [] []] (.bool (every q t))
  | 0, _, h, _ => by omega
  | n + 1, t, hn, ht => by
    have hrec : ∀ x ∈ t.items, Pu Tryz.prog 119 [vT x, .fn (.func g) [] []] (.bool (every q x)) := fun x hx => each_pu hg n x (by have := T.size_items hx; omega) (T.ok_items ht x hx)
    have hb : t.items.length ≤ big := by
      cases t <;> simp only [T.items, List.length_nil, Nat.zero_le, List.length_map]
      · exact ht.1
      · exact ht.1
    refine Pu.of (c119 _ _ ?_) (by simp only [LV.plains, LV.plain, lvT_plain, Bool.and_true]) rfl
    have lb2 : lbox [LObj.cells .rw [lvT t]] (.fn (.func g) [] []) = some (.ptr 1 0, [LObj.cells .rw [lvT t], .cells .rw [.fn (.func g) [] []]]) := rfl
    have g0 : ldA [LObj.cells .rw [lvT t], .cells .rw [.fn (.func g) [] []]] (.ptr 0 0) 1 = some (vT t) := rfl
    have g1 : ld1 [LObj.cells .rw [lvT t], .cells .rw [.fn (.func g) [] []]] (.ptr 1 0) = some (.fn (.func g) [] []) := rfl
    have e2 : lclo (.fn (.func g) [] []) [vT t] = some (g, [vT t]) := rfl
    simp only [w119, lbox_v, bd2_some, List.nil_append, List.length_nil, lb2, g0, g1, e2, bd_some]
    refine (hg t).call ?_
    rw [every_eq]
    rcases hq : q t with _ | _
    · simp only [bsel_false, Bool.false_and]; exact rfl
    · simp only [bsel_true, g0, bd_some, Bool.true_and]
      refine (items_pu ht).call ?_
      refine c177 _ _ ?_
      show LCalls Tryz.prog 216 _ _ _
      refine c216 _ _ ?_
      show P216_1 (vL t.items) _ (i64 t.items.length) (i64 (0 : Nat)) _ _
      refine loop216 (q := q) (g := g) (o := 1) hb hrec (fun k s h => ?_) (fun s h => ?_) t.items.length 0 _ (by omega) rfl rfl
      · have c : ((k : Int) ≥ 0) := by omega
        simp only [bInt_int, lint_geq, bd_some, c, decide_true, lun_not, Bool.not_true, h]
        exact rfl
      · have c : ¬ ((-1 : Int) ≥ 0) := by omega
        simp only [bInt_int, lint_geq, bd_some, c, decide_false, lun_not, Bool.not_false, h]
        exact rfl

def isKnown (t : T) : Bool := t.kind != 1

theorem notun_pu (t : T) : Pu Tryz.prog 120 [vT t] (.bool (isKnown t)) := by
  refine Pu.of (c120 _ ?_) vT_plains rfl
  simp only [w120, lbox_v, bd2_some, get_new, bd_some]
  refine (kind_pu t).call ?_
  simp only [bInt_int, lint_neq, bd_some]
  exact rfl

/-- Known -/
theorem known_pu {t : T} (h : t.ok) : Pu Tryz.prog 55 [vT t] (.bool (every isKnown t)) := by
  refine Pu.of (c55 _ ?_) vT_plains rfl
  simp only [w55, lbox_v, bd2_some, get_new, bd_some]
  refine (each_pu notun_pu _ t (Nat.lt_succ_self _) h).call ?_
  exact rfl

end Go.Proofs.YtknegckgmklnhaaGreatDoor

