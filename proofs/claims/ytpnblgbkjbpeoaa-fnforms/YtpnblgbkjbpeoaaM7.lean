/- Part 7 of the proof of FnForms: what it leans on. -/
import Derived.Test.YtpnblgbkjbpeoaaM1
import Derived.Test.YtpnblgbkjbpeoaaM2
import Derived.Test.YtpnblgbkjbpeoaaM3
import Derived.Test.YtpnblgbkjbpeoaaM4
import Derived.Test.YtpnblgbkjbpeoaaM5
import Derived.Test.YtpnblgbkjbpeoaaM6

/- Plain laws of ReadEntry: the program's and the reference's come to one function. -/
namespace Go.Proofs.Ytpnblgbkjbpeoaa.Q
open Go.RowKit Go.Proofs.Ytpnblgbkjbpeoaa.P Go.Proofs.YtpnblgbkjbpeoaaW.PrintWords Go.Proofs.YtpnblgbkjbpeoaaW.PrintLast Go.Proofs.YtpnblgbkjbpeoaaW.PrintMore
set_option linter.unusedVariables false

theorem or_u32 (a b i : Nat) (hb : b < 2 ^ i) (h : 2 ^ i * a + b < 4294967296) : Go.bits .or .u32 ((b : Nat) : Int) ((2 ^ i * a : Nat) : Int) = ((2 ^ i * a + b : Nat) : Int) := by
  have h1 : b < 2 ^ 32 := by have := Nat.le_add_left b (2 ^ i * a); omega
  have h2 : 2 ^ i * a < 2 ^ 32 := by omega
  have e : b ||| 2 ^ i * a = 2 ^ i * a + b := by rw [Nat.or_comm]; exact (Nat.two_pow_add_eq_or_of_lt hb a).symm
  have key : (BitVec.ofNat 32 b ||| BitVec.ofNat 32 (2 ^ i * a)).toNat = 2 ^ i * a + b := by
    rw [BitVec.toNat_or, BitVec.toNat_ofNat, BitVec.toNat_ofNat, Nat.mod_eq_of_lt h1, Nat.mod_eq_of_lt h2, e]
  have hx : Go.bits .or .u32 ((b : Nat) : Int) ((2 ^ i * a : Nat) : Int) = IntKind.u32.wrap (((BitVec.ofNat 32 b ||| BitVec.ofNat 32 (2 ^ i * a)).toNat : Nat) : Int) := by
    unfold Go.bits
    simp only [BitVec.ofInt_natCast]
    rfl
  have hu : ∀ x : Int, IntKind.u32.wrap x = x % 4294967296 := fun x => by simp [IntKind.wrap, IntKind.bits, IntKind.signed]
  rw [hx, key, hu]
  exact Int.emod_eq_of_lt (Int.natCast_nonneg _) (by omega)
theorem uint32 (x : ByteArray) (h : x.size = 4) : binary_bigEndian_Uint32.f (bytesOf x) = some (bt x 0 * 16777216 + bt x 1 * 65536 + bt x 2 * 256 + bt x 3) := by
  have hl : (bytesOf x).length = 4 := by rw [bytes_length, h]
  obtain ⟨b0, e0, h0⟩ := bt_nat x 0
  obtain ⟨b1, e1, h1⟩ := bt_nat x 1
  obtain ⟨b2, e2, h2⟩ := bt_nat x 2
  obtain ⟨b3, e3, h3⟩ := bt_nat x 3
  unfold binary_bigEndian_Uint32.f
  rw [if_pos (by omega), if_pos (by omega), if_pos (by omega), if_pos (by omega), rd_bytesOf, rd_bytesOf, rd_bytesOf, rd_bytesOf, e0, e1, e2, e3]
  have f3 : (b3 : Int) % 4294967296 = ((b3 : Nat) : Int) := by omega
  have f2 : (b2 : Int) % 4294967296 * 256 % 4294967296 = ((2 ^ 8 * b2 : Nat) : Int) := by omega
  have f1 : (b1 : Int) % 4294967296 * 65536 % 4294967296 = ((2 ^ 16 * b1 : Nat) : Int) := by omega
  have f0 : (b0 : Int) % 4294967296 * 16777216 % 4294967296 = ((2 ^ 24 * b0 : Nat) : Int) := by omega
  rw [f3, f2, f1, f0, or_u32 b2 b3 8 (by omega) (by omega), or_u32 b1 _ 16 (by omega) (by omega), or_u32 b0 _ 24 (by omega) (by omega)]
  congr 1
  omega
theorem readE_le (s : ByteArray) (w : Int) : (readE s w).2.2.2.2.2.1.length ≤ 30 := by
  have h := readT_le (restE s) w
  unfold readE
  split
  · exact Nat.zero_le _
  · split
    · split
      · exact Nat.zero_le _
      · unfold bodyE endE
        split
        · split
          · split
            · exact h
            · exact Nat.zero_le _
          · exact Nat.zero_le _
        · split
          · exact Nat.zero_le _
          · exact Nat.zero_le _
    · exact Nat.zero_le _
theorem iRE_ev (s : ByteArray) (w : Int) (hs : s.size ≤ 140737488351232) : Ev (fun k => impl_ReadEntry.f k s w) (readE s w) := by
  have hT : Ev (fun k => impl_ReadEntry.j0 k s w true) noE := Ev.step (f := fun _ => some noE) (fun k => by simp only [impl_ReadEntry.j0]; rfl) (Ev.now _)
  unfold readE
  refine Ev.ite' (fun c => by rw [if_pos c]; exact hT) (fun c => ?_)
  rw [if_neg c]
  have h0 := bt_range s 0; have h5 := bt_range s 5
  have e0 : wrap64 (bt s 0) = bt s 0 := w64_small (by omega) (by omega)
  have e5 : wrap64 (bt s 5) = bt s 5 := w64_small (by omega) (by omega)
  have ez : (s.extract 6 s.size).size = s.size - 6 := ext_size s 6
  have er : bt s 5 + 6 ≤ (s.size : Int) → (s.extract 6 s.size).extract (bt s 5).toNat (s.extract 6 s.size).size = restE s := fun h => by rw [ext_tail s 6 _ (by omega)]; rfl
  have en : bt s 5 + 6 ≤ (s.size : Int) → (s.extract 6 s.size).extract 0 (bt s 5).toNat = nameE s := fun h => by rw [ext_ext s 6 0 _ (by omega)]; rfl
  have hr := numE_range s
  have em : wrap64 (numE s) = numE s := w64_small (by omega) (by omega)
  have eu : binary_bigEndian_Uint32.f (bytesOf (s.extract 1 5)) = some (numE s) := by
    rw [uint32 _ (by rw [ByteArray.size_extract]; omega)]
    have g0 := bt_ext s 1 5 0 (by omega) (by omega); have g1 := bt_ext s 1 5 1 (by omega) (by omega); have g2 := bt_ext s 1 5 2 (by omega) (by omega); have g3 := bt_ext s 1 5 3 (by omega) (by omega)
    have g0' : bt (s.extract 1 5) 0 = bt s 1 := g0
    have g1' : bt (s.extract 1 5) 1 = bt s 2 := g1
    have g2' : bt (s.extract 1 5) 2 = bt s 3 := g2
    have g3' : bt (s.extract 1 5) 3 = bt s 4 := g3
    rw [g0', g1', g2', g3']; rfl
  refine Ev.bind (g := fun _ => impl_widthOk.f w) (Ev.congr (fun _ => wOk w) (Ev.now _)) ?_
  by_cases cw : widB w = true
  · rw [if_pos cw, cw]
    refine Ev.step (f := fun k => impl_ReadEntry.j1 k (s.extract 6 s.size) w (bt s 5) (bt s 0) ⟨#[]⟩ ⟨#[]⟩ (numE s) ⟨#[]⟩) (fun k => by simp only [impl_ReadEntry.j0]; rw [if_neg (by simp), if_pos (by omega), if_pos (by omega)]; first | rw [if_pos (by omega), if_pos (by omega), eu, Option.bind_some, if_pos (by omega), e0, e5, em] | (rw [if_pos (by omega), eu, Option.bind_some, if_pos (by omega), e0, e5, em])) ?_
    refine Ev.step (fun k => by simp only [impl_ReadEntry.j1]; rfl) ?_
    refine Ev.ite' (fun c2 => by rw [if_pos (by omega)]; exact Ev.now _) (fun c2 => ?_)
    rw [if_neg (by omega)]
    refine Ev.pos (by omega) (Ev.pos (by omega) ?_)
    rw [er (by omega), en (by omega)]
    refine Ev.step (fun k => by simp only [impl_ReadEntry.j2]; rfl) ?_
    unfold bodyE
    have hrest : (restE s).size ≤ 140737488351232 := by unfold restE; rw [ext_size]; omega
    have hname : (nameE s).size ≤ 140737488351232 := by unfold nameE; rw [ByteArray.size_extract]; omega
    refine Ev.ite' (fun c1 => ?_) (fun c1 => ?_)
    · rw [if_pos c1]
      refine Ev.bind (iRT_ev _ w hrest) (Ev.ite' (fun c3 => ?_) (fun c3 => ?_))
      · rw [if_pos c3]
        refine Ev.bind (iEnt_ev _ _ _ _ _ _ _ (by have := readT_le (restE s) w; omega) hname) ?_
        unfold endE
        exact Ev.ite' (fun c4 => by rw [if_pos c4]; exact Ev.now _) (fun c4 => by rw [if_neg c4]; exact Ev.now _)
      · rw [if_neg c3]; exact Ev.now _
    · rw [if_neg c1]
      refine Ev.bind (iEnt_ev _ _ _ _ _ _ _ (by simp) hname) ?_
      unfold endE
      exact Ev.ite' (fun c4 => by rw [if_pos c4]; exact Ev.now _) (fun c4 => by rw [if_neg c4]; exact Ev.now _)
  · have cw' : widB w = false := by simpa using cw
    rw [if_neg cw, cw']; exact hT
theorem sRE_ev (s : ByteArray) (w : Int) (hs : s.size ≤ 140737488351232) : Ev (fun k => spec_ReadEntry.f k s w) (readE s w) := by
  have hT : Ev (fun k => spec_ReadEntry.j0 k s w true) noE := Ev.step (f := fun _ => some noE) (fun k => by simp only [spec_ReadEntry.j0]; rfl) (Ev.now _)
  have h0 := bt_range s 0; have h1 := bt_range s 1; have h2 := bt_range s 2; have h3 := bt_range s 3; have h4 := bt_range s 4; have h5 := bt_range s 5
  have f0 : wrap64 (bt s 0) = bt s 0 := w64_small (by omega) (by omega)
  have f1 : wrap64 (bt s 1) = bt s 1 := w64_small (by omega) (by omega)
  have f2 : wrap64 (bt s 2) = bt s 2 := w64_small (by omega) (by omega)
  have f3 : wrap64 (bt s 3) = bt s 3 := w64_small (by omega) (by omega)
  have f4 : wrap64 (bt s 4) = bt s 4 := w64_small (by omega) (by omega)
  have f5 : wrap64 (bt s 5) = bt s 5 := w64_small (by omega) (by omega)
  have f6 : wrap64 (6 + bt s 5) = 6 + bt s 5 := w64_small (by omega) (by omega)
  have g1 : wrap64 (bt s 1 * 16777216) = bt s 1 * 16777216 := w64_small (by omega) (by omega)
  have g2 : wrap64 (bt s 2 * 65536) = bt s 2 * 65536 := w64_small (by omega) (by omega)
  have g3 : wrap64 (bt s 3 * 256) = bt s 3 * 256 := w64_small (by omega) (by omega)
  have g4 : wrap64 (bt s 1 * 16777216 + bt s 2 * 65536) = bt s 1 * 16777216 + bt s 2 * 65536 := w64_small (by omega) (by omega)
  have g5 : wrap64 (bt s 1 * 16777216 + bt s 2 * 65536 + bt s 3 * 256) = bt s 1 * 16777216 + bt s 2 * 65536 + bt s 3 * 256 := w64_small (by omega) (by omega)
  have g6 : wrap64 (bt s 1 * 16777216 + bt s 2 * 65536 + bt s 3 * 256 + bt s 4) = numE s := w64_small (by omega) (by omega)
  have en : (6 + bt s 5).toNat = 6 + (bt s 5).toNat := by omega
  have j1 : ∀ (k0 : Int) (s' n : ByteArray) (m : Int) (t : ByteArray) (l : List ByteArray), l.length ≤ 140737488351232 → n.size ≤ 140737488351232 → Ev (fun k => spec_ReadEntry.j1 k s w k0 s' n m t l) (if entB k0 s' n m t l w = true then (if formE k0 s' n m t l w = s then (k0, s', n, m, t, l, true) else noE) else noE) := by
    intro k0 s' n m t l hl hn
    refine Ev.step (fun k => by simp only [spec_ReadEntry.j1]; rfl) ?_
    refine Ev.bind (sEnt_ev k0 s' n m t l w hl hn) (Ev.ite' (fun c => ?_) (fun c => by rw [if_neg c]; exact Ev.now _))
    rw [if_pos c]
    refine Ev.bind (sFE_ev k0 s' n m t l w hl hn) (Ev.ite' (fun c2 => ?_) (fun c2 => ?_))
    · rw [if_pos (toList_inj c2)]; exact Ev.now _
    · rw [if_neg (fun h => c2 (congrArg _ h))]; exact Ev.now _
  have hF : 6 ≤ s.size → (s.size : Int) ≥ 6 + bt s 5 → Ev (fun k => spec_ReadEntry.j0 k s w false) (bodyE s w) := by
    intro h6 hn
    rw [← again s w h6 hn]
    have hrest : (restE s).size ≤ 140737488351232 := by unfold restE; rw [ext_size]; omega
    have hname : (nameE s).size ≤ 140737488351232 := by unfold nameE; rw [ByteArray.size_extract]; omega
    refine Ev.step (fun k => by simp only [spec_ReadEntry.j0]; rw [if_neg (by simp)]) ?_
    simp only [f0, f1, f2, f3, f4, f5, f6, g1, g2, g3, g4, g5, g6, en]
    refine Ev.pos (by omega) (Ev.pos (by omega) (Ev.pos (by omega) (Ev.pos (by omega) (Ev.pos (by omega) (Ev.pos (by omega) (Ev.pos (by omega) (Ev.pos (by omega) (Ev.pos (by omega) ?_))))))))
    refine Ev.ite' (fun c1 => ?_) (fun c1 => ?_)
    · rw [if_pos c1]
      exact Ev.bind (sRT_ev (restE s) w hrest) (j1 _ _ _ _ _ _ (Nat.le_trans (readT_le (restE s) w) (by omega)) hname)
    · rw [if_neg c1]
      exact j1 _ _ _ _ _ _ (by simp) hname
  unfold readE
  refine Ev.bind (g := fun _ => spec_l1Width.f w) (Ev.congr (fun _ => l1W w) (Ev.now _)) ?_
  by_cases cw : widB w = true
  · refine Ev.pos cw (Ev.ite' (fun c => by rw [if_pos c]; exact hT) (fun c => ?_))
    rw [if_neg c, if_pos cw]
    refine Ev.pos (by omega) ?_
    rw [f5, f6]
    by_cases c2 : (s.size : Int) < 6 + bt s 5
    · rw [if_pos c2]; exact Ev.congr (fun k => by rw [decide_eq_true c2]) hT
    · rw [if_neg c2]; exact Ev.congr (fun k => by rw [decide_eq_false c2]) (hF (by omega) (by omega))
  · refine Ev.neg cw ?_
    by_cases c : (s.size : Int) < 6
    · rw [if_pos c]; exact hT
    · rw [if_neg c, if_neg cw]; exact hT
end Go.Proofs.Ytpnblgbkjbpeoaa.Q

/- Plain laws of draws: what a draw may come to (that it ends, and how large its parts are). -/
namespace Go.Proofs.Ytpnblgbkjbpeoaa.Q
open Go.RowKit Go.Proofs.Ytpnblgbkjbpeoaa.P Go.Proofs.YtpnblgbkjbpeoaaW.PrintWords Go.Proofs.YtpnblgbkjbpeoaaW.PrintLast Go.Proofs.YtpnblgbkjbpeoaaW.PrintMore
set_option linter.unusedVariables false

/-- It comes to something of which p holds. -/
def EP {α : Type} (g : Nat → Option α) (p : α → Prop) : Prop := ∃ r, Ev g r ∧ p r
theorem EP.of {α : Type} {g : Nat → Option α} {r : α} {p : α → Prop} (h : Ev g r) (hp : p r) : EP g p := ⟨r, h, hp⟩
theorem EP.ret {α : Type} {r : α} {p : α → Prop} (hp : p r) : EP (fun _ => some r) p := ⟨r, Ev.now r, hp⟩
theorem EP.bind {α β : Type} {g : Nat → Option α} {f : Nat → α → Option β} {p : α → Prop} {q : β → Prop} (h : EP g p) (hf : ∀ a, p a → EP (fun k => f k a) q) : EP (fun k => (g k).bind (f k)) q := by
  obtain ⟨a, ha, hp⟩ := h
  obtain ⟨b, hb, hq⟩ := hf a hp
  exact ⟨b, Ev.bind ha hb, hq⟩
theorem EP.pos {α : Type} {c : Prop} [Decidable c] {g f : Nat → Option α} {p : α → Prop} (h : c) (e : EP g p) : EP (fun k => if c then g k else f k) p := by
  obtain ⟨r, hr, hp⟩ := e; exact ⟨r, Ev.pos h hr, hp⟩
theorem EP.neg {α : Type} {c : Prop} [Decidable c] {g f : Nat → Option α} {p : α → Prop} (h : ¬ c) (e : EP f p) : EP (fun k => if c then g k else f k) p := by
  obtain ⟨r, hr, hp⟩ := e; exact ⟨r, Ev.neg h hr, hp⟩
theorem EP.ite {α : Type} {c : Prop} [Decidable c] {g f : Nat → Option α} {p : α → Prop} (h1 : c → EP g p) (h2 : ¬ c → EP f p) : EP (fun k => if c then g k else f k) p := by
  by_cases h : c
  · exact EP.pos h (h1 h)
  · exact EP.neg h (h2 h)
theorem EP.step {α : Type} {g f : Nat → Option α} {p : α → Prop} (hg : ∀ k, g (k + 1) = f k) (h : EP f p) : EP g p := by
  obtain ⟨r, hr, hp⟩ := h; exact ⟨r, Ev.step hg hr, hp⟩
theorem EP.mono {α : Type} {g : Nat → Option α} {p q : α → Prop} (h : EP g p) (hq : ∀ a, p a → q a) : EP g q := by
  obtain ⟨r, hr, hp⟩ := h; exact ⟨r, hr, hq r hp⟩
theorem EP.congr {α : Type} {g f : Nat → Option α} {p : α → Prop} (hg : ∀ k, g k = f k) (h : EP f p) : EP g p := by
  obtain ⟨r, hr, hp⟩ := h; exact ⟨r, Ev.congr hg hr, hp⟩
/-- A reader's bytes. -/
def okB (b : List Int) : Prop := b.length ≤ 2000 ∧ ∀ x ∈ b, 0 ≤ x ∧ x < 256
theorem okB.at_ {b : List Int} (h : okB b) (i : Int) : 0 ≤ rd b i ∧ rd b i < 256 := by
  unfold Go.Proofs.YtpnblgbkjbpeoaaW.PrintWords.rd
  rw [List.getD_eq_getElem?_getD]
  cases e : b[i.toNat]? with
  | none => simp
  | some x => exact h.2 x (List.mem_of_getElem? e)
theorem xor_i64 (a b : Int) (ha : 0 ≤ a) (ha2 : a < 4611686018427387904) (hb : 0 ≤ b) (hb2 : b < 4611686018427387904) : 0 ≤ Go.bits .xor .i64 a b ∧ Go.bits .xor .i64 a b < 4611686018427387904 := by
  obtain ⟨m, rfl⟩ : ∃ m : Nat, a = (m : Int) := ⟨a.toNat, by omega⟩
  obtain ⟨n, rfl⟩ : ∃ n : Nat, b = (n : Int) := ⟨b.toNat, by omega⟩
  have hm : m < 2 ^ 62 := by omega
  have hn : n < 2 ^ 62 := by omega
  have hx : m ^^^ n < 2 ^ 62 := Nat.xor_lt_two_pow hm hn
  have key : (BitVec.ofNat 64 m ^^^ BitVec.ofNat 64 n).toNat = m ^^^ n := by
    rw [BitVec.toNat_xor, BitVec.toNat_ofNat, BitVec.toNat_ofNat, Nat.mod_eq_of_lt (by omega), Nat.mod_eq_of_lt (by omega)]
  have e : Go.bits .xor .i64 ((m : Nat) : Int) ((n : Nat) : Int) = IntKind.i64.wrap (((BitVec.ofNat 64 m ^^^ BitVec.ofNat 64 n).toNat : Nat) : Int) := by
    unfold Go.bits
    simp only [BitVec.ofInt_natCast]
    rfl
  rw [e, key, i64_w]
  have : wrap64 ((m ^^^ n : Nat) : Int) = ((m ^^^ n : Nat) : Int) := w64_small (by omega) (by omega)
  rw [this]; omega
theorem tmod_range {x n : Int} (hx : 0 ≤ x) (hn : 0 < n) : 0 ≤ Int.tmod x n ∧ Int.tmod x n < n := by
  rw [Int.tmod_eq_emod_of_nonneg hx]; exact ⟨Int.emod_nonneg _ (by omega), Int.emod_lt_of_pos _ hn⟩
theorem tdiv_range {x n : Int} (hx : 0 ≤ x) (hn : 0 < n) : 0 ≤ Int.tdiv x n ∧ Int.tdiv x n ≤ x := by
  rw [Int.tdiv_eq_ediv_of_nonneg hx]; exact ⟨Int.ediv_nonneg hx (by omega), Int.ediv_le_self _ hx⟩
theorem pick_ep (b : List Int) (p n : Int) (hb : okB b) (hp : 0 ≤ p) (hp2 : p ≤ 1000000000) : EP (fun k => spec_l1Rd_pick.f k b p n) (fun r => 0 ≤ r.1 ∧ (r.1 < n ∨ r.1 = 0) ∧ r.2 = p + 1) := by
  have e1 : wrap64 (p + 1) = p + 1 := w64_small (by omega) (by omega)
  have hT : EP (fun k => spec_l1Rd_pick.j0 k n true b (p + 1)) (fun r => 0 ≤ r.1 ∧ (r.1 < n ∨ r.1 = 0) ∧ r.2 = p + 1) :=
    EP.step (f := fun _ => some (0, p + 1)) (fun k => by simp only [spec_l1Rd_pick.j0]; rfl) (EP.ret ⟨Int.le_refl _, .inr rfl, rfl⟩)
  unfold spec_l1Rd_pick.f
  simp only [e1]
  refine EP.ite (fun _ => hT) (fun hn => ?_)
  by_cases hz : b.length = 0
  · refine EP.congr (fun k => ?_) hT
    have : ((b.length : Int) == 0) = true := by rw [beq_iff_eq]; omega
    rw [this]
  · have hf : ((b.length : Int) == 0) = false := by rw [beq_eq_false_iff_ne]; omega
    have e2 : wrap64 (p + 1 - 1) = p := by rw [w64_small (by omega) (by omega)]; omega
    refine EP.congr (f := fun k => spec_l1Rd_pick.j0 k n false b (p + 1)) (fun k => by rw [hf]) (EP.step (fun k => by simp only [spec_l1Rd_pick.j0]; rw [if_neg (by simp)]) ?_)
    simp only [e2]
    refine EP.ite (fun h => EP.pos hp (EP.neg (by omega) (EP.ret ?_))) (fun h => ?_)
    · have hr := hb.at_ p
      have hw : wrap64 (rd b p) = rd b p := w64_small (by omega) (by omega)
      show 0 ≤ Int.tmod (wrap64 (rd b p)) n ∧ _
      rw [hw]
      have := tmod_range hr.1 (show 0 < n by omega)
      exact ⟨this.1, .inl this.2, rfl⟩
    · have hl : 0 < (b.length : Int) := by omega
      have hl2 : (b.length : Int) ≤ 2000 := by have := hb.1; omega
      have t1 := tmod_range hp hl
      have e3 : wrap64 (wrap64 (p * 7) + 3) = p * 7 + 3 := by rw [w64_small (x := p * 7) (by omega) (by omega), w64_small (by omega) (by omega)]
      have t2 := tmod_range (show 0 ≤ p * 7 + 3 by omega) hl
      simp only [e3]
      refine EP.neg (by omega) (EP.pos t1.1 (EP.pos t1.2 (EP.pos t2.1 (EP.pos t2.2 (EP.neg (by omega) (EP.ret ?_))))))
      have r1 := hb.at_ (Int.tmod p (b.length : Int))
      have r2 := hb.at_ (Int.tmod (p * 7 + 3) (b.length : Int))
      have d1 := tdiv_range hp hl
      generalize rd b (Int.tmod p (b.length : Int)) = x1 at *
      generalize rd b (Int.tmod (p * 7 + 3) (b.length : Int)) = x2 at *
      generalize Int.tdiv p (b.length : Int) = q at *
      have w1 : wrap64 x1 = x1 := w64_small (by omega) (by omega)
      have w2 : wrap64 x2 = x2 := w64_small (by omega) (by omega)
      have w3 : wrap64 q = q := w64_small (by omega) (by omega)
      have w4 : wrap64 (x1 * 131) = x1 * 131 := w64_small (by omega) (by omega)
      have w5 : wrap64 (x2 * 1117) = x2 * 1117 := w64_small (by omega) (by omega)
      have w6 : wrap64 (p * 29) = p * 29 := w64_small (by omega) (by omega)
      have w7 : wrap64 (q * 53) = q * 53 := w64_small (by omega) (by omega)
      have w8 : wrap64 (x1 * 131 + x2 * 1117) = x1 * 131 + x2 * 1117 := w64_small (by omega) (by omega)
      have w9 : wrap64 (x1 * 131 + x2 * 1117 + p * 29) = x1 * 131 + x2 * 1117 + p * 29 := w64_small (by omega) (by omega)
      have w10 : wrap64 (x1 * 131 + x2 * 1117 + p * 29 + q * 53) = x1 * 131 + x2 * 1117 + p * 29 + q * 53 := w64_small (by omega) (by omega)
      simp only [w1, w2, w3, w4, w5, w6, w7, w8, w9, w10]
      have hx0 : 0 ≤ x1 * 131 + x2 * 1117 + p * 29 + q * 53 := by omega
      have hx1 : x1 * 131 + x2 * 1117 + p * 29 + q * 53 ≤ 100000000000 := by omega
      generalize x1 * 131 + x2 * 1117 + p * 29 + q * 53 = x at *
      have d2 := tdiv_range hx0 (show (0 : Int) < 64 by omega)
      have w11 : wrap64 (Int.tdiv x 64) = Int.tdiv x 64 := w64_small (by omega) (by omega)
      rw [w11]
      have hxr := xor_i64 x (Int.tdiv x 64) hx0 (by omega) d2.1 (by omega)
      have := tmod_range hxr.1 (show 0 < n by omega)
      exact ⟨this.1, .inl this.2, by first | trivial | rfl⟩
theorem open_ep (b : List Int) (h : ∀ x ∈ b, 0 ≤ x ∧ x < 256) : EP (fun _ => spec_l1Open.f b) (fun r => okB r.1 ∧ r.2 = 0) := by
  unfold spec_l1Open.f
  refine EP.ite (fun c => EP.pos (by omega) (EP.ret ⟨⟨by rw [List.length_take]; exact Nat.min_le_left _ _, fun x hx => h x (List.mem_of_mem_take hx)⟩, rfl⟩)) (fun c => EP.ret ⟨⟨by show b.length ≤ 2000; omega, h⟩, rfl⟩)
theorem many_loop (B : Nat) (hB : B ≤ 1000000000) (m : Nat) : ∀ (n : Nat) (x y : ByteArray), n ≤ m → n ≤ 1000000000 → y.size + x.size * n ≤ B → x.size ≤ B →
    EP (fun k => spec_l1Many.l0 k x (n : Int) y) (fun r => r.size ≤ B) := by
  induction m with
  | zero =>
    intro n x y hn hn9 h1 h2
    obtain rfl : n = 0 := by omega
    exact EP.step (f := fun _ => some y) (fun k => by simp only [spec_l1Many.l0]; rw [if_neg (by omega)]) (EP.ret (by show y.size ≤ B; omega))
  | succ m ih =>
    intro n x y hn hn9 h1 h2
    by_cases hz : n = 0
    · subst hz
      exact EP.step (f := fun _ => some y) (fun k => by simp only [spec_l1Many.l0]; rw [if_neg (by omega)]) (EP.ret (by show y.size ≤ B; omega))
    · have hd : wrap64 (Int.tdiv (n : Int) 2) = ((n / 2 : Nat) : Int) := by rw [Int.tdiv_eq_ediv_of_nonneg (by omega), w64_small (by omega) (by omega)]; omega
      have hm2 : Int.tmod (n : Int) 2 = ((n % 2 : Nat) : Int) := by rw [Int.tmod_eq_emod_of_nonneg (by omega)]; omega
      have hxx : (x ++ x).size = x.size + x.size := ByteArray.size_append
      have hyx : (y ++ x).size = y.size + x.size := ByteArray.size_append
      have hn1 : x.size * 1 ≤ x.size * n := Nat.mul_le_mul_left _ (by omega)
      have hsp : x.size * n = (x.size + x.size) * (n / 2) + x.size * (n % 2) := by
        have e : n = 2 * (n / 2) + n % 2 := by omega
        have e2 : x.size * n = x.size * (2 * (n / 2) + n % 2) := by rw [← e]
        rw [e2, Nat.mul_add, ← Nat.mul_assoc]; congr 1; rw [Nat.mul_two]
      refine EP.step (fun k => by simp only [spec_l1Many.l0, hd, hm2]; rw [if_pos (by omega)]) ?_
      by_cases hx : n / 2 = 0
      · have e1 : n = 1 := by omega
        subst e1
        have := EP.step (g := fun k => spec_l1Many.l0 k (x ++ x) ((0 : Nat) : Int) (y ++ x)) (f := fun _ => some (y ++ x)) (p := fun r => r.size ≤ B) (fun k => by simp only [spec_l1Many.l0]; rw [if_neg (by omega)]) (EP.ret (by show (y ++ x).size ≤ B; omega))
        exact EP.pos (by omega) (EP.pos (by omega) (EP.pos (by omega) this))
      · have h4 : (x.size + x.size) * 1 ≤ (x.size + x.size) * (n / 2) := Nat.mul_le_mul_left _ (by omega)
        rcases Nat.mod_two_eq_zero_or_one n with e0 | e0
        · rw [e0] at hsp ⊢
          exact EP.neg (by omega) (EP.pos (by omega) (ih (n / 2) (x ++ x) y (by omega) (by omega) (by rw [hxx]; omega) (by omega)))
        · rw [e0] at hsp ⊢
          exact EP.pos (by omega) (EP.pos (by omega) (EP.pos (by omega) (ih (n / 2) (x ++ x) (y ++ x) (by omega) (by omega) (by rw [hxx, hyx]; omega) (by omega))))
theorem many_ep (x : ByteArray) (n : Nat) (B : Nat) (hB : B ≤ 1000000000) (hn : n ≤ 1000000000) (h : x.size * n ≤ B) (hx : x.size ≤ B) : EP (fun k => spec_l1Many.f k x (n : Int)) (fun r => r.size ≤ B) :=
  many_loop B hB n n x ⟨#[]⟩ (Nat.le_refl _) hn (by show 0 + x.size * n ≤ B; omega) hx
theorem text_loop (b : List Int) (hb : okB b) (m : Nat) : ∀ (i x : Int) (l : List Int) (p : Int), 0 ≤ i → x ≤ 100 → (x + 1 - i).toNat = m → (l.length : Int) ≤ i → 0 ≤ p → p + m ≤ 1000000000 →
    EP (fun k => spec_l1Text.l0 k x l i b p) (fun r => r.1.size ≤ l.length + m ∧ p ≤ r.2 ∧ r.2 ≤ p + m) := by
  induction m with
  | zero =>
    intro i x l p h0 hx hm hl hp hp2
    exact EP.step (f := fun _ => some (strOfNums l, p)) (fun k => by simp only [spec_l1Text.l0]; rw [if_neg (by omega)]) (EP.ret ⟨by show (strOfNums l).size ≤ _; rw [son_size]; omega, Int.le_refl _, by show p ≤ _; omega⟩)
  | succ m ih =>
    intro i x l p h0 hx hm hl hp hp2
    have e1 : wrap64 (i + 1) = i + 1 := w64_small (by omega) (by omega)
    refine EP.step (fun k => by simp only [spec_l1Text.l0, e1]; rw [if_pos (by omega)]) ?_
    refine EP.bind (pick_ep b p 6 hb hp (by omega)) (fun r hr => EP.pos (by omega) ?_)
    obtain ⟨x1, x2⟩ := r
    obtain ⟨h1, h2, h3⟩ := hr
    simp only at h3
    subst h3
    refine (ih (i + 1) x (l ++ [wrap64 (97 + x1) % 256]) (p + 1) (by omega) hx (by omega) (by simp; omega) (by omega) (by omega)).mono (fun r hr => ?_)
    rw [List.length_append] at hr
    simp only [List.length_cons, List.length_nil] at hr
    exact ⟨by omega, by omega, by omega⟩
theorem text_ep (b : List Int) (p : Int) (hb : okB b) (hp : 0 ≤ p) (hp2 : p ≤ 100000000) : EP (fun k => spec_l1Text.f k b p) (fun r => r.1.size ≤ 4 ∧ p ≤ r.2 ∧ r.2 ≤ p + 6) := by
  refine EP.bind (pick_ep b p 9 hb hp (by omega)) (fun r hr => ?_)
  obtain ⟨x1, x2⟩ := r
  obtain ⟨h1, h2, h3⟩ := hr
  simp only at h3
  subst h3
  refine EP.ite (fun _ => EP.ret ⟨by show (⟨#[]⟩ : ByteArray).size ≤ 4; decide, by show p ≤ p + 1; omega, by show p + 1 ≤ p + 6; omega⟩) (fun _ => EP.ite (fun _ => EP.ret ⟨by show (⟨#[97, 32, 98]⟩ : ByteArray).size ≤ 4; decide, by show p ≤ p + 1; omega, by show p + 1 ≤ p + 6; omega⟩) (fun _ => EP.ite (fun _ => EP.ret ⟨by show (⟨#[37, 45, 10]⟩ : ByteArray).size ≤ 4; decide, by show p ≤ p + 1; omega, by show p + 1 ≤ p + 6; omega⟩) (fun _ => EP.ite (fun _ => EP.ret ⟨by show (⟨#[255, 0]⟩ : ByteArray).size ≤ 4; decide, by show p ≤ p + 1; omega, by show p + 1 ≤ p + 6; omega⟩) (fun _ => ?_))))
  refine EP.bind (pick_ep b (p + 1) 4 hb (by omega) (by omega)) (fun r hr => ?_)
  obtain ⟨y1, y2⟩ := r
  obtain ⟨h4, h5, h6⟩ := hr
  simp only at h4 h5 h6
  subst h6
  refine (text_loop b hb (y1 + 1).toNat 0 y1 [] (p + 1 + 1) (by omega) (by omega) (by omega) (by simp) (by omega) (by omega)).mono (fun r hr => ?_)
  simp only [List.length_nil] at hr
  exact ⟨by omega, by omega, by omega⟩
end Go.Proofs.Ytpnblgbkjbpeoaa.Q

/- Plain laws of drawn things and entries: that they end, and how large their parts are. -/
namespace Go.Proofs.Ytpnblgbkjbpeoaa.Q
open Go.RowKit Go.Proofs.Ytpnblgbkjbpeoaa.P Go.Proofs.YtpnblgbkjbpeoaaW.PrintWords Go.Proofs.YtpnblgbkjbpeoaaW.PrintLast Go.Proofs.YtpnblgbkjbpeoaaW.PrintMore
set_option linter.unusedVariables false
set_option linter.unusedSimpArgs false

theorem EP.some {α : Type} {β : Type} {r : α} {f : Nat → α → Option β} {q : β → Prop} (h : EP (fun k => f k r) q) : EP (fun k => (Option.some r).bind (f k)) q := h
theorem sorted_j3 (x : List ByteArray) (i : Nat) (hx : x.length ≤ 1000) (hi : i < x.length) (q : List ByteArray → Prop) (y : List ByteArray) (j : Nat) (c : Bool) (hy : y.length ≤ 1000) (hj : j ≤ y.length)
    (hq : ∀ y' : List ByteArray, y'.length ≤ y.length + 1 → EP (fun k => spec_l1Sorted.l0 k x y' ((i + 1 : Nat) : Int)) q) : EP (fun k => spec_l1Sorted.j3 k x y (i : Int) (j : Int) c) q := by
  have hw : wrap64 ((i : Int) + 1) = ((i + 1 : Nat) : Int) := wsucc hi (by omega)
  refine EP.step (fun k => by rw [spec_l1Sorted.j3]) ?_
  simp only [hw, Option.bind_some, List.nil_append]
  refine EP.ite (fun _ => hq y (by omega)) (fun _ => ?_)
  exact EP.pos (by omega) (EP.pos (by omega) (EP.pos (by simp only [List.length_append, List.length_take, List.length_drop, List.length_cons, List.length_nil]; omega) (EP.pos (by omega) (EP.pos (by omega) (EP.pos (by simp only [List.length_append, List.length_take, List.length_drop, List.length_cons, List.length_nil]; omega) (EP.pos (by simp only [List.length_append, List.length_take, List.length_drop, List.length_cons, List.length_nil]; omega) (hq _ (by simp only [List.length_append, List.length_take, List.length_drop, List.length_cons, List.length_nil]; omega))))))))
theorem sorted_j2 (x : List ByteArray) (i : Nat) (hx : x.length ≤ 1000) (hi : i < x.length) (q : List ByteArray → Prop) (y : List ByteArray) (j : Nat) (c : Bool) (hy : y.length ≤ 1000) (hj : j ≤ y.length) (h1 : c = true → EP (fun k => spec_l1Sorted.l1 k x y (i : Int) (wrap64 ((j : Int) + 1))) q)
    (hq : ∀ y' : List ByteArray, y'.length ≤ y.length + 1 → EP (fun k => spec_l1Sorted.l0 k x y' ((i + 1 : Nat) : Int)) q) : EP (fun k => spec_l1Sorted.j2 k x y (i : Int) (j : Int) c) q := by
  refine EP.step (fun k => by rw [spec_l1Sorted.j2]) ?_
  exact EP.ite h1 (fun _ => EP.ite (fun _ => EP.pos (by omega) (EP.pos (by omega) (EP.pos (by omega) (sorted_j3 x i hx hi q y j _ hy hj hq)))) (fun _ => sorted_j3 x i hx hi q y j _ hy hj hq))
theorem sorted_in (x : List ByteArray) (i : Nat) (hx : x.length ≤ 1000) (hi : i < x.length) (q : List ByteArray → Prop) (m : Nat) : ∀ (y : List ByteArray) (j : Nat), y.length ≤ 1000 → y.length - j = m → j ≤ y.length →
    (∀ y' : List ByteArray, y'.length ≤ y.length + 1 → EP (fun k => spec_l1Sorted.l0 k x y' ((i + 1 : Nat) : Int)) q) → EP (fun k => spec_l1Sorted.l1 k x y (i : Int) (j : Int)) q := by
  induction m with
  | zero =>
    intro y j hy hm hj hq
    refine EP.step (fun k => by simp only [spec_l1Sorted.l1]; rw [if_neg (by omega)]) ?_
    exact sorted_j2 x i hx hi q y j _ hy hj (fun h => by cases h) hq
  | succ m ih =>
    intro y j hy hm hj hq
    have hw2 : wrap64 ((j : Int) + 1) = ((j + 1 : Nat) : Int) := wsucc (show j < y.length by omega) (by omega)
    refine EP.step (fun k => by simp only [spec_l1Sorted.l1]; rw [if_pos (by omega)]) ?_
    exact EP.pos (by omega) (EP.pos (by omega) (EP.pos (by omega) (sorted_j2 x i hx hi q y j _ hy hj (fun _ => by rw [hw2]; exact ih y (j + 1) hy (by omega) (by omega) hq) hq)))
theorem sorted_out (x : List ByteArray) (hx : x.length ≤ 900) (m : Nat) : ∀ (i : Nat) (y : List ByteArray), x.length - i = m → i ≤ x.length → y.length ≤ i → EP (fun k => spec_l1Sorted.l0 k x y (i : Int)) (fun r => r.length ≤ x.length) := by
  induction m with
  | zero =>
    intro i y hm hi hy
    exact EP.step (f := fun _ => Option.some y) (fun k => by simp only [spec_l1Sorted.l0]; rw [if_neg (by omega)]) (EP.ret (by omega))
  | succ m ih =>
    intro i y hm hi hy
    refine EP.step (fun k => by simp only [spec_l1Sorted.l0]; rw [if_pos (by omega)]) ?_
    exact sorted_in x i (by omega) (by omega) _ _ y 0 (by omega) rfl (by omega) (fun y' hy' => ih (i + 1) y' (by omega) (by omega) (by omega))
theorem sorted_ep (x : List ByteArray) (hx : x.length ≤ 900) : EP (fun k => spec_l1Sorted.f k x) (fun r => r.length ≤ x.length) := sorted_out x hx x.length 0 [] (by omega) (by omega) (by simp)
theorem width_ep (b : List Int) (p : Int) (hb : okB b) (hp : 0 ≤ p) (hp2 : p ≤ 100000) : EP (fun k => spec_l1DrawWidth.f k b p) (fun r => r.2 = p + 1) := by
  refine EP.bind (pick_ep b p 8 hb hp (by omega)) (fun r hr => ?_)
  exact EP.ite (fun _ => EP.ret hr.2.2) (fun _ => EP.ite (fun _ => EP.ret hr.2.2) (fun _ => EP.ret hr.2.2))
/-- A thing's parts, and where the reader stands. -/
def okTh (r : ByteArray × List ByteArray × Int) (p n : Int) : Prop := r.1.size ≤ 5000 ∧ r.2.1.length ≤ 100 ∧ p ≤ r.2.2 ∧ r.2.2 ≤ p + n
def okS (r : ByteArray × List ByteArray × Int) (p n : Int) : Prop := r.1.size ≤ 100 ∧ r.2.1.length ≤ 60 ∧ p ≤ r.2.2 ∧ r.2.2 ≤ p + n
theorem thing_loop (b : List Int) (hb : okB b) (w : Int) (t : ByteArray) (ht : t.size ≤ 100) (m : Nat) : ∀ (x p : Int) (l : List ByteArray), x.toNat = m → x ≤ 10 → 0 ≤ p → p + 6 * m ≤ 1000000 → l.length + m ≤ 50 →
    EP (fun k => spec_l1DrawThing.l0 k w l x b p t) (fun r => okS r p (6 * m)) := by
  induction m with
  | zero =>
    intro x p l hx hx2 hp hp2 hl
    refine EP.step (fun k => by simp only [spec_l1DrawThing.l0]; rw [if_neg (by omega)]) ?_
    exact EP.bind (sorted_ep l (by omega)) (fun r hr => EP.ret ⟨ht, by show r.length ≤ 60; omega, Int.le_refl _, by show p ≤ p + _; omega⟩)
  | succ m ih =>
    intro x p l hx hx2 hp hp2 hl
    have e : wrap64 (x - 1) = x - 1 := w64_small (by omega) (by omega)
    refine EP.step (fun k => by simp only [spec_l1DrawThing.l0, e]; rw [if_pos (by omega)]) ?_
    refine EP.bind (text_ep b p hb hp (by omega)) (fun r hr => ?_)
    obtain ⟨y1, y2⟩ := r
    obtain ⟨h4, h5, h6⟩ := hr
    simp only at h4 h5 h6
    refine EP.bind (EP.of (p := fun _ => True) (sSum_ev y1 w (by omega)) trivial) (fun s _ => EP.pos (by omega) ?_)
    exact (ih (x - 1) y2 (l ++ [s]) (by omega) (by omega) (by omega) (by omega) (by simp; omega)).mono (fun r hr => ⟨hr.1, hr.2.1, by have := hr.2.2.1; omega, by have := hr.2.2.2; omega⟩)
theorem thing_ep (b : List Int) (p w : Int) (hb : okB b) (hp : 0 ≤ p) (hp2 : p ≤ 500000) : EP (fun k => spec_l1DrawThing.f k b p w) (fun r => okS r p 40) := by
  refine EP.bind (text_ep b p hb hp (by omega)) (fun r hr => ?_)
  obtain ⟨y1, y2⟩ := r
  obtain ⟨h4, h5, h6⟩ := hr
  simp only at h4 h5 h6
  refine EP.bind (EP.of (p := fun _ => True) (Ev.congr (fun _ => l1W w) (Ev.now _)) trivial) (fun s _ => EP.ite (fun _ => ?_) (fun _ => EP.ret ⟨by show y1.size ≤ _; omega, by show 0 ≤ _; omega, by show p ≤ y2; omega, by show y2 ≤ _; omega⟩))
  refine EP.bind (pick_ep b y2 4 hb (by omega) (by omega)) (fun r hr => ?_)
  obtain ⟨z1, z2⟩ := r
  obtain ⟨g4, g5, g6⟩ := hr
  simp only at g4 g5 g6
  subst g6
  exact (thing_loop b hb w y1 (by omega) z1.toNat z1 (y2 + 1) [] rfl (by omega) (by omega) (by omega) (by simp; omega)).mono (fun r hr => ⟨hr.1, hr.2.1, by have := hr.2.2.1; omega, by have := hr.2.2.2; omega⟩)
theorem spoil_loop (b : List Int) (p : Int) (t : ByteArray) (ht : t.size ≤ 5000) (x : Int) (hx : x ≤ 50) (m : Nat) : ∀ (i : Int) (l : List ByteArray), (x - i).toNat = m → 0 ≤ i → (l.length : Int) ≤ i → i ≤ 60 →
    EP (fun k => spec_l1SpoilThing.l0 k x i b p t l) (fun r => okTh r p 0) := by
  induction m with
  | zero =>
    intro i l hm h0 hl h6
    exact EP.step (f := fun _ => Option.some (t, l, p)) (fun k => by simp only [spec_l1SpoilThing.l0]; rw [if_neg (by omega)]) (EP.ret ⟨ht, by show l.length ≤ _; omega, Int.le_refl _, by show p ≤ p + 0; omega⟩)
  | succ m ih =>
    intro i l hm h0 hl h6
    have e : wrap64 (i + 1) = i + 1 := w64_small (by omega) (by omega)
    refine EP.step (fun k => by simp only [spec_l1SpoilThing.l0, e]; rw [if_pos (by omega)]) ?_
    exact EP.pos (by omega) (ih (i + 1) _ (by omega) (by omega) (by simp; omega) (by omega))
theorem l1Thing_some (t : ByteArray) (l : List ByteArray) (h : l.length ≤ 1000) : spec_l1Thing.f t l = Option.some (t, l) := by
  unfold spec_l1Thing.f
  rw [Option.bind_some, if_pos (by simp; omega), List.nil_append]
theorem spoil_ep (b : List Int) (p : Int) (t : ByteArray) (l : List ByteArray) (hb : okB b) (hp : 0 ≤ p) (hp2 : p ≤ 500000) (ht : t.size ≤ 4990) (hl : l.length ≤ 90) : EP (fun k => spec_l1SpoilThing.f k b p t l) (fun r => okTh r p 10) := by
  refine EP.bind (EP.of (p := fun r => r = (t, l)) (Ev.congr (fun _ => l1Thing_some t l (by omega)) (Ev.now _)) rfl) (fun r hr => ?_)
  subst hr
  refine EP.bind (pick_ep b p 5 hb hp (by omega)) (fun r hr => ?_)
  obtain ⟨y1, y2⟩ := r
  obtain ⟨h4, h5, h6⟩ := hr
  simp only at h4 h5 h6
  subst h6
  show EP (fun k => spec_l1SpoilThing.j0 k y1 b (p + 1) t l) (fun r => okTh r p 10)
  refine EP.step (fun k => by rw [spec_l1SpoilThing.j0]) ?_
  refine EP.ite (fun _ => ?_) (fun _ => EP.ite (fun _ => EP.pos (by show l.length < _; omega) (EP.ret ⟨by show t.size ≤ _; omega, by show (l ++ [_]).length ≤ _; simp; omega, by show p ≤ p + 1; omega, by show p + 1 ≤ p + 10; omega⟩)) (fun _ => EP.ite (fun _ => ?_) (fun _ => EP.ite (fun _ => ?_) (fun _ => ?_))))
  · refine EP.bind (pick_ep b (p + 1) 2 hb (by omega) (by omega)) (fun r hr => ?_)
    obtain ⟨z1, z2⟩ := r
    obtain ⟨g4, g5, g6⟩ := hr
    simp only at g4 g5 g6
    subst g6
    have hw : wrap64 (2000 + z1) = (((2000 + z1).toNat : Nat) : Int) := by rw [w64_small (by omega) (by omega)]; omega
    simp only [hw]
    exact EP.bind (many_ep ⟨#[116]⟩ (2000 + z1).toNat 2001 (by omega) (by omega) (by show 1 * _ ≤ _; omega) (by decide)) (fun s hs => EP.ret ⟨by show s.size ≤ _; omega, by show l.length ≤ _; omega, by show p ≤ p + 1 + 1; omega, by show p + 1 + 1 ≤ p + 10; omega⟩)
  · refine EP.ite (fun c => EP.pos (by show 0 < (l.length : Int); exact c) (EP.pos (by show l.length < _; omega) (EP.ret ⟨by show t.size ≤ _; omega, by show (l ++ [_]).length ≤ _; simp; omega, by show p ≤ p + 1; omega, by show p + 1 ≤ p + 10; omega⟩))) (fun _ => EP.ret ⟨by show t.size ≤ _; omega, by show l.length ≤ _; omega, by show p ≤ p + 1; omega, by show p + 1 ≤ p + 10; omega⟩)
  · refine EP.bind (pick_ep b (p + 1) 2 hb (by omega) (by omega)) (fun r hr => ?_)
    obtain ⟨z1, z2⟩ := r
    obtain ⟨g4, g5, g6⟩ := hr
    simp only at g4 g5 g6
    subst g6
    have hw : wrap64 (30 + z1) = 30 + z1 := w64_small (by omega) (by omega)
    simp only [hw]
    exact (spoil_loop b (p + 1 + 1) t (by omega) (30 + z1) (by omega) _ 0 [] rfl (by omega) (by simp) (by omega)).mono (fun r hr => ⟨hr.1, hr.2.1, by have := hr.2.2.1; omega, by have := hr.2.2.2; omega⟩)
  · exact EP.pos (by show t.size + 1 ≤ _; omega) (EP.ret ⟨by show (t ++ _).size ≤ _; rw [ByteArray.size_append]; show t.size + 1 ≤ _; omega, by show l.length ≤ _; omega, by show p ≤ p + 1; omega, by show p + 1 ≤ p + 10; omega⟩)
theorem drawFT_ep (b : List Int) (h : ∀ x ∈ b, 0 ≤ x ∧ x < 256) : EP (fun k => spec_DrawFormThing.f k b) (fun r => r.1.size ≤ 5000 ∧ r.2.1.length ≤ 100) := by
  refine EP.bind (open_ep b h) (fun r hr => ?_)
  obtain ⟨b, p⟩ := r
  obtain ⟨hb, hp⟩ := hr
  simp only at hb hp
  subst hp
  have j0 : ∀ (w : Int) (p : Int) (t : ByteArray) (l : List ByteArray), 0 ≤ p → p ≤ 1000 → t.size ≤ 5000 → l.length ≤ 100 → EP (fun k => spec_DrawFormThing.j0 k w b p t l) (fun r => r.1.size ≤ 5000 ∧ r.2.1.length ≤ 100) := by
    intro w p t l hp hp2 ht hl
    refine EP.step (fun k => by simp only [spec_DrawFormThing.j0]; rfl) ?_
    refine EP.bind (pick_ep b p 10 hb hp (by omega)) (fun r hr => EP.ite (fun _ => ?_) (fun _ => EP.ret ⟨ht, hl⟩))
    exact EP.bind (pick_ep b r.2 10 hb (by rw [hr.2.2]; omega) (by rw [hr.2.2]; omega)) (fun r hr => EP.ret ⟨ht, hl⟩)
  refine EP.bind (width_ep b 0 hb (by omega) (by omega)) (fun r hr => ?_)
  obtain ⟨w, p⟩ := r
  simp only at hr
  subst hr
  refine EP.bind (thing_ep b (0 + 1) w hb (by omega) (by omega)) (fun r hr => ?_)
  obtain ⟨t, l, p⟩ := r
  obtain ⟨h1, h2, h3, h4⟩ := hr
  simp only at h1 h2 h3 h4
  refine EP.bind (pick_ep b p 4 hb (by omega) (by omega)) (fun r hr => ?_)
  obtain ⟨y1, y2⟩ := r
  obtain ⟨g4, g5, g6⟩ := hr
  simp only at g4 g5 g6
  subst g6
  refine EP.ite (fun _ => ?_) (fun _ => j0 w (p + 1) t l (by omega) (by omega) (by omega) (by omega))
  refine EP.bind (spoil_ep b (p + 1) t l hb (by omega) (by omega) (by omega) (by omega)) (fun r hr => ?_)
  obtain ⟨t', l', p'⟩ := r
  obtain ⟨k1, k2, k3, k4⟩ := hr
  simp only at k1 k2 k3 k4
  exact j0 w p' t' l' (by omega) (by omega) k1 k2
/-! ### entries -/
/-- An entry's parts, and where the reader stands. -/
def okEn (r : Int × ByteArray × ByteArray × Int × ByteArray × List ByteArray × Int) (p n : Int) : Prop := r.2.1.size ≤ 5000 ∧ r.2.2.1.size ≤ 5000 ∧ r.2.2.2.2.1.size ≤ 5000 ∧ r.2.2.2.2.2.1.length ≤ 100 ∧ p ≤ r.2.2.2.2.2.2 ∧ r.2.2.2.2.2.2 ≤ p + n
theorem rdOf_size (l : List ByteArray) (B : Nat) (h : ∀ x ∈ l, x.size ≤ B) (i : Int) : (rdOf ByteArray.empty l i).size ≤ B := by
  unfold rdOf
  rw [List.getD_eq_getElem?_getD]
  cases e : l[i.toNat]? with
  | none => exact Nat.zero_le _
  | some x => exact h x (List.mem_of_getElem? e)
theorem draw2_ep (b : List Int) (hb : okB b) (w m : Int) (d : Bool) (p k0 : Int) (s n : ByteArray) (x : Int) (hs : s.size ≤ 100) (hn : n.size ≤ 100) (hp : 0 ≤ p) (hp2 : p ≤ 10000) : EP (fun k => spec_l3Draw.j2 k w m d b p k0 s n x ⟨#[]⟩) (fun r => r.2.1.size ≤ 100 ∧ r.2.2.1.size ≤ 100 ∧ r.2.2.2.2.1.size ≤ 100 ∧ r.2.2.2.2.2.1.length ≤ 60 ∧ p ≤ r.2.2.2.2.2.2 ∧ r.2.2.2.2.2.2 ≤ p + 50) := by
  refine EP.step (fun k => by simp only [spec_l3Draw.j2]; rfl) ?_
  refine EP.ite (fun _ => ?_) (fun _ => EP.ite (fun _ => ?_) (fun _ => EP.ret ⟨hs, hn, Nat.zero_le _, Nat.zero_le _, Int.le_refl _, by show p ≤ p + 50; omega⟩))
  · simp only [Option.bind_some]
    refine EP.bind (pick_ep b p 7 hb hp (by omega)) (fun r hr => ?_)
    obtain ⟨y1, y2⟩ := r
    obtain ⟨g4, g5, g6⟩ := hr
    simp only at g4 g5 g6
    subst g6
    refine EP.pos (by omega) (EP.pos (by show y1 < 7; omega) (EP.ite (fun _ => ?_) (fun _ => EP.ret ⟨hs, hn, Nat.zero_le _, Nat.zero_le _, by show p ≤ p + 1; omega, by show p + 1 ≤ p + 50; omega⟩)))
    exact EP.bind (thing_ep b (p + 1) w hb (by omega) (by omega)) (fun r hr => EP.ret ⟨hs, hn, hr.1, hr.2.1, by have := hr.2.2.1; show p ≤ r.2.2; omega, by have := hr.2.2.2; show r.2.2 ≤ _; omega⟩)
  · exact EP.bind (thing_ep b p w hb hp (by omega)) (fun r hr => EP.ret ⟨hs, hn, hr.1, hr.2.1, hr.2.2.1, by have := hr.2.2.2; show r.2.2 ≤ _; omega⟩)
theorem draw1_ep (b : List Int) (hb : okB b) (w m : Int) (c d : Bool) (p k0 : Int) (s : ByteArray) (x : Int) (hs : s.size ≤ 100) (hp : 0 ≤ p) (hp2 : p ≤ 9000) : EP (fun k => spec_l3Draw.j1 k w c m d b p k0 s ⟨#[]⟩ x ⟨#[]⟩) (fun r => r.2.1.size ≤ 100 ∧ r.2.2.1.size ≤ 100 ∧ r.2.2.2.2.1.size ≤ 100 ∧ r.2.2.2.2.2.1.length ≤ 60 ∧ p ≤ r.2.2.2.2.2.2 ∧ r.2.2.2.2.2.2 ≤ p + 60) := by
  refine EP.step (fun k => by simp only [spec_l3Draw.j1]; rfl) ?_
  have fin : ∀ (p' : Int) (n : ByteArray), p ≤ p' → p' ≤ p + 5 → n.size ≤ 100 → EP (fun k => spec_l3Draw.j2 k w m d b p' k0 s n x ⟨#[]⟩) (fun r => r.2.1.size ≤ 100 ∧ r.2.2.1.size ≤ 100 ∧ r.2.2.2.2.1.size ≤ 100 ∧ r.2.2.2.2.2.1.length ≤ 60 ∧ p ≤ r.2.2.2.2.2.2 ∧ r.2.2.2.2.2.2 ≤ p + 60) := fun p' n h1 h2 h3 =>
    (draw2_ep b hb w m d p' k0 s n x hs h3 (by omega) (by omega)).mono (fun r hr => ⟨hr.1, hr.2.1, hr.2.2.1, hr.2.2.2.1, by have := hr.2.2.2.2.1; omega, by have := hr.2.2.2.2.2; omega⟩)
  refine EP.ite (fun _ => ?_) (fun _ => fin p ⟨#[]⟩ (Int.le_refl _) (by omega) (by decide))
  refine EP.bind (many_ep ⟨#[110]⟩ 40 100 (by omega) (by omega) (by decide) (by decide)) (fun t ht => ?_)
  simp only [Option.bind_some]
  refine EP.bind (pick_ep b p 4 hb hp (by omega)) (fun r hr => ?_)
  obtain ⟨y1, y2⟩ := r
  obtain ⟨g4, g5, g6⟩ := hr
  simp only at g4 g5 g6
  subst g6
  refine EP.pos (by omega) (EP.pos (by show y1 < 4; omega) (fin (p + 1) _ (by omega) (by omega) (rdOf_size _ 100 (fun z hz => ?_) _)))
  simp only [List.mem_cons, List.not_mem_nil, or_false] at hz
  rcases hz with rfl | rfl | rfl | rfl
  · decide
  · decide
  · decide
  · exact ht
theorem draw0_ep (b : List Int) (hb : okB b) (w m : Int) (c d x27 : Bool) (p k0 : Int) (x : Int) (hp : 0 ≤ p) (hp2 : p ≤ 8000) : EP (fun k => spec_l3Draw.j0 k w c m d x27 b p k0 ⟨#[]⟩ ⟨#[]⟩ x ⟨#[]⟩) (fun r => r.2.1.size ≤ 100 ∧ r.2.2.1.size ≤ 100 ∧ r.2.2.2.2.1.size ≤ 100 ∧ r.2.2.2.2.2.1.length ≤ 60 ∧ p ≤ r.2.2.2.2.2.2 ∧ r.2.2.2.2.2.2 ≤ p + 70) := by
  refine EP.step (fun k => by simp only [spec_l3Draw.j0]; rfl) ?_
  refine EP.ite (fun _ => ?_) (fun _ => (draw1_ep b hb w m c d p k0 ⟨#[]⟩ x (by decide) hp (by omega)).mono (fun r hr => ⟨hr.1, hr.2.1, hr.2.2.1, hr.2.2.2.1, hr.2.2.2.2.1, by have := hr.2.2.2.2.2; omega⟩))
  refine EP.bind (text_ep b p hb hp (by omega)) (fun r hr => ?_)
  obtain ⟨y1, y2⟩ := r
  obtain ⟨h4, h5, h6⟩ := hr
  simp only at h4 h5 h6
  refine EP.bind (EP.of (p := fun s => s.size ≤ 100) (sSum_ev y1 w (by omega)) (by
    unfold sumB; split
    · rename_i h; have := widB_iff.1 h; rw [son_size, dig_length]; omega
    · decide)) (fun s hs => ?_)
  exact (draw1_ep b hb w m c d y2 k0 s x hs (by omega) (by omega)).mono (fun r hr => ⟨hr.1, hr.2.1, hr.2.2.1, hr.2.2.2.1, by have := hr.2.2.2.2.1; omega, by have := hr.2.2.2.2.2; omega⟩)
theorem drawE_ep (b : List Int) (p w : Int) (hb : okB b) (hp : 0 ≤ p) (hp2 : p ≤ 7000) : EP (fun k => spec_l3Draw.f k b p w) (fun r => r.2.1.size ≤ 100 ∧ r.2.2.1.size ≤ 100 ∧ r.2.2.2.2.1.size ≤ 100 ∧ r.2.2.2.2.2.1.length ≤ 60 ∧ p ≤ r.2.2.2.2.2.2 ∧ r.2.2.2.2.2.2 ≤ p + 80) := by
  refine EP.bind (pick_ep b p 7 hb hp (by omega)) (fun r hr => ?_)
  obtain ⟨y1, y2⟩ := r
  obtain ⟨g4, g5, g6⟩ := hr
  simp only at g4 g5 g6
  subst g6
  obtain ⟨a0, b0, c0, d0, hu, _, _⟩ := sNum (wrap64 (1 + y1)) 0
  refine EP.bind (EP.of (p := fun r => r = (a0, b0, c0, d0)) (Ev.congr (fun _ => hu) (Ev.now _)) rfl) (fun r hr => ?_)
  subst hr
  have fin : ∀ x27 : Bool, EP (fun k => spec_l3Draw.j0 k w b0 c0 d0 x27 b (p + 1) (wrap64 (1 + y1)) ⟨#[]⟩ ⟨#[]⟩ 0 ⟨#[]⟩) (fun r => r.2.1.size ≤ 100 ∧ r.2.2.1.size ≤ 100 ∧ r.2.2.2.2.1.size ≤ 100 ∧ r.2.2.2.2.2.1.length ≤ 60 ∧ p ≤ r.2.2.2.2.2.2 ∧ r.2.2.2.2.2.2 ≤ p + 80) := fun x27 =>
    (draw0_ep b hb w c0 b0 d0 x27 (p + 1) _ 0 (by omega) (by omega)).mono (fun r hr => ⟨hr.1, hr.2.1, hr.2.2.1, hr.2.2.2.1, by have := hr.2.2.2.2.1; omega, by have := hr.2.2.2.2.2; omega⟩)
  exact EP.ite (fun _ => EP.bind (EP.of (p := fun _ => True) (Ev.congr (fun _ => l1W w) (Ev.now _)) trivial) (fun x _ => fin x)) (fun _ => fin false)
theorem spoilE_ep (b : List Int) (p : Int) (k0 : Int) (s n : ByteArray) (m : Int) (t : ByteArray) (l : List ByteArray) (hb : okB b) (hp : 0 ≤ p) (hp2 : p ≤ 8000) (hs : s.size ≤ 100) (hn : n.size ≤ 100) (ht : t.size ≤ 100) (hl : l.length ≤ 60) : EP (fun k => spec_l3Spoil.f k b p k0 s n m t l) (fun r => okEn r p 20) := by
  refine EP.bind (pick_ep b p 6 hb hp (by omega)) (fun r hr => ?_)
  obtain ⟨y1, y2⟩ := r
  obtain ⟨g4, g5, g6⟩ := hr
  simp only at g4 g5 g6
  subst g6
  have ok : ∀ (k1 : Int) (s' n' : ByteArray) (m' : Int) (t' : ByteArray) (p' : Int), s'.size ≤ 5000 → n'.size ≤ 5000 → t'.size ≤ 5000 → p ≤ p' → p' ≤ p + 20 → okEn (k1, s', n', m', t', l, p') p 20 := fun k1 s' n' m' t' p' h1 h2 h3 h4 h5 => ⟨h1, h2, h3, by show l.length ≤ _; omega, h4, h5⟩
  refine EP.ite (fun _ => EP.bind (pick_ep b (p + 1) 10 hb (by omega) (by omega)) (fun r hr => EP.ret (ok _ _ _ _ _ _ (by omega) (by omega) (by omega) (by rw [hr.2.2]; omega) (by rw [hr.2.2]; omega)))) (fun _ => EP.ite (fun _ => ?_) (fun _ => EP.ite (fun _ => ?_) (fun _ => EP.ite (fun _ => ?_) (fun _ => EP.ite (fun _ => ?_) (fun _ => EP.ret (ok _ _ _ _ _ _ (by omega) (by omega) (by decide) (by omega) (by omega)))))))
  · simp only [Option.bind_some]
    refine EP.bind (pick_ep b (p + 1) 6 hb (by omega) (by omega)) (fun r hr => EP.pos hr.1 (EP.pos (by have := hr.2.1; show r.1 < 6; omega) (EP.ret (ok _ _ _ _ _ _ (by omega) (by omega) (by omega) (by rw [hr.2.2]; omega) (by rw [hr.2.2]; omega)))))
  · refine EP.bind (many_ep ⟨#[110]⟩ 41 100 (by omega) (by omega) (by decide) (by decide)) (fun t' ht' => ?_)
    simp only [Option.bind_some]
    refine EP.bind (pick_ep b (p + 1) 3 hb (by omega) (by omega)) (fun r hr => EP.pos hr.1 (EP.pos (by have := hr.2.1; show r.1 < 3; omega) (EP.ret (ok _ _ _ _ _ _ (by omega) (rdOf_size _ 5000 (fun z hz => ?_) _) (by omega) (by rw [hr.2.2]; omega) (by rw [hr.2.2]; omega)))))
    simp only [List.mem_cons, List.not_mem_nil, or_false] at hz
    rcases hz with rfl | rfl | rfl
    · decide
    · decide
    · omega
  · exact EP.pos (by omega) (EP.ret (ok _ _ _ _ _ _ (by rw [ByteArray.size_append]; show s.size + 1 ≤ _; omega) (by omega) (by omega) (by omega) (by omega)))
  · exact EP.bind (spoil_ep b (p + 1) t l hb (by omega) (by omega) (by omega) (by omega)) (fun r hr => EP.ret ⟨by show s.size ≤ _; omega, by show n.size ≤ _; omega, hr.1, hr.2.1, by have := hr.2.2.1; show p ≤ r.2.2; omega, by have := hr.2.2.2; show r.2.2 ≤ _; omega⟩)
theorem drawFE_ep (b : List Int) (h : ∀ x ∈ b, 0 ≤ x ∧ x < 256) : EP (fun k => spec_DrawFormEntry.f k b) (fun r => r.2.1.size ≤ 5000 ∧ r.2.2.1.size ≤ 5000 ∧ r.2.2.2.2.1.size ≤ 5000 ∧ r.2.2.2.2.2.1.length ≤ 100) := by
  refine EP.bind (open_ep b h) (fun r hr => ?_)
  obtain ⟨b, p⟩ := r
  obtain ⟨hb, hp⟩ := hr
  simp only at hb hp
  subst hp
  have j0 : ∀ (w : Int) (p k0 : Int) (s n : ByteArray) (m : Int) (t : ByteArray) (l : List ByteArray), 0 ≤ p → p ≤ 1000 → s.size ≤ 5000 → n.size ≤ 5000 → t.size ≤ 5000 → l.length ≤ 100 → EP (fun k => spec_DrawFormEntry.j0 k w b p k0 s n m t l) (fun r => r.2.1.size ≤ 5000 ∧ r.2.2.1.size ≤ 5000 ∧ r.2.2.2.2.1.size ≤ 5000 ∧ r.2.2.2.2.2.1.length ≤ 100) := by
    intro w p k0 s n m t l hp hp2 hs hn ht hl
    refine EP.step (fun k => by simp only [spec_DrawFormEntry.j0]; rfl) ?_
    refine EP.bind (pick_ep b p 16 hb hp (by omega)) (fun r hr => EP.ite (fun _ => ?_) (fun _ => EP.ret ⟨hs, hn, ht, hl⟩))
    exact EP.bind (pick_ep b r.2 10 hb (by rw [hr.2.2]; omega) (by rw [hr.2.2]; omega)) (fun r hr => EP.ret ⟨hs, hn, ht, hl⟩)
  refine EP.bind (width_ep b 0 hb (by omega) (by omega)) (fun r hr => ?_)
  obtain ⟨w, p⟩ := r
  simp only at hr
  subst hr
  refine EP.bind (drawE_ep b (0 + 1) w hb (by omega) (by omega)) (fun r hr => ?_)
  obtain ⟨k0, s, n, m, t, l, p⟩ := r
  obtain ⟨h1, h2, h3, h4, h5, h6⟩ := hr
  simp only at h1 h2 h3 h4 h5 h6
  refine EP.bind (pick_ep b p 3 hb (by omega) (by omega)) (fun r hr => ?_)
  obtain ⟨y1, y2⟩ := r
  obtain ⟨g4, g5, g6⟩ := hr
  simp only at g4 g5 g6
  subst g6
  refine EP.ite (fun _ => ?_) (fun _ => j0 w (p + 1) k0 s n m t l (by omega) (by omega) (by omega) (by omega) (by omega) (by omega))
  refine EP.bind (spoilE_ep b (p + 1) k0 s n m t l hb (by omega) (by omega) h1 h2 h3 h4) (fun r hr => ?_)
  obtain ⟨k', s', n', m', t', l', p'⟩ := r
  obtain ⟨q1, q2, q3, q4, q5, q6⟩ := hr
  simp only at q1 q2 q3 q4 q5 q6
  exact j0 w p' k' s' n' m' t' l' (by omega) (by omega) q1 q2 q3 q4
/-! ### bent texts -/
theorem bend_ep (b : List Int) (p : Int) (s : ByteArray) (hb : okB b) (hp : 0 ≤ p) (hp2 : p ≤ 7000) (hs : s.size ≤ 100000) : EP (fun k => spec_l1Bend.f k b p s) (fun r => r.1.size ≤ 300000) := by
  have e : wrap64 ((s.size : Int) + 1) = (s.size : Int) + 1 := w64_small (by omega) (by omega)
  unfold spec_l1Bend.f
  simp only [e]
  refine EP.bind (pick_ep b p _ hb hp (by omega)) (fun r hr => ?_)
  obtain ⟨i, p⟩ := r
  obtain ⟨g4, g5, g6⟩ := hr
  simp only at g4 g5 g6
  subst g6
  have hi : i ≤ (s.size : Int) := by omega
  refine EP.bind (pick_ep b _ 4 hb (by omega) (by omega)) (fun r hr => ?_)
  obtain ⟨y, p⟩ := r
  obtain ⟨k4, k5, k6⟩ := hr
  simp only at k4 k5 k6
  subst k6
  have z1 : (s.extract 0 i.toNat).size ≤ s.size := by rw [ByteArray.size_extract]; omega
  have z2 : ∀ j : Nat, (s.extract j s.size).size ≤ s.size := fun j => by rw [ByteArray.size_extract]; omega
  have e1 : wrap64 (i + 1) = i + 1 := w64_small (by omega) (by omega)
  simp only [e1]
  refine EP.ite (fun _ => EP.pos g4 (EP.pos hi (EP.ret (by show (s.extract 0 i.toNat).size ≤ _; omega)))) (fun _ => EP.ite (fun _ => EP.pos g4 (EP.pos hi ?_)) (fun _ => EP.ite (fun _ => EP.ite (fun c => EP.pos g4 (EP.pos hi (EP.pos (by omega) (EP.pos (by omega) (EP.pos (by have := z2 (i + 1).toNat; omega) (EP.ret ?_)))))) (fun _ => EP.ret (by show s.size ≤ _; omega))) (fun _ => EP.ite (fun c => EP.pos g4 (EP.pos hi ?_)) (fun _ => EP.ret (by show s.size ≤ _; omega)))))
  · simp only [Option.bind_some]
    refine EP.bind (pick_ep b _ 8 hb (by omega) (by omega)) (fun r hr => ?_)
    have hr8 : (rdOf ByteArray.empty [(⟨#[32]⟩ : ByteArray), ⟨#[10]⟩, ⟨#[0]⟩, ⟨#[45]⟩, ⟨#[48]⟩, ⟨#[120]⟩, ⟨#[37, 122, 122]⟩, ⟨#[37, 52]⟩] r.1).size ≤ 3 := rdOf_size _ 3 (by decide) _
    have h2 := z2 i.toNat
    refine EP.pos hr.1 (EP.pos (by have := hr.2.1; show r.1 < 8; omega) (EP.pos (by omega) (EP.pos (by rw [ByteArray.size_append]; omega) (EP.ret ?_))))
    show (s.extract 0 i.toNat ++ _ ++ s.extract i.toNat s.size).size ≤ _
    rw [ByteArray.size_append, ByteArray.size_append]; omega
  · show (s.extract 0 i.toNat ++ s.extract (i + 1).toNat s.size).size ≤ _
    have := z2 (i + 1).toNat
    rw [ByteArray.size_append]; omega
  · refine EP.bind (pick_ep b _ 256 hb (by omega) (by omega)) (fun r hr => ?_)
    simp only [Option.bind_some]
    have h1 : (strOfNums [r.1 % 256]).size = 1 := by rw [son_size]; rfl
    have h2 := z2 (i + 1).toNat
    refine EP.pos (by omega) (EP.pos (by omega) (EP.pos (by omega) (EP.pos (by rw [ByteArray.size_append]; omega) (EP.ret ?_))))
    show (s.extract 0 i.toNat ++ strOfNums [r.1 % 256] ++ s.extract (i + 1).toNat s.size).size ≤ _
    rw [ByteArray.size_append, ByteArray.size_append]; omega
theorem drawRT_ep (b : List Int) (h : ∀ x ∈ b, 0 ≤ x ∧ x < 256) : EP (fun k => spec_DrawReadThing.f k b) (fun r => r.1.size ≤ 300000) := by
  refine EP.bind (open_ep b h) (fun r hr => ?_)
  obtain ⟨b', p⟩ := r
  obtain ⟨hb, hp⟩ := hr
  simp only at hb hp
  subst hp
  refine EP.bind (drawFT_ep b h) (fun r hr => ?_)
  obtain ⟨t, l, w⟩ := r
  simp only at hr
  refine EP.bind (EP.of (p := fun s => s.size ≤ 2241) (sFormT_ev t l w (by omega)) (by
    unfold formT; split
    · rename_i c; exact form_size c
    · decide)) (fun s hs => ?_)
  refine EP.bind (pick_ep b' 0 2 hb (by omega) (by omega)) (fun r hr => EP.ite (fun _ => ?_) (fun _ => EP.ret (by show s.size ≤ _; omega)))
  exact EP.bind (bend_ep b' r.2 s hb (by rw [hr.2.2]; omega) (by rw [hr.2.2]; omega) (by omega)) (fun r hr => EP.ret hr)
theorem formE_size (k : Int) (s n : ByteArray) (m : Int) (t : ByteArray) (l : List ByteArray) (w : Int) : (formE k s n m t l w).size ≤ 3000 := by
  unfold formE
  by_cases c : entB k s n m t l w = true
  · obtain ⟨_, _, _, _, hs, hn, _, _, hT⟩ := entB_le c
    have h6 : (strOfNums (head6 k m (n.size : Int))).size = 6 := by rw [son_size]; rfl
    rw [if_pos c]
    by_cases c1 : k = 1
    · have := form_size (hT c1)
      rw [if_pos c1, ByteArray.size_append, ByteArray.size_append, ByteArray.size_append, h6]; omega
    · rw [if_neg c1, ByteArray.size_append, ByteArray.size_append, h6]; omega
  · rw [if_neg c]; decide
theorem drawRE_ep (b : List Int) (h : ∀ x ∈ b, 0 ≤ x ∧ x < 256) : EP (fun k => spec_DrawReadEntry.f k b) (fun r => r.1.size ≤ 300000) := by
  refine EP.bind (open_ep b h) (fun r hr => ?_)
  obtain ⟨b', p⟩ := r
  obtain ⟨hb, hp⟩ := hr
  simp only at hb hp
  subst hp
  refine EP.bind (drawFE_ep b h) (fun r hr => ?_)
  obtain ⟨k0, s, n, m, t, l, w⟩ := r
  simp only at hr
  refine EP.bind (EP.of (p := fun s => s.size ≤ 3000) (sFE_ev k0 s n m t l w (by omega) (by omega)) (formE_size _ _ _ _ _ _ _)) (fun s hs => ?_)
  refine EP.bind (pick_ep b' 0 2 hb (by omega) (by omega)) (fun r hr => EP.ite (fun _ => ?_) (fun _ => EP.ret (by show s.size ≤ _; omega)))
  exact EP.bind (bend_ep b' r.2 s hb (by rw [hr.2.2]; omega) (by rw [hr.2.2]; omega) (by omega)) (fun r hr => EP.ret hr)
end Go.Proofs.Ytpnblgbkjbpeoaa.Q

/- The law of forms comes to true. -/
namespace Go.Proofs.Ytpnblgbkjbpeoaa.Q
open Go.RowKit Go.Proofs.Ytpnblgbkjbpeoaa.P Go.Proofs.YtpnblgbkjbpeoaaW.PrintWords Go.Proofs.YtpnblgbkjbpeoaaW.PrintLast Go.Proofs.YtpnblgbkjbpeoaaW.PrintMore
set_option linter.unusedVariables false

theorem wLs_loop (l : List ByteArray) (hl : l.length ≤ 140737488351232) (n : Nat) : ∀ (i : Nat), l.length - i = n → i ≤ l.length → Ev (fun k => laws_wList.l0 k l l (i : Int)) true := by
  induction n with
  | zero =>
    intro i hn hi
    refine Ev.step (f := fun _ => some true) (fun k => ?_) (Ev.now _)
    simp only [laws_wList.l0]; rw [if_neg (by omega)]
  | succ n ih =>
    intro i hn hi
    have hlt : i < l.length := by omega
    refine Ev.step (f := fun k => laws_wList.l0 k l l ((i + 1 : Nat) : Int)) (fun k => ?_) (ih (i + 1) (by omega) (by omega))
    simp only [laws_wList.l0]
    rw [if_pos (by omega), if_pos (by omega), if_pos (by omega), if_pos trivial, wsucc hlt hl]
theorem wT_ev (t : ByteArray) (l : List ByteArray) (hl : l.length ≤ 140737488351232) : Ev (fun k => laws_wThing.f k t l t l) true :=
  Ev.pos rfl (Ev.bind (Ev.pos rfl (wLs_loop l hl (l.length - 0) 0 rfl (by omega))) (Ev.now _))
theorem forms3 (b : List Int) (h : ∀ x ∈ b, 0 ≤ x ∧ x < 256) : Ev (fun k => laws_FnForms.j3 k b false) true := by
  obtain ⟨⟨s, w⟩, hD, hs⟩ := drawRE_ep b h
  simp only at hs
  have hs' : s.size ≤ 140737488351232 := by omega
  refine Ev.step (fun k => by simp only [laws_FnForms.j3]; rw [if_neg (by simp)]) ?_
  refine Ev.bind hD (Ev.bind (iRE_ev s w hs') (Ev.bind (sRE_ev s w hs') (Ev.pos (by simp) (Ev.ite' (fun c => ?_) (fun _ => Ev.now _)))))
  have hf := readE_form s w c
  have hl := readE_le s w
  have hn : (readE s w).2.2.1.size ≤ 140737488351232 := by
    by_cases h0 : (formE (readE s w).1 (readE s w).2.1 (readE s w).2.2.1 (readE s w).2.2.2.1 (readE s w).2.2.2.2.1 (readE s w).2.2.2.2.2.1 w).toList = []
    · have hz : s.size = 0 := by rw [hf] at h0; exact toList_nil.1 h0
      have : readE s w = noE := by unfold readE; rw [if_pos (by omega)]
      rw [this]; decide
    · have := (entB_le (formE_nil h0)).2.2.2.2.2.1; omega
  refine Ev.bind (iFE_ev _ _ _ _ _ _ w (by omega) hn) (Ev.ret ?_)
  rw [hf]; simp
theorem forms2 (b : List Int) (h : ∀ x ∈ b, 0 ≤ x ∧ x < 256) : Ev (fun k => laws_FnForms.j2 k b) true := by
  obtain ⟨⟨s, w⟩, hD, hs⟩ := drawRT_ep b h
  simp only at hs
  have hs' : s.size ≤ 140737488351232 := by omega
  refine Ev.step (fun k => by simp only [laws_FnForms.j2]; rfl) ?_
  refine Ev.bind hD (Ev.bind (iRT_ev s w hs') (Ev.ite' (fun c => ?_) (fun _ => forms3 b h)))
  have hl := readT_le s w
  rcases readT_cases s w with e | ⟨_, e2, e3⟩
  · rw [e] at c; cases c
  · refine Ev.bind (iFormT_ev _ _ w (by omega)) ?_
    have e4 : formT (readT s w).1 (readT s w).2.1 w = s := by unfold formT; rw [if_pos e2, e3]
    have e5 : (s.toList != s.toList) = false := by simp
    simp only [e4, e5]
    exact forms3 b h
theorem forms1 (b : List Int) (h : ∀ x ∈ b, 0 ≤ x ∧ x < 256) (w k0 : Int) (s n : ByteArray) (m : Int) (t : ByteArray) (l : List ByteArray) (hl : l.length ≤ 100) : Ev (fun k => laws_FnForms.j1 k b w (formE k0 s n m t l w) k0 s n m t l) true := by
  refine Ev.step (fun k => by simp only [laws_FnForms.j1]; rfl) ?_
  refine Ev.ite' (fun _ => forms2 b h) (fun c => ?_)
  have hE := formE_nil c
  have hz := formE_size k0 s n m t l w
  have hr := form_readE hE
  refine Ev.bind (iRE_ev _ w (by omega)) ?_
  rw [hr]
  exact Ev.pos rfl (Ev.pos rfl (Ev.pos rfl (Ev.pos rfl (Ev.pos rfl (Ev.bind (wT_ev t l (by omega)) (Ev.pos rfl (forms2 b h)))))))
theorem forms_pure (b : List Int) (h : ∀ x ∈ b, 0 ≤ x ∧ x < 256) : Ev (fun k => laws_FnForms.f k b) true := by
  refine Ev.ite' (fun _ => Ev.now _) (fun _ => ?_)
  obtain ⟨⟨t, l, w⟩, hD, ht, hl⟩ := drawFT_ep b h
  obtain ⟨⟨k0, s, n, m, t', l', w'⟩, hE, q1, q2, q3, q4⟩ := drawFE_ep b h
  simp only at ht hl q1 q2 q3 q4
  refine Ev.bind hD (Ev.bind hE (Ev.bind (iFormT_ev t l w (by omega)) (Ev.bind (iFE_ev k0 s n m t' l' w' (by omega) (by omega)) (Ev.bind (sFormT_ev t l w (by omega)) (Ev.pos rfl (Ev.bind (sFE_ev k0 s n m t' l' w' (by omega) (by omega)) ?_))))))
  have e5 : ((formE k0 s n m t' l' w').toList != (formE k0 s n m t' l' w').toList) = false := by simp
  simp only [e5]
  refine Ev.step (fun k => by simp only [laws_FnForms.j0]; rw [if_neg (by simp)]) ?_
  refine Ev.ite' (fun _ => forms1 b h w' k0 s n m t' l' q4) (fun c => ?_)
  obtain ⟨c1, c2⟩ := formT_nil c
  have hz := form_size c1
  refine Ev.bind (iRT_ev _ w (by rw [c2]; omega)) ?_
  rw [c2, form_readT c1]
  exact Ev.pos rfl (Ev.bind (wT_ev t l (by omega)) (Ev.pos rfl (forms1 b h w' k0 s n m t' l' q4)))
theorem wf8 {x : Int} (h : (Lit.int .u8 x).wf = true) : 0 ≤ x ∧ x < 256 := by
  simp only [Lit.wf, Bool.and_eq_true, decide_eq_true_eq] at h
  have h1 : IntKind.u8.min = 0 := rfl
  have h2 : IntKind.u8.max = 255 := rfl
  omega
theorem FnForms : laws_FnForms.Pure := fun l _ _ hw => (forms_pure l (fun x hx => wf8 (hw x hx))).rounds
end Go.Proofs.Ytpnblgbkjbpeoaa.Q

/- The plain statement of the law of forms. -/
namespace Go.Proofs.Ytpnblgbkjbpeoaa.Pure
theorem FnForms : P.laws_FnForms.Pure := Q.FnForms
end Go.Proofs.Ytpnblgbkjbpeoaa.Pure
