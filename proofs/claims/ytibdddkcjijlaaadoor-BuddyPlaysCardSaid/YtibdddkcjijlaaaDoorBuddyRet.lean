/- buddy: Back, Free, walked. -/
import Derived.Test.YtibdddkcjijlaaaDoorBuddyLend
namespace Go.Proofs.YtibdddkcjijlaaaDoor
open Go.RowKit
set_option linter.unusedSimpArgs false

/-- a block in hand is one with its other half, again and again; then it is free -/
def mergeF (fr : Nat → List Nat) (a : Nat) : Nat → Nat → (Nat → List Nat)
  | 0, k => upd fr k (putN (fr k) a)
  | n + 1, k => if k < 6 ∧ a ^^^ 2 ^ k ∈ fr k then mergeF (upd fr k ((fr k).erase (a ^^^ 2 ^ k))) (a - a % 2 ^ (k + 1)) n (k + 1) else upd fr k (putN (fr k) a)
theorem Bud.merges {ln : Nat → Option Nat} : ∀ (n : Nat) (fr : Nat → List Nat) (a k : Nat), Bud fr ln [(a, k)] → 6 ≤ k + n → Bud (mergeF fr a n k) ln []
  | 0, fr, a, k, h, hk => (h.put fun h6 => by omega).2
  | n + 1, fr, a, k, h, hk => by
    unfold mergeF
    split
    · rename_i hc
      exact Bud.merges n _ _ _ (h.merge hc.1 hc.2) (by omega)
    · rename_i hc
      exact (h.put fun h6 hm => hc ⟨h6, hm⟩).2
def backBE (ln : Nat → Option Nat) (x : Int) : Nat := if (lnI ln x).isSome then 0 else 5
def backBF (fr : Nat → List Nat) (ln : Nat → Option Nat) (x : Int) : Nat → List Nat := match lnI ln x with
  | some k => mergeF fr x.toNat 6 k
  | none => fr
def backBL (ln : Nat → Option Nat) (x : Int) : Nat → Option Nat := if (lnI ln x).isSome then upd ln x.toNat none else ln
theorem Bud.backs {fr : Nat → List Nat} {ln : Nat → Option Nat} (H : Bud fr ln []) (x : Int) : Bud (backBF fr ln x) (backBL ln x) [] := by
  unfold backBF backBL
  cases e : lnI ln x with
  | none => exact H
  | some k =>
    have hx : ln x.toNat = some k := by
      unfold lnI at e
      split at e
      · exact e
      · cases e
    exact Bud.merges 6 _ _ _ (H.back hx) (by omega)

theorem ni_erase : ∀ (l : List Nat) (i : Nat), (ni l).eraseIdx i = ni (l.eraseIdx i)
  | [], _ => rfl
  | _ :: _, 0 => rfl
  | _ :: l, i + 1 => congrArg _ (ni_erase l i)
theorem erase_idx {l : List Nat} {a : Nat} (hr : l.Pairwise (· < ·)) (h : a ∈ l) : posN l a < l.length ∧ l.eraseIdx (posN l a) = l.erase a := by
  obtain ⟨j, hj, rfl⟩ := List.getElem_of_mem h
  have e : posN l l[j] = j := by
    have h1 := rising_lt l[j] hr
    unfold posN
    rcases Nat.lt_trichotomy (l.countP fun x => decide (x < l[j])) j with h2 | h2 | h2
    · have h3 := List.pairwise_iff_getElem.1 hr _ _ (by omega) hj h2
      have := (h1 _ (by omega)).1 h3
      omega
    · exact h2
    · have := (h1 j hj).2 h2
      omega
  rw [e]
  refine ⟨hj, ?_⟩
  rw [List.erase_eq_eraseIdx_of_idxOf]
  have hn : l.Nodup := hr.imp fun h => Nat.ne_of_lt h
  exact List.Nodup.idxOf_getElem hn j hj

theorem xor64 {a k : Nat} (ha : a < 64) (hk : k ≤ 6) : ∀ y : Int, y = (2 : Int) ^ k → bits BinOp.xor IntKind.i64 (a : Int) y = ((a ^^^ 2 ^ k : Nat) : Int) := by
  rintro y rfl
  have h2 : 2 ^ k ≤ 2 ^ 6 := Nat.pow_le_pow_right (by decide) hk
  rw [show ((2 : Int) ^ k) = ((2 ^ k : Nat) : Int) by simp]
  have hx : a ^^^ 2 ^ k < 2 ^ 7 := Nat.xor_lt_two_pow (by omega) (by omega)
  generalize 2 ^ k = q at *
  show IntKind.i64.wrap ((BitVec.ofInt 64 (a : Int) ^^^ BitVec.ofInt 64 (q : Int)).toNat : Int) = _
  rw [BitVec.toNat_xor, BitVec.ofInt_natCast, BitVec.ofInt_natCast, BitVec.toNat_ofNat, BitVec.toNat_ofNat, Nat.mod_eq_of_lt (show a < 2 ^ 64 by omega), Nat.mod_eq_of_lt (show q < 2 ^ 64 by omega), IntKind.wrap_i64]
  omega

theorem andNot64 : ∀ k : Nat, k < 6 → ∀ a : Nat, a < 64 → a % 2 ^ k = 0 → bits BinOp.andNot IntKind.i64 (a : Int) ((2 ^ k : Nat) : Int) = ((a - a % 2 ^ (k + 1) : Nat) : Int) := by decide +kernel
theorem shw64 {k : Nat} (hk : k ≤ 6) : IntKind.i64.wrap ((2 : Int) ^ k) = ((2 ^ k : Nat) : Int) := by
  have h1 : ((2 : Int) ^ k) = ((2 ^ k : Nat) : Int) := by simp
  have h2 : 2 ^ k ≤ 2 ^ 6 := Nat.pow_le_pow_right (by decide) hk
  rw [h1]
  generalize 2 ^ k = q at *
  rw [IntKind.wrap_i64]
  omega
theorem merge_stop {f : Nat → List Nat} {a n k : Nat} (h : ¬ (k < 6 ∧ a ^^^ 2 ^ k ∈ f k)) : mergeF f a n k = upd f k (putN (f k) a) := by
  cases n with
  | zero => rfl
  | succ n => unfold mergeF; rw [if_neg h]
theorem merge_go {f : Nat → List Nat} {a n k : Nat} (h1 : k < 6) (h2 : a ^^^ 2 ^ k ∈ f k) (hn : 6 ≤ k + n) : ∃ n', 6 ≤ k + 1 + n' ∧ mergeF f a n k = mergeF (upd f k ((f k).erase (a ^^^ 2 ^ k))) (a - a % 2 ^ (k + 1)) n' (k + 1) := by
  cases n with
  | zero => omega
  | succ n => exact ⟨n, by omega, by rw [mergeF, if_pos ⟨h1, h2⟩]⟩

set_option maxRecDepth 100000 in
set_option maxHeartbeats 8000000 in
theorem bback_any {p m : Nat} {S : Nat → Prop} {fr : Nat → List Nat} {ln : Nat → Option Nat} (x : Int) (w : World) (hB : BudIs w p S fr ln m) (H : Bud fr ln []) (hx : W64 x) (hS : ∀ b, w.heap.size ≤ b → S b) :
    Calls Tryd.prog 20 #[.pointer (some ⟨p, 0, none⟩), .int .i64 x] w fun e w' => e = .returned (errV (backBE ln x)) ∧ BudIs w' p S (backBF fr ln x) (backBL ln x) m ∧ Kp S w w' := by
  have HBB := hide hB
  obtain ⟨hp, vf, bm, h, hbm, hvS⟩ := hB
  have c7 := h.cellM
  have HLK := hide (h.map.look hx)
  have z1 := h.blk.lt
  cases hl : lnI ln x with
  | none =>
    have HR := hide (show backBE ln x = 5 ∧ backBF fr ln x = fr ∧ backBL ln x = ln by unfold backBE backBF backBL; rw [hl]; exact ⟨rfl, rfl, rfl⟩)
    rw [hl] at HLK
    have hlk : (Instr.lookup 65 (.map (some bm)) (.int .i64 x) true).run Tryd.prog w = .ok (.tuple #[.int .i64 0, .bool false]) w := HLK.out
    clear hl h hbm hvS hp H hS hx HLK
    go_enter Tryd.func20, Tryd.ntmps20
    go_wp2
    go_ret
    exact ⟨by rw [HR.out.1]; rfl, by rw [HR.out.2.1, HR.out.2.2]; exact HBB.out, Kp.refl _ _⟩
  | some k0 =>
    obtain ⟨a0, rfl⟩ : ∃ a : Nat, x = a := ⟨x.toNat, by
      unfold lnI at hl
      split at hl
      · omega
      · cases hl⟩
    have hla : ln a0 = some k0 := by rw [lnI_nat] at hl; exact hl
    have hal := H.lal a0 k0 hla
    have HR := hide (show backBE ln (a0 : Int) = 0 ∧ backBF fr ln (a0 : Int) = mergeF fr a0 6 k0 ∧ backBL ln (a0 : Int) = upd ln a0 none by unfold backBE backBF backBL; rw [hl]; exact ⟨rfl, by simp, by simp⟩)
    rw [hl] at HLK
    have hlk : (Instr.lookup 65 (.map (some bm)) (.int .i64 (a0 : Int)) true).run Tryd.prog w = .ok (.tuple #[.int .i64 (k0 : Int), .bool true]) w := HLK.out
    have HH0 := hide (H.back hla)
    obtain ⟨w4, hdl, hmap, hk4⟩ := h.map.del a0 (by omega) 0
    have HB4 := hide (show BudIs w4 p S fr (upd ln a0 none) m from ⟨hp, vf, bm, ⟨h.blk.kp hk4 (Ne.symm h.mapNe), fun k hk => own_kp (h.own k hk) hk4 fun b hb e => by unfold At at e; subst e; exact h.mapNeRow hk hb, h.ap, hmap⟩, hbm, hvS⟩)
    have HK4 := hide (show Kp S w w4 from hk4.mono fun b _ e => by unfold At at e; subst e; exact hbm)
    have HS := hide hS
    have hk06 := hal.1
    have ha064 := hal.2.2
    clear hl h hbm hvS hp H hS hx HLK hla hal hmap hk4
    go_enter Tryd.func20, Tryd.ntmps20
    go_wp2_with fail
    go_loopw [1, 5] (fun s1 s5 wr => ∃ (a k n : Nat) (f : Nat → List Nat), s1 = .int .i64 a ∧ s5 = .int .i64 k ∧ k ≤ 6 ∧ a < 64 ∧ Hid (BudIs wr p S f (upd ln a0 none) m) ∧ Hid (Bud f (upd ln a0 none) [(a, k)]) ∧ Hid (6 ≤ k + n ∧ mergeF f a n k = mergeF fr a0 6 k0) ∧ Hid (Kp S w wr)) (fun _ s5 _ => 7 - (intOf s5).toNat)
    case atStart => exact ⟨a0, k0, 6, fr, rfl, rfl, hk06, ha064, HB4.out, HH0.out, ⟨by omega, rfl⟩, HK4.out⟩
    case round =>
      obtain ⟨a, k, n, f, rfl, rfl, hk6, ha, hf, hbud, hmg, hkw⟩ := hrel
      have hws := hkw.out.size
      have HF1 := hide hf.out
      have HPUT := hide (bput_any k a wr HF1.out hk6 (by omega) (hbud.out.rising k) (hbud.out.len hk6) fun b hb => HS.out b (Nat.le_trans hws hb))
      have HEND := hide (fun (h : ¬ (k < 6 ∧ a ^^^ 2 ^ k ∈ f k)) => show upd f k (putN (f k) a) = mergeF fr a0 6 k0 from (merge_stop h).symm.trans hmg.out.2)
      by_cases hk : k < 6
      · obtain ⟨hp, vf, bm, h, hbm, hvS⟩ := hf.out
        have HP := hide hp
        have HM := hide hbm
        have HVS := hide hvS
        have HA := hide h
        obtain ⟨e0, A, c, hv, hc, hmx, _⟩ := own_form (h.own k hk6)
        clear e0
        rw [iv_length, ni_length] at hv hc
        have hcl := h.cell hk6
        rw [hv] at hcl
        obtain ⟨b1, f1⟩ := hcl
        have z1 := h.blk.lt
        have HV := hide hv
        have hk7 : (k : Int) < 7 := by omega
        have hk6' : (k : Int) < 6 := by omega
        have HBS := hide (bsearch_any (a ^^^ 2 ^ k) wr.drew (own_kp (h.own k hk6) (Kp.refl No wr).drew fun _ _ h => h) (hbud.out.rising k) (by have := hbud.out.len hk6; omega))
        rw [hv] at HBS
        have HERA := hide (fun hm => erase_idx (a := a ^^^ 2 ^ k) (hbud.out.rising k) hm)
        have HMER := hide (fun hm => hbud.out.merge hk hm)
        have HMG := hide hmg.out.2
        have HBR := hide (And.intro (hbud.out.rising k) (hbud.out.len hk6))
        have HGO := hide (fun hm => merge_go (a := a) (f := f) (n := n) hk hm hmg.out.1)
        have hal := (hbud.out.hal _ (List.mem_singleton.2 rfl)).2
        simp only at hal
        have hsh := shw64 (k := k) hk6
        have hxo := xor64 ha hk6 _ rfl
        rw [show ((2 : Int) ^ k) = ((2 ^ k : Nat) : Int) by simp] at hxo
        have han := andNot64 k hk a ha hal.1
        have hC64 : a - a % 2 ^ (k + 1) < 64 := by omega
        obtain ⟨P, hP⟩ : ∃ P, (2 ^ k : Nat) = P := ⟨_, rfl⟩
        obtain ⟨B, hB⟩ : ∃ B, a ^^^ 2 ^ k = B := ⟨_, rfl⟩
        obtain ⟨C, hC⟩ : ∃ C, a - a % 2 ^ (k + 1) = C := ⟨_, rfl⟩
        rw [hB] at hxo HBS HEND HERA HMER HGO
        rw [hC] at han HMER hC64 HGO
        rw [hP] at hsh hxo han
        clear hB hC hP hv h hp hbm hvS hal hf hbud hmg
        go_wp2_with fail
        refine plan_start 16 (by kernel_rfl) rfl (fun hPT => ?_)
        refine plan_take (i := 0) (v := ?_) rfl (by kernel_rfl) (by kernel_rfl) (by kernel_rfl) (fun _ _ _ h => h) hPT (by rfl) ?_ ?_
        rotate_left
        · (intro w; go_simp; with_reducible rfl)
        (clear hPT; intro hPT; simp only [List.getElem_toArray, List.getElem_cons_zero, List.getElem_cons_succ, Act.put, List.setIfInBounds_toArray, List.set_cons_zero, List.set_cons_succ])
        refine plan_take (i := 1) (v := ?_) rfl (by kernel_rfl) (by kernel_rfl) (by kernel_rfl) (fun _ _ _ h => h) hPT (by rfl) ?_ ?_
        rotate_left
        · (intro w; go_simp; with_reducible rfl)
        (clear hPT; intro hPT; simp only [List.getElem_toArray, List.getElem_cons_zero, List.getElem_cons_succ, Act.put, List.setIfInBounds_toArray, List.set_cons_zero, List.set_cons_succ])
        refine plan_take (i := 2) (v := ?_) rfl (by kernel_rfl) (by kernel_rfl) (by kernel_rfl) (fun _ _ _ h => h) hPT (by rfl) ?_ ?_
        rotate_left
        · (intro w; go_simp; with_reducible rfl)
        (clear hPT; intro hPT; simp only [List.getElem_toArray, List.getElem_cons_zero, List.getElem_cons_succ, Act.put, List.setIfInBounds_toArray, List.set_cons_zero, List.set_cons_succ])
        refine plan_take (i := 3) (v := ?_) rfl (by kernel_rfl) (by kernel_rfl) (by kernel_rfl) (fun _ _ _ h => h) hPT (by rfl) ?_ ?_
        rotate_left
        · (intro w; go_simp; with_reducible rfl)
        (clear hPT; intro hPT; simp only [List.getElem_toArray, List.getElem_cons_zero, List.getElem_cons_succ, Act.put, List.setIfInBounds_toArray, List.set_cons_zero, List.set_cons_succ])
        refine plan_take (i := 4) (v := ?_) rfl (by kernel_rfl) (by kernel_rfl) (by kernel_rfl) (fun _ _ _ h => h) hPT (by rfl) ?_ ?_
        rotate_left
        · (intro w; go_simp; with_reducible rfl)
        (clear hPT; intro hPT; simp only [List.getElem_toArray, List.getElem_cons_zero, List.getElem_cons_succ, Act.put, List.setIfInBounds_toArray, List.set_cons_zero, List.set_cons_succ])
        refine plan_take (i := 6) (v := ?_) rfl (by kernel_rfl) (by kernel_rfl) (by kernel_rfl) (fun _ _ _ h => h) hPT (by rfl) ?_ ?_
        rotate_left
        · (intro w; go_simp; with_reducible rfl)
        (clear hPT; intro hPT; simp only [List.getElem_toArray, List.getElem_cons_zero, List.getElem_cons_succ, Act.put, List.setIfInBounds_toArray, List.set_cons_zero, List.set_cons_succ])
        refine plan_take (i := 7) (v := ?_) rfl (by kernel_rfl) (by kernel_rfl) (by kernel_rfl) (fun _ _ _ h => h) hPT (by rfl) ?_ ?_
        rotate_left
        · (intro w; go_simp; with_reducible rfl)
        (clear hPT; intro hPT; simp only [List.getElem_toArray, List.getElem_cons_zero, List.getElem_cons_succ, Act.put, List.setIfInBounds_toArray, List.set_cons_zero, List.set_cons_succ])
        refine plan_take (i := 8) (v := ?_) rfl (by kernel_rfl) (by kernel_rfl) (by kernel_rfl) (fun _ _ _ h => h) hPT (by rfl) ?_ ?_
        rotate_left
        · (intro w; go_simp; with_reducible rfl)
        (clear hPT; intro hPT; simp only [List.getElem_toArray, List.getElem_cons_zero, List.getElem_cons_succ, Act.put, List.setIfInBounds_toArray, List.set_cons_zero, List.set_cons_succ])
        refine plan_take (i := 9) (v := ?_) rfl (by kernel_rfl) (by kernel_rfl) (by kernel_rfl) (fun _ _ _ h => h) hPT (by rfl) ?_ ?_
        rotate_left
        · (intro w; go_simp; with_reducible rfl)
        (clear hPT; intro hPT; simp only [List.getElem_toArray, List.getElem_cons_zero, List.getElem_cons_succ, Act.put, List.setIfInBounds_toArray, List.set_cons_zero, List.set_cons_succ])
        refine plan_load (fun w' => w'.cell? ⟨p, k, none⟩ = some (.slice A (f k).length c)) (i := 5) (v := ?_) rfl (by kernel_rfl) (by kernel_rfl) (by kernel_rfl) (fun _ _ _ h => h) hPT (by rfl) ?_ ?_ ?_
        rotate_left
        · (first | assumption | (go_simp; done))
        · (intro w hSw; (try dsimp only at hSw); go_simp; with_reducible rfl)
        (clear hPT; intro hPT; simp only [List.getElem_toArray, List.getElem_cons_zero, List.getElem_cons_succ, Act.put, List.setIfInBounds_toArray, List.set_cons_zero, List.set_cons_succ])
        refine plan_one (i := 10) (by kernel_rfl) rfl (by rfl) (fun K hK => ?_)
        (try simp only [List.getElem_toArray, List.getElem_cons_zero, List.getElem_cons_succ, Act.put, List.setIfInBounds_toArray, List.set_cons_zero, List.set_cons_succ])
        go_simp
        refine Calls.mono HBS.out ?_
        rintro e w5 ⟨rfl, q, rfl⟩
        refine hK.out _ _ _ (t_cons (((Kp.refl No wr).drew.drewN q).cell b1 (fun h => h)) (t_nil _)) k_same (fun hPT' => ?_)
        (clear hPT hK K; have hPT := hPT'; clear hPT'; try simp only [List.getElem_toArray, List.getElem_cons_zero, List.getElem_cons_succ, Act.put, List.setIfInBounds_toArray, List.set_cons_zero, List.set_cons_succ])
        refine plan_take (i := 11) (v := ?_) rfl (by kernel_rfl) (by kernel_rfl) (by kernel_rfl) (fun _ _ _ h => h) hPT (by rfl) ?_ ?_
        rotate_left
        · (intro w; go_simp; with_reducible rfl)
        (clear hPT; intro hPT; simp only [List.getElem_toArray, List.getElem_cons_zero, List.getElem_cons_succ, Act.put, List.setIfInBounds_toArray, List.set_cons_zero, List.set_cons_succ])
        refine plan_take (i := 12) (v := ?_) rfl (by kernel_rfl) (by kernel_rfl) (by kernel_rfl) (fun _ _ _ h => h) hPT (by rfl) ?_ ?_
        rotate_left
        · (intro w; go_simp; with_reducible rfl)
        (clear hPT; intro hPT; simp only [List.getElem_toArray, List.getElem_cons_zero, List.getElem_cons_succ, Act.put, List.setIfInBounds_toArray, List.set_cons_zero, List.set_cons_succ])
        refine plan_take (i := 13) (v := ?_) rfl (by kernel_rfl) (by kernel_rfl) (by kernel_rfl) (fun _ _ _ h => h) hPT (by rfl) ?_ ?_
        rotate_left
        · (intro w; go_simp; with_reducible rfl)
        (clear hPT; intro hPT; simp only [List.getElem_toArray, List.getElem_cons_zero, List.getElem_cons_succ, Act.put, List.setIfInBounds_toArray, List.set_cons_zero, List.set_cons_succ])
        refine plan_take (i := 14) (v := ?_) rfl (by kernel_rfl) (by kernel_rfl) (by kernel_rfl) (fun _ _ _ h => h) hPT (by rfl) ?_ ?_
        rotate_left
        · (intro w; go_simp; with_reducible rfl)
        (clear hPT; intro hPT; simp only [List.getElem_toArray, List.getElem_cons_zero, List.getElem_cons_succ, Act.put, List.setIfInBounds_toArray, List.set_cons_zero, List.set_cons_succ])
        refine plan_take (i := 15) (v := ?_) rfl (by kernel_rfl) (by kernel_rfl) (by kernel_rfl) (fun _ _ _ h => h) hPT (by rfl) ?_ ?_
        rotate_left
        · (intro w; go_simp; with_reducible rfl)
        (clear hPT; intro hPT; simp only [List.getElem_toArray, List.getElem_cons_zero, List.getElem_cons_succ, Act.put, List.setIfInBounds_toArray, List.set_cons_zero, List.set_cons_succ])
        refine plan_done (by kernel_rfl) ?_ _
        clear hPT
        have b2 := ((Kp.refl No wr).drew.drewN q).cell b1 (fun h => h)
        by_cases hm : B ∈ f k
        · have HM1 := hide (HERA.out hm)
          have HM2 := hide (HMER.out hm)
          obtain ⟨n', HG1, HG2⟩ := HGO.out hm
          have HG := hide (And.intro HG1 HG2)
          have hd : decide (B ∈ f k) = true := decide_eq_true hm
          rw [hd]
          have hi0 := HM1.out.1
          have hi1 : (posN (f k) B : Int) + 1 ≤ (f k).length := by omega
          have hwi : IntKind.i64.wrap ((posN (f k) B : Int) + 1) = (posN (f k) B : Int) + 1 := by rw [IntKind.wrap_i64]; omega
          obtain ⟨i, hi⟩ : ∃ i, posN (f k) B = i := ⟨_, rfl⟩
          rw [hi] at HM1 hi0 hi1 hwi
          rw [hi]
          have hown : wr.ownsRow 0 3 1 (.slice A (f k).length c) (ni (f k)).length (iv (ni (f k))) := by
            have := HA.out.own k hk6
            rw [HV.out] at this
            rw [ni_length]
            exact this
          have HDL := hide (delete_any i (wr.drewN (1 + q + 1)) (own_kp hown ((Kp.refl No wr).drewN _) fun _ _ h => h) (by rw [ni_length]; exact hi0))
          clear hm hd HG1 HG2 hown HGO HERA HMER HEND hi HBS hxo
          go_wp2_with fail -- m1
          refine plan_start 16 (by kernel_rfl) rfl (fun hPT => ?_)
          refine plan_take (i := 0) (v := ?_) rfl (by kernel_rfl) (by kernel_rfl) (by kernel_rfl) (fun _ _ _ h => h) hPT (by rfl) ?_ ?_
          rotate_left
          · (intro w; go_simp; with_reducible rfl)
          (clear hPT; intro hPT; simp only [List.getElem_toArray, List.getElem_cons_zero, List.getElem_cons_succ, Act.put, List.setIfInBounds_toArray, List.set_cons_zero, List.set_cons_succ])
          refine plan_take (i := 1) (v := ?_) rfl (by kernel_rfl) (by kernel_rfl) (by kernel_rfl) (fun _ _ _ h => h) hPT (by rfl) ?_ ?_
          rotate_left
          · (intro w; go_simp; with_reducible rfl)
          (clear hPT; intro hPT; simp only [List.getElem_toArray, List.getElem_cons_zero, List.getElem_cons_succ, Act.put, List.setIfInBounds_toArray, List.set_cons_zero, List.set_cons_succ])
          refine plan_take (i := 2) (v := ?_) rfl (by kernel_rfl) (by kernel_rfl) (by kernel_rfl) (fun _ _ _ h => h) hPT (by rfl) ?_ ?_
          rotate_left
          · (intro w; go_simp; with_reducible rfl)
          (clear hPT; intro hPT; simp only [List.getElem_toArray, List.getElem_cons_zero, List.getElem_cons_succ, Act.put, List.setIfInBounds_toArray, List.set_cons_zero, List.set_cons_succ])
          refine plan_take (i := 3) (v := ?_) rfl (by kernel_rfl) (by kernel_rfl) (by kernel_rfl) (fun _ _ _ h => h) hPT (by rfl) ?_ ?_
          rotate_left
          · (intro w; go_simp; with_reducible rfl)
          (clear hPT; intro hPT; simp only [List.getElem_toArray, List.getElem_cons_zero, List.getElem_cons_succ, Act.put, List.setIfInBounds_toArray, List.set_cons_zero, List.set_cons_succ])
          refine plan_take (i := 4) (v := ?_) rfl (by kernel_rfl) (by kernel_rfl) (by kernel_rfl) (fun _ _ _ h => h) hPT (by rfl) ?_ ?_
          rotate_left
          · (intro w; go_simp; with_reducible rfl)
          (clear hPT; intro hPT; simp only [List.getElem_toArray, List.getElem_cons_zero, List.getElem_cons_succ, Act.put, List.setIfInBounds_toArray, List.set_cons_zero, List.set_cons_succ])
          refine plan_take (i := 5) (v := ?_) rfl (by kernel_rfl) (by kernel_rfl) (by kernel_rfl) (fun _ _ _ h => h) hPT (by rfl) ?_ ?_
          rotate_left
          · (intro w; go_simp; with_reducible rfl)
          (clear hPT; intro hPT; simp only [List.getElem_toArray, List.getElem_cons_zero, List.getElem_cons_succ, Act.put, List.setIfInBounds_toArray, List.set_cons_zero, List.set_cons_succ])
          refine plan_take (i := 6) (v := ?_) rfl (by kernel_rfl) (by kernel_rfl) (by kernel_rfl) (fun _ _ _ h => h) hPT (by rfl) ?_ ?_
          rotate_left
          · (intro w; go_simp; with_reducible rfl)
          (clear hPT; intro hPT; simp only [List.getElem_toArray, List.getElem_cons_zero, List.getElem_cons_succ, Act.put, List.setIfInBounds_toArray, List.set_cons_zero, List.set_cons_succ])
          refine plan_take (i := 8) (v := ?_) rfl (by kernel_rfl) (by kernel_rfl) (by kernel_rfl) (fun _ _ _ h => h) hPT (by rfl) ?_ ?_
          rotate_left
          · (intro w; go_simp; with_reducible rfl)
          (clear hPT; intro hPT; simp only [List.getElem_toArray, List.getElem_cons_zero, List.getElem_cons_succ, Act.put, List.setIfInBounds_toArray, List.set_cons_zero, List.set_cons_succ])
          refine plan_take (i := 9) (v := ?_) rfl (by kernel_rfl) (by kernel_rfl) (by kernel_rfl) (fun _ _ _ h => h) hPT (by rfl) ?_ ?_
          rotate_left
          · (intro w; go_simp; with_reducible rfl)
          (clear hPT; intro hPT; simp only [List.getElem_toArray, List.getElem_cons_zero, List.getElem_cons_succ, Act.put, List.setIfInBounds_toArray, List.set_cons_zero, List.set_cons_succ])
          refine plan_take (i := 10) (v := ?_) rfl (by kernel_rfl) (by kernel_rfl) (by kernel_rfl) (fun _ _ _ h => h) hPT (by rfl) ?_ ?_
          rotate_left
          · (intro w; go_simp; with_reducible rfl)
          (clear hPT; intro hPT; simp only [List.getElem_toArray, List.getElem_cons_zero, List.getElem_cons_succ, Act.put, List.setIfInBounds_toArray, List.set_cons_zero, List.set_cons_succ])
          refine plan_take (i := 12) (v := ?_) rfl (by kernel_rfl) (by kernel_rfl) (by kernel_rfl) (fun _ _ _ h => h) hPT (by rfl) ?_ ?_
          rotate_left
          · (intro w; go_simp; with_reducible rfl)
          (clear hPT; intro hPT; simp only [List.getElem_toArray, List.getElem_cons_zero, List.getElem_cons_succ, Act.put, List.setIfInBounds_toArray, List.set_cons_zero, List.set_cons_succ])
          refine plan_take (i := 13) (v := ?_) rfl (by kernel_rfl) (by kernel_rfl) (by kernel_rfl) (fun _ _ _ h => h) hPT (by rfl) ?_ ?_
          rotate_left
          · (intro w; go_simp; with_reducible rfl)
          (clear hPT; intro hPT; simp only [List.getElem_toArray, List.getElem_cons_zero, List.getElem_cons_succ, Act.put, List.setIfInBounds_toArray, List.set_cons_zero, List.set_cons_succ])
          refine plan_load (fun w' => w'.cell? ⟨p, k, none⟩ = some (.slice A (f k).length c)) (i := 7) (v := ?_) rfl (by kernel_rfl) (by kernel_rfl) (by kernel_rfl) (fun _ _ _ h => h) hPT (by rfl) ?_ ?_ ?_
          rotate_left
          · (first | assumption | (go_simp; done))
          · (intro w hSw; (try dsimp only at hSw); go_simp; with_reducible rfl)
          (clear hPT; intro hPT; simp only [List.getElem_toArray, List.getElem_cons_zero, List.getElem_cons_succ, Act.put, List.setIfInBounds_toArray, List.set_cons_zero, List.set_cons_succ])
          refine plan_one (i := 11) (by kernel_rfl) rfl (by rfl) (fun K hK => ?_)
          (try simp only [List.getElem_toArray, List.getElem_cons_zero, List.getElem_cons_succ, Act.put, List.setIfInBounds_toArray, List.set_cons_zero, List.set_cons_succ])
          go_simp
          refine Calls.mono HDL.out ?_
          rintro e w6 ⟨g', c', hv, rfl, ho, hk6'⟩
          have e1 : (ni (f k)).length - 1 = ((f k).erase B).length := by rw [ni_length, ← HM1.out.2, List.length_eraseIdx, if_pos hi0]
          have e2 : (ni (f k)).eraseIdx i = ni ((f k).erase B) := by rw [← HM1.out.2, ni_erase]
          rw [e1, e2] at ho
          rw [e1]
          rw [ni_length] at hv
          injection hv with hv1 hv2 hv3
          subst hv3
          have hA : A = some ⟨g', 0, none⟩ := hv1
          have hkp : Kp (fun b => (vf k).ownBlock = some b) wr w6 := ((Kp.refl No wr).drewN _).of_no.trans' hk6' fun b _ e => by unfold At at e; subst e; rw [HV.out, hA]; rfl
          have hws' := hws
          have HRP := hide (BudIs.rput (l := (f k).erase B) (w' := w6) (v' := .slice (some ⟨g', 0, none⟩) ((f k).erase B).length c) HA.out HP.out HM.out HVS.out (fun b hb => HS.out b (Nat.le_trans hws hb)) hk6 hkp ho fun b hb => .inl (by rw [HV.out, hA]; exact hb))
          have hb2 := HA.out.blk.kp hkp (HA.out.rowNe hk6)
          have z2 : w6.cell? ⟨p, k, none⟩ = some (.slice A (f k).length c) := by rw [hb2.cell, bcells_get hk6, HV.out]
          have z3 : w6.frozen? ⟨p, k, none⟩ = false := hb2.free k
          clear ho hk6' hkp hb2 e1 e2 hv1 hv2 hA hwi hws'
          refine hK.out _ _ _ (t_cons z2 (t_nil _)) k_same (fun hPT' => ?_)
          (clear hPT hK K; have hPT := hPT'; clear hPT'; try simp only [List.getElem_toArray, List.getElem_cons_zero, List.getElem_cons_succ, Act.put, List.setIfInBounds_toArray, List.set_cons_zero, List.set_cons_succ])
          refine plan_take (i := 14) (v := ?_) rfl (by kernel_rfl) (by kernel_rfl) (by kernel_rfl) (fun _ _ _ h => h) hPT (by rfl) ?_ ?_
          rotate_left
          · (intro w; go_simp; with_reducible rfl)
          (clear hPT; intro hPT; simp only [List.getElem_toArray, List.getElem_cons_zero, List.getElem_cons_succ, Act.put, List.setIfInBounds_toArray, List.set_cons_zero, List.set_cons_succ])
          refine plan_one (i := 15) (by kernel_rfl) rfl (by rfl) (fun K hK => ?_)
          (try simp only [List.getElem_toArray, List.getElem_cons_zero, List.getElem_cons_succ, Act.put, List.setIfInBounds_toArray, List.set_cons_zero, List.set_cons_succ])
          go_simp
          refine hK.out [] _ _ (t_nil _) (k_drop (by kernel_rfl) k_nil) (fun hPT' => ?_)
          (clear hPT hK K; have hPT := hPT'; clear hPT'; try simp only [List.getElem_toArray, List.getElem_cons_zero, List.getElem_cons_succ, Act.put, List.setIfInBounds_toArray, List.set_cons_zero, List.set_cons_succ])
          refine plan_done (by kernel_rfl) ?_ _
          clear hPT
          obtain ⟨w7, hw7⟩ : ∃ w7, w6.setCell ⟨p, k, none⟩ (.slice (some ⟨g', 0, none⟩) ((f k).erase B).length c) = w7 := ⟨_, rfl⟩
          rw [hw7] at HRP ⊢
          clear hw7 z2 z3 b1 f1 b2
          have HKN := hide (hkw.out.trans HRP.out.2)
          clear hws
          go_wp2_with fail
          go_roundw
          case rel => exact ⟨C, k + 1, n', upd f k ((f k).erase B), (by first | rfl | rw [han]), by go_num, by omega, hC64, HRP.out.1, HM2.out, ⟨HG.out.1, by rw [← HG.out.2]; exact HMG.out⟩, HKN.out⟩
          case measure => (simp [intOf]; omega)
        · have HE := hide (HEND.out fun h => hm h.2)
          have hd : decide (B ∈ f k) = false := decide_eq_false hm
          rw [hd]
          obtain ⟨i, hi⟩ : ∃ i, posN (f k) B = i := ⟨_, rfl⟩
          rw [hi]
          have HP2 := hide (bput_any k a (wr.drewN (1 + q)) (HF1.out.no ((Kp.refl No wr).drewN _)) hk6 (by omega) (HBR.out.1) HBR.out.2 fun b hb => HS.out b (Nat.le_trans hws (by simpa using hb)))
          clear hm hd HGO HERA HMER HEND hi HBS hxo b1 f1 b2
          go_wp2_with fail
          refine Calls.mono HP2.out ?_
          rintro e w5 ⟨rfl, hf5, hk5⟩
          have HF5 := hide hf5
          have HK5 := hide ((hkw.out.trans ((Kp.refl No wr).drewN _).of_no).trans hk5)
          clear hf5 hk5
          go_wp2
          go_ret
          refine ⟨by rw [HR.out.1]; rfl, ?_, HK5.out⟩
          rw [HR.out.2.1, HR.out.2.2, ← HE.out]
          exact HF5.out
      · obtain rfl : k = 6 := by omega
        have HE := hide (HEND.out (by omega))
        clear HEND hf hbud hmg HF1
        go_wp2_with fail
        refine Calls.mono HPUT.out ?_
        rintro e w5 ⟨rfl, hf5, hk5⟩
        have HF5 := hide hf5
        have HK5 := hide (hkw.out.trans hk5)
        clear hf5 hk5
        go_wp2
        go_ret
        refine ⟨by rw [HR.out.1]; rfl, ?_, HK5.out⟩
        rw [HR.out.2.1, HR.out.2.2, ← HE.out]
        exact HF5.out
end Go.Proofs.YtibdddkcjijlaaaDoor
