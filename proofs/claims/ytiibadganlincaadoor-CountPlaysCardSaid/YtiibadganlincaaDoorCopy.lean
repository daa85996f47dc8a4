/- cheney.Copy and the closure inside it: what they return, for every heap that is no more than it may be. -/
import Derived.Test.YtiibadganlincaaDoorCheck
namespace Go.Proofs.YtiibadganlincaaDoor
open Go.RowKit

/-! ### plain functions -/
def fwdStep (o : List Int) (x : Int) : List Int := if x ∈ o then o else o ++ [x]
def fwd (o xs : List Int) : List Int := xs.foldl fwdStep o
def nums (o xs : List Int) : List Int := xs.map fun x => ((fwd o xs).idxOf x : Int)
/-- ints as values -/
def iv (xs : List Int) : List Value := xs.map (Value.int .i64)

theorem iv_snoc (xs : List Int) (x : Int) : iv (xs ++ [x]) = iv xs ++ [.int .i64 x] := by simp [iv]
theorem iv_length (xs : List Int) : (iv xs).length = xs.length := by simp [iv]

theorem fwd_snoc (o xs : List Int) (x : Int) : fwd o (xs ++ [x]) = fwdStep (fwd o xs) x := by simp [fwd]
theorem mem_fwdStep {o : List Int} {x y : Int} : y ∈ fwdStep o x ↔ y ∈ o ∨ y = x := by
  unfold fwdStep; split
  · rename_i h; exact ⟨.inl, fun h' => h'.elim id (fun e => e ▸ h)⟩
  · simp
theorem fwdStep_prefix (o : List Int) (x : Int) : o <+: fwdStep o x := by
  unfold fwdStep; split
  · exact List.prefix_refl _
  · exact List.prefix_append _ _
theorem fwd_prefix (o xs : List Int) : o <+: fwd o xs := by
  unfold fwd
  induction xs generalizing o with
  | nil => exact List.prefix_refl _
  | cons x xs ih => exact (fwdStep_prefix o x).trans (ih _)
theorem mem_fwd {o xs : List Int} {y : Int} : y ∈ fwd o xs ↔ y ∈ o ∨ y ∈ xs := by
  unfold fwd
  induction xs generalizing o with
  | nil => simp
  | cons x xs ih => simp only [List.foldl_cons, ih, mem_fwdStep, List.mem_cons, or_assoc]
theorem fwd_append (o xs ys : List Int) : fwd o (xs ++ ys) = fwd (fwd o xs) ys := by simp [fwd]
theorem nodup_fwdStep {o : List Int} (h : o.Nodup) (x : Int) : (fwdStep o x).Nodup := by
  unfold fwdStep; split
  · exact h
  · rename_i hx
    rw [List.nodup_append]
    exact ⟨h, by simp, fun a ha b hb => by simp at hb; subst hb; rintro rfl; exact hx ha⟩
theorem nodup_fwd {o : List Int} (h : o.Nodup) (xs : List Int) : (fwd o xs).Nodup := by
  unfold fwd
  induction xs generalizing o with
  | nil => exact h
  | cons x xs ih => exact ih (nodup_fwdStep h x)
theorem length_fwd_le (o xs : List Int) : (fwd o xs).length ≤ o.length + xs.length := by
  unfold fwd
  induction xs generalizing o with
  | nil => simp
  | cons x xs ih =>
    refine Nat.le_trans (ih _) ?_
    have : (fwdStep o x).length ≤ o.length + 1 := by unfold fwdStep; split <;> simp
    simp; omega
theorem idxOf_prefix {o p : List Int} (h : o <+: p) {x : Int} (hx : x ∈ o) : p.idxOf x = o.idxOf x := by
  obtain ⟨t, rfl⟩ := h
  rw [List.idxOf_append, if_pos hx]
theorem idxOf_fwdStep (o : List Int) (x : Int) : (fwdStep o x).idxOf x = o.idxOf x := by
  unfold fwdStep; split
  · rfl
  · rename_i hx
    rw [List.idxOf_append, if_neg hx, List.idxOf_eq_length hx]
    simp
theorem nums_snoc (o xs : List Int) (x : Int) : nums o (xs ++ [x]) = nums o xs ++ [((fwd o xs).idxOf x : Int)] := by
  unfold nums
  rw [List.map_append, fwd_snoc, List.map_cons, List.map_nil, idxOf_fwdStep]
  congr 1
  apply List.map_congr_left
  intro y hy
  rw [idxOf_prefix (fwdStep_prefix _ _) (mem_fwd.2 (.inr hy))]
theorem take_snoc_ (xs : List Int) (k : Nat) (h : k < xs.length) : xs.take (k + 1) = xs.take k ++ [xs[k]] := by
  rw [List.take_succ_eq_append_getElem h]

/-! ### the closure -/

/-- what holds at the head of a round of the closure: order's variable is block g, its row vk; 'to' is t -/
def FwdInv (w : World) (base g : Nat) (v : Value) (o xs : List Int) (k : Nat) (t : Value) (wr : World) : Prop :=
  ∃ vk, Blk wr g 25 #[vk] ∧ wr.ownsRow base 3 1 vk (fwd o (xs.take k)).length (iv (fwd o (xs.take k))) ∧
    (vk.ownBlock = v.ownBlock ∨ ∃ b, vk.ownBlock = some b ∧ w.heap.size ≤ b) ∧
    wr.ownsRow w.heap.size 3 1 t k (iv (nums o (xs.take k))) ∧ (∀ b, t.ownBlock = some b → vk.ownBlock ≠ some b) ∧
    Kp (fun k => k = g ∨ v.ownBlock = some k) w wr

def FwdPost (w : World) (base g : Nat) (v : Value) (o xs : List Int) (e : Ending) (w' : World) : Prop :=
  ∃ A c, e = .returned (.slice A xs.length c) ∧ FwdInv w base g v o xs xs.length (.slice A xs.length c) w'
theorem FwdInv.post {w : World} {base g : Nat} {v : Value} {o xs : List Int} {t : Value} {w' : World} (h : FwdInv w base g v o xs xs.length t w') : FwdPost w base g v o xs (.returned t) w' := by
  obtain ⟨vk, h1, h2, h3, h4, h5⟩ := id h
  obtain ⟨e, A, c, rfl, _⟩ := own_form h4
  have e2 : (iv (nums o (xs.take xs.length))).length = xs.length := e.symm
  rw [e2] at h ⊢
  exact ⟨A, c, rfl, h⟩

theorem FwdInv.start {w : World} {base g : Nat} {v : Value} {o xs : List Int} (hb : Blk w g 25 #[v]) (hown : w.ownsRow base 3 1 v o.length (iv o)) : FwdInv w base g v o xs 0 (.slice none 0 0) w :=
  ⟨v, hb, by simpa [fwd] using hown, .inl rfl, by simpa [nums, iv] using World.ownsRow_nil w w.heap.size 3 1, fun b h => by simp [Value.ownBlock] at h, Kp.refl _ _⟩

/-- a round's end where the node was there -/
theorem FwdInv.old {w wr w1 : World} {base g : Nat} {v vk t : Value} {o xs : List Int} {k : Nat} (hlt : k < xs.length) (hx : xs[k] ∈ fwd o (xs.take k))
    (hb : Blk wr g 25 #[vk]) (hown : wr.ownsRow base 3 1 vk (fwd o (xs.take k)).length (iv (fwd o (xs.take k))))
    (hv : vk.ownBlock = v.ownBlock ∨ ∃ b, vk.ownBlock = some b ∧ w.heap.size ≤ b)
    (ht : wr.ownsRow w.heap.size 3 1 t k (iv (nums o (xs.take k)))) (hne : ∀ b, t.ownBlock = some b → vk.ownBlock ≠ some b)
    (hk : Kp (fun k => k = g ∨ v.ownBlock = some k) w wr) {g' c' : Nat} (hgw : g < w.heap.size)
    (ht' : w1.ownsRow w.heap.size 3 1 (.slice (some ⟨g', 0, none⟩) (k + 1) c') (k + 1) (iv (nums o (xs.take k)) ++ [.int .i64 (ixOf (fwd o (xs.take k)) xs[k])]))
    (hgr : (wr.alloc (.cells #[.int .i64 (ixOf (fwd o (xs.take k)) xs[k])] 3)).grownBy w1 t.ownBlock) (hat : t.ownBlock = some g' ∨ g' = wr.heap.size + 1) :
    FwdInv w base g v o xs (k + 1) (.slice (some ⟨g', 0, none⟩) (k + 1) c') w1 := by
  have e1 : fwd o (xs.take (k + 1)) = fwd o (xs.take k) := by rw [take_snoc_ xs k hlt, fwd_snoc, fwdStep, if_pos hx]
  have e2 : iv (nums o (xs.take (k + 1))) = iv (nums o (xs.take k)) ++ [.int .i64 (ixOf (fwd o (xs.take k)) xs[k])] := by
    rw [take_snoc_ xs k hlt, nums_snoc, iv_snoc, ixOf, if_pos hx]
  have htl : ∀ b, t.ownBlock = some b → w.heap.size ≤ b ∧ b < wr.heap.size := fun b h => own_lt ht h
  have hvl : ∀ b, vk.ownBlock = some b → b < wr.heap.size := fun b h => (own_lt hown h).2
  have hgr' : Kp (fun k => t.ownBlock = some k) wr w1 := ((Kp.refl _ wr).alloc _).grown hgr fun b h _ => h
  refine ⟨vk, hb.kp hgr' fun h => ?_, by rw [e1]; exact own_kp hown hgr' fun b h h' => hne b h' h, hv, by rw [e2]; exact ht', ?_, ?_⟩
  · have := (htl _ h).1; omega
  · intro b h h'
    simp only [Value.ownBlock, Option.some.injEq] at h
    subst h
    rcases hat with hat | hat
    · exact hne _ hat h'
    · have := hvl _ h'; omega
  · exact hk.trans' hgr' fun b hb h => by have := (htl _ h).1; omega

/-- a round's end where it is new -/
theorem FwdInv.new_ {w wr w1 w2 : World} {base g : Nat} {v vk t : Value} {o xs : List Int} {k : Nat} (hlt : k < xs.length) (hx : xs[k] ∉ fwd o (xs.take k))
    (hb : Blk wr g 25 #[vk]) (hown : wr.ownsRow base 3 1 vk (fwd o (xs.take k)).length (iv (fwd o (xs.take k))))
    (hv : vk.ownBlock = v.ownBlock ∨ ∃ b, vk.ownBlock = some b ∧ w.heap.size ≤ b)
    (ht : wr.ownsRow w.heap.size 3 1 t k (iv (nums o (xs.take k)))) (hne : ∀ b, t.ownBlock = some b → vk.ownBlock ≠ some b)
    (hk : Kp (fun k => k = g ∨ v.ownBlock = some k) w wr) {g1 c1 g' c' : Nat} (hgw : g < w.heap.size)
    (ho' : w1.ownsRow base 3 1 (.slice (some ⟨g1, 0, none⟩) ((fwd o (xs.take k)).length + 1) c1) ((fwd o (xs.take k)).length + 1) (iv (fwd o (xs.take k)) ++ [.int .i64 xs[k]]))
    (hgr1 : (wr.alloc (.cells #[.int .i64 xs[k]] 3)).grownBy w1 vk.ownBlock) (hat1 : vk.ownBlock = some g1 ∨ g1 = wr.heap.size + 1)
    (ht' : w2.ownsRow w.heap.size 3 1 (.slice (some ⟨g', 0, none⟩) (k + 1) c') (k + 1) (iv (nums o (xs.take k)) ++ [.int .i64 ((fwd o (xs.take k)).length : Int)]))
    (hgr : ((w1.setCell ⟨g, 0, none⟩ (.slice (some ⟨g1, 0, none⟩) ((fwd o (xs.take k)).length + 1) c1)).alloc (.cells #[.int .i64 ((fwd o (xs.take k)).length : Int)] 3)).grownBy w2 t.ownBlock)
    (hat : t.ownBlock = some g' ∨ g' = w1.heap.size + 1) :
    FwdInv w base g v o xs (k + 1) (.slice (some ⟨g', 0, none⟩) (k + 1) c') w2 := by
  have e1 : fwd o (xs.take (k + 1)) = fwd o (xs.take k) ++ [xs[k]] := by rw [take_snoc_ xs k hlt, fwd_snoc, fwdStep, if_neg hx]
  have e2 : iv (nums o (xs.take (k + 1))) = iv (nums o (xs.take k)) ++ [.int .i64 ((fwd o (xs.take k)).length : Int)] := by
    rw [take_snoc_ xs k hlt, nums_snoc, iv_snoc, List.idxOf_eq_length hx]
  have htl : ∀ b, t.ownBlock = some b → w.heap.size ≤ b ∧ b < wr.heap.size := fun b h => own_lt ht h
  have hvl : ∀ b, vk.ownBlock = some b → b < wr.heap.size := fun b h => (own_lt hown h).2
  have hvg : vk.ownBlock ≠ some g := own_ne_blk hown hb (by decide)
  have k1 : Kp (fun k => vk.ownBlock = some k) wr w1 := ((Kp.refl _ wr).alloc _).grown hgr1 fun b h _ => h
  have b1 : Blk w1 g 25 #[vk] := hb.kp k1 hvg
  have o1g : g ≠ g1 := fun e => own_ne_blk ho' b1 (by decide) (by rw [e]; rfl)
  have b2 := b1.set_ 0 (.slice (some ⟨g1, 0, none⟩) ((fwd o (xs.take k)).length + 1) c1)
  have k2 : Kp (fun k => k = g) w1 (w1.setCell ⟨g, 0, none⟩ (.slice (some ⟨g1, 0, none⟩) ((fwd o (xs.take k)).length + 1) c1)) := Kp.setCell (S := fun k => k = g) (p := ⟨g, 0, none⟩) (Kp.refl _ w1) (fun _ => rfl) _
  have k3 : Kp (fun k => t.ownBlock = some k) (w1.setCell ⟨g, 0, none⟩ (.slice (some ⟨g1, 0, none⟩) ((fwd o (xs.take k)).length + 1) c1)) w2 := ((Kp.refl _ _).alloc _).grown hgr fun b h _ => h
  have hs1 : wr.heap.size ≤ w1.heap.size := k1.size
  have tg1 : t.ownBlock ≠ some g1 := by
    intro h
    rcases hat1 with h1 | h1
    · exact hne _ h h1
    · have := (htl _ h).2; omega
  refine ⟨.slice (some ⟨g1, 0, none⟩) ((fwd o (xs.take k)).length + 1) c1, b2.kp k3 fun h => ?_, ?_, ?_, by rw [e2]; exact ht', ?_, ?_⟩
  · have := (htl _ h).1; omega
  · rw [e1, iv_snoc, List.length_append, List.length_singleton]
    refine own_kp (own_kp ho' k2 fun b h e => o1g ?_) k3 fun b h h' => ?_
    · simp only [Value.ownBlock, Option.some.injEq] at h; omega
    · simp only [Value.ownBlock, Option.some.injEq] at h; subst h; exact tg1 h'
  · rcases hat1 with h1 | h1
    · rcases hv with hv | ⟨b, hv, hb'⟩
      · exact .inl (by rw [← hv, h1]; rfl)
      · exact .inr ⟨g1, rfl, by rw [h1] at hv; injection hv with hv; omega⟩
    · exact .inr ⟨g1, rfl, by have := hk.size; omega⟩
  · intro b h h'
    simp only [Value.ownBlock, Option.some.injEq] at h h'
    subst h
    rcases hat with hat | hat
    · exact tg1 (by rw [hat, h'])
    · rcases hat1 with h1 | h1
      · have := hvl _ h1; omega
      · have : g1 < w1.heap.size := (own_lt ho' rfl).2
        omega
  · refine ((hk.trans' k1 fun b hb h => ?_).trans' k2 fun b _ h => .inl h).trans' k3 fun b hb h => ?_
    · rcases hv with hv | ⟨b', hv, hb'⟩
      · exact .inr (by rw [← hv]; exact h)
      · rw [hv] at h; injection h with h; omega
    · have := (htl _ h).1; omega

theorem FwdInv.mid {w wr w1 : World} {g k : Nat} {vk t u : Value} {ws : List Value}

    (ht : wr.ownsRow w.heap.size 3 1 t k ws) (hne : ∀ b, t.ownBlock = some b → vk.ownBlock ≠ some b)
    (hgr1 : (wr.alloc (.cells #[u] 3)).grownBy w1 vk.ownBlock) (hgw : g < w.heap.size) (x : Value) : (w1.setCell ⟨g, 0, none⟩ x).ownsRow w.heap.size 3 1 t k ws := by
  have k1 : Kp (fun k => vk.ownBlock = some k) wr w1 := ((Kp.refl _ wr).alloc _).grown hgr1 fun b h _ => h
  have k2 : Kp (fun k => k = g) w1 (w1.setCell ⟨g, 0, none⟩ x) := Kp.setCell (S := fun k => k = g) (p := ⟨g, 0, none⟩) (Kp.refl _ w1) (fun _ => rfl) _
  exact own_kp (own_kp ht k1 fun b h h' => hne b h h') k2 fun b h e => by have := (own_lt ht h).1; omega

set_option maxHeartbeats 1000000
set_option maxRecDepth 10000

end Go.Proofs.YtiibadganlincaaDoor
