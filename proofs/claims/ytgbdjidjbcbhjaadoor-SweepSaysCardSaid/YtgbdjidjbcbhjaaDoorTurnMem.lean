/- sweep.Turn's memory: pointers that are turned, how far each node is, what is marked, and in which order; and the closure that marks. -/
import Derived.Test.YtgbdjidjbcbhjaaDoorTurnPlain
import Derived.Test.YtgbdjidjbcbhjaaDoorHeapOut
import Derived.Test.YtgbdjidjbcbhjaaDoorSweepMark0
namespace Go.Proofs.YtgbdjidjbcbhjaaDoor
open Go.RowKit
set_option linter.unusedSimpArgs false

/-- numbers as ints -/
def nz (p : List Nat) : List Int := p.map fun (n : Nat) => (n : Int)
theorem nz_length (p : List Nat) : (nz p).length = p.length := by simp [nz]
theorem nz_set (p : List Nat) (k v : Nat) : nz (p.set k v) = (nz p).set k (v : Int) := by simp [nz, List.map_set]
theorem nz_get {p : List Nat} {k : Nat} (h : k < p.length) : (nz p)[k]'(by rw [nz_length]; exact h) = (p[k] : Int) := by simp [nz]
theorem ax_get {p : List Nat} {x : Int} (h : x.toNat < p.length) : p[x.toNat] = ax p x := by
  unfold ax
  rw [List.getD_eq_getElem?_getD, List.getElem?_eq_getElem h]
  rfl

/-- the memory on the way -/
structure TuAt (w : World) (base gm gr : Nat) (vo va vr : Value) (vs : List Value) (O : List (List Int)) (p : List Nat) (o : List Int) : Prop where
  mb : Blk w gm 3 #[.int .i64 (orIn 0 o : Nat)]
  rb : Blk w gr 23 #[vr]
  out : w.ownsRow base 23 1 vo O.length vs
  row : ∀ i (h : i < vs.length) (h' : i < O.length), w.ownsRow base 3 1 vs[i] (O[i]).length (iv O[i])
  pos : w.ownsRow base 3 1 va p.length (iv (nz p))
  ord : w.ownsRow base 3 1 vr o.length (iv o)
  ap : Apart (vr :: va :: vs)
  far : ∀ u ∈ vr :: va :: vs, u.ownBlock ≠ some gm
  fro : vo.ownBlock ≠ some gr
  lom : base ≤ gm
  lor : base ≤ gr

section
variable {w w' : World} {base gm gr : Nat} {vo va vr : Value} {vs : List Value} {O : List (List Int)} {p : List Nat} {o : List Int}
theorem TuAt.len (h : TuAt w base gm gr vo va vr vs O p o) : vs.length = O.length := by have := h.out.1; omega
theorem TuAt.no (h : TuAt w base gm gr vo va vr vs O p o) (hk : Kp No w w') : TuAt w' base gm gr vo va vr vs O p o :=
  ⟨h.mb.kp hk id, h.rb.kp hk id, own_kp h.out hk fun _ _ h => h, fun i h1 h2 => own_kp (h.row i h1 h2) hk fun _ _ h => h, own_kp h.pos hk fun _ _ h => h, own_kp h.ord hk fun _ _ h => h, h.ap, h.far, h.fro, h.lom, h.lor⟩
/-- how far a node is is set -/
theorem TuAt.aset (h : TuAt w base gm gr vo va vr vs O p o) {g : Nat} (hg : va.ownBlock = some g) {k : Nat} (hk : k < p.length) (x : Nat) :
    TuAt (w.setCell ⟨g, k, none⟩ (.int .i64 (x : Int))) base gm gr vo va vr vs O (p.set k x) o := by
  have k1 := kp_set w g k (.int .i64 (x : Int))
  refine ⟨h.mb.kp k1 fun e => ?_, h.rb.kp k1 fun e => ?_, own_kp h.out k1 fun b hb e => ?_, fun i h1 h2 => own_kp (h.row i h1 h2) k1 fun b hb e => ?_, ?_, own_kp h.ord k1 fun b hb e => ?_, h.ap, h.far, h.fro, h.lom, h.lor⟩
  · unfold At at e; subst e; exact h.far va (by simp) hg
  · unfold At at e; subst e; exact own_ne_blk h.pos h.rb (by decide) hg
  · unfold At at e; subst e; exact own_ne_own h.pos h.out (by decide) hg hb
  · unfold At at e; subst e; exact h.ap.tail.head (List.getElem_mem h1) hg hb
  · rw [List.length_set, nz_set, iv_set]
    exact own_set h.pos hg k hk _
  · unfold At at e; subst e; exact h.ap.head (List.mem_cons_self ..) hb hg
/-- a pointer is turned -/
theorem TuAt.oset (h : TuAt w base gm gr vo va vr vs O p o) {i k : Nat} (hi : i < O.length) (hv : i < vs.length) (hk : k < (O[i]).length) {g : Nat} (hg : (vs[i]).ownBlock = some g) (x : Int) :
    TuAt (w.setCell ⟨g, k, none⟩ (.int .i64 x)) base gm gr vo va vr vs (O.set i ((O[i]).set k x)) p o := by
  have k1 := kp_set w g k (.int .i64 x)
  have hrow := h.row i hv hi
  have hvs : Apart vs := h.ap.tail.tail
  refine ⟨h.mb.kp k1 fun e => ?_, h.rb.kp k1 fun e => ?_, ?_, fun j h1 h2 => ?_, own_kp h.pos k1 fun b hb e => ?_, own_kp h.ord k1 fun b hb e => ?_, h.ap, h.far, h.fro, h.lom, h.lor⟩
  · unfold At at e; subst e; exact h.far vs[i] (by simp [List.getElem_mem]) hg
  · unfold At at e; subst e; exact own_ne_blk hrow h.rb (by decide) hg
  · rw [List.length_set]
    exact own_kp h.out k1 fun b hb e => by unfold At at e; subst e; exact own_ne_own hrow h.out (by decide) hg hb
  · rw [List.length_set] at h2
    by_cases e : i = j
    · subst e
      simp only [List.getElem_set_self]
      rw [List.length_set, iv_set]
      exact own_set hrow hg k hk _
    · rw [List.getElem_set_ne e]
      exact own_kp (h.row j h1 h2) k1 fun b hb e' => by unfold At at e'; subst e'; exact hvs.at_ hv h1 e hg hb
  · unfold At at e; subst e; exact h.ap.tail.head' (List.getElem_mem hv) hg hb
  · unfold At at e; subst e; exact h.ap.head' (List.mem_cons_of_mem _ (List.getElem_mem hv)) hg hb
/-- a node is marked -/
theorem TuAt.mark (h : TuAt w base gm gr vo va vr vs O p o) {x : Int} {g' c' : Nat} {X w2 : World} (k1 : Kp (At gm) w X) (mX : Blk X gm 3 #[.int .i64 (orIn 0 (o ++ [x]) : Nat)])
    (ho : w2.ownsRow base 3 1 (.slice (some ⟨g', 0, none⟩) (o.length + 1) c') (o.length + 1) (iv o ++ [.int .i64 x])) (hg : (X.alloc (.cells #[.int .i64 x] 3)).grownBy w2 vr.ownBlock) (hat : vr.ownBlock = some g' ∨ g' = w.heap.size + 1) :
    TuAt (w2.setCell ⟨gr, 0, none⟩ (.slice (some ⟨g', 0, none⟩) (o.length + 1) c')) base gm gr vo va (.slice (some ⟨g', 0, none⟩) (o.length + 1) c') vs O p (o ++ [x]) := by
  have k2 : Kp (fun b => vr.ownBlock = some b) X w2 := ((Kp.refl _ _).alloc _).grown hg fun b e _ => e
  have k3 := kp_set w2 gr 0 (.slice (some ⟨g', 0, none⟩) (o.length + 1) c')
  have hmg : gm ≠ gr := Blk.ne_ h.mb h.rb (by decide)
  have hrm : vr.ownBlock ≠ some gm := h.far vr (by simp)
  have hrr : vr.ownBlock ≠ some gr := own_ne_blk h.ord h.rb (by decide)
  have rb2 : Blk w2 gr 23 #[vr] := (h.rb.kp k1 fun e => by unfold At at e; omega).kp k2 hrr
  have hgx : ∀ u ∈ va :: vs, u.ownBlock ≠ some g' := fun u hu e => by
    have hul : ∀ b, u.ownBlock = some b → b < w.heap.size := fun b hb' => by
      rcases List.mem_cons.1 hu with rfl | hu
      · exact (own_lt h.pos hb').2
      · obtain ⟨i, hi, rfl⟩ := List.getElem_of_mem hu
        exact (own_lt (h.row i hi (by rw [← h.len]; exact hi)) hb').2
    rcases hat with h1 | h1
    · exact h.ap.head hu h1 e
    · have := hul _ e; omega
  have step : ∀ {u : Value} {n : Nat} {us : List Value}, w.ownsRow base 3 1 u n us → u.ownBlock ≠ some gm → (∀ b, u.ownBlock = some b → vr.ownBlock ≠ some b) → (w2.setCell ⟨gr, 0, none⟩ (.slice (some ⟨g', 0, none⟩) (o.length + 1) c')).ownsRow base 3 1 u n us := by
    intro u n us hu hf ha
    have hu2 := own_kp (own_kp hu k1 fun b hb e => by unfold At at e; subst e; exact hf hb) k2 fun b hb e => ha b hb e
    exact own_kp hu2 k3 fun b hb e => by unfold At at e; subst e; exact own_ne_blk hu2 rb2 (by decide) hb
  refine ⟨?_, rb2.set_ 0 _, ?_, fun i h1 h2 => step (h.row i h1 h2) (h.far _ (by simp [List.getElem_mem])) fun b hb => h.ap.head' (List.mem_cons_of_mem _ (List.getElem_mem h1)) hb, step h.pos (h.far va (by simp)) fun b hb => h.ap.head' (List.mem_cons_self ..) hb, ?_, ?_, ?_, h.fro, h.lom, h.lor⟩
  · exact (mX.kp k2 hrm).kp k3 fun e => by unfold At at e; omega
  · have ho2 := own_kp (own_kp h.out k1 fun b hb e => by unfold At at e; subst e; exact own_ne_blk h.out h.mb (by decide) hb) k2 fun b hb e => own_ne_own h.out h.ord (by decide) hb e
    exact own_kp ho2 k3 fun b hb e => by unfold At at e; subst e; exact h.fro hb
  · rw [List.length_append, List.length_singleton, iv_snoc]
    exact own_kp ho k3 fun b hb e => by unfold At at e; subst e; exact own_ne_blk ho rb2 (by decide) hb
  · exact Apart.cons h.ap.tail fun u hu b hb e => by
      have e' : g' = b := by simpa [Value.ownBlock] using hb
      subst e'
      exact hgx u hu e
  · intro u hu
    rcases List.mem_cons.1 hu with rfl | hu
    · intro e
      have e' : g' = gm := by simpa [Value.ownBlock] using e
      rcases hat with h1 | h1
      · exact hrm (by rw [h1, e'])
      · have := h.mb.lt; omega
    · exact h.far u (List.mem_cons_of_mem _ hu)
end

/-- a node, in memory -/
theorem TuAt.node {w : World} {base gm gr go ga n co ca : Nat} {vr : Value} {vs : List Value} {O : List (List Int)} {p : List Nat} {o : List Int} (h : TuAt w base gm gr (.slice (some ⟨go, 0, none⟩) n co) (.slice (some ⟨ga, 0, none⟩) n ca) vr vs O p o) (hO : O.length = n) (hp : p.length = n) {x : Nat} (hx : x < n) {row : List Int} (hrow : adj O (x : Int) = row) :
    ∃ A c, w.cell? ⟨go, x, none⟩ = some (.slice A row.length c) ∧ row.length ≤ c ∧ c ≤ 9223372036854775807 ∧ w.cell? ⟨ga, x, none⟩ = some (.int .i64 (ax p (x : Int) : Nat)) ∧ w.frozen? ⟨ga, x, none⟩ = false ∧ n ≤ co ∧ co ≤ 9223372036854775807 ∧ n ≤ ca ∧ ca ≤ 9223372036854775807 ∧
      ∀ k (hk : k < row.length), ∃ g, A = some ⟨g, 0, none⟩ ∧ w.cell? ⟨g, k, none⟩ = some (.int .i64 row[k]) ∧ w.frozen? ⟨g, k, none⟩ = false ∧ ga ≠ g ∧ go ≠ g ∧ base ≤ g ∧
        ∀ y, TuAt (w.setCell ⟨g, k, none⟩ (.int .i64 y)) base gm gr (.slice (some ⟨go, 0, none⟩) n co) (.slice (some ⟨ga, 0, none⟩) n ca) vr vs (O.set x (row.set k y)) p o := by
  have hxO : x < O.length := by omega
  have hv : x < vs.length := by rw [h.len]; exact hxO
  have hr : O[x] = row := by rw [← hrow, adj_eq (by simpa using hxO)]; simp
  obtain ⟨g1, c1, e1, h11, h12, h13, _⟩ := own_cap h.out hv
  obtain ⟨g2, c2, e2, h21, h22, h23, h24, _⟩ := own_int h.pos (k := x) (by rw [nz_length]; omega)
  rw [h.len, hO] at e1 h11
  rw [nz_length, hp] at e2 h21
  rw [nz_get (by omega)] at h23
  have ea : (p[x]'(by omega)) = ax p (x : Int) := ax_get (x := (x : Int)) (by simpa using (by omega : x < p.length))
  injection e1 with e1a _ e1c
  injection e1a with e1a
  injection e1a with e1a
  injection e2 with e2a _ e2c
  injection e2a with e2a
  injection e2a with e2a
  subst e1a e1c e2a e2c
  rw [ea] at h23
  have hrw := h.row x hv hxO
  rw [hr] at hrw
  obtain ⟨e3, A, c3, hvx, hc3, hm3, hcell⟩ := own_form hrw
  rw [iv_length] at hvx hc3
  refine ⟨A, c3, by rw [← hvx]; exact h13, hc3, hm3, h23, h24, h11, h12, h21, h22, fun k hk => ?_⟩
  obtain ⟨g, c4, e4, h41, h42, h43, h44, h45, h46, h47⟩ := own_int hrw hk
  rw [e4] at hvx
  injection hvx with hA
  refine ⟨g, hA.symm, h43, h44, fun e => ?_, fun e => ?_, h45, fun y => ?_⟩
  · exact h.ap.tail.head (List.getElem_mem hv) (g := ga) rfl (by rw [e4, e]; rfl)
  · exact own_ne_own hrw h.out (by decide) (g := g) (by rw [e4]; rfl) (by rw [e]; rfl)
  · have := h.oset hxO hv (by rw [hr]; exact hk) (g := g) (by rw [e4]; rfl) y
    rwa [hr] at this

set_option maxRecDepth 100000 in
set_option maxHeartbeats 2000000 in
theorem tmark_any {base gm gr : Nat} {vo va vr : Value} {vs : List Value} {O : List (List Int)} {p : List Nat} {o : List Int} (x : Int) (w : World) (h : TuAt w base gm gr vo va vr vs O p o) (hv : Vd 12 o) (h0 : 0 ≤ x) (h1 : x < 12) (hb : base ≤ w.heap.size) :
    Calls Tryd.prog 74 #[.int .i64 x, .pointer (some ⟨gm, 0, none⟩), .pointer (some ⟨gr, 0, none⟩)] w fun e w' => e = .returned (.tuple #[]) ∧ ∃ vr', TuAt w' base gm gr vo va vr' vs O p (o ++ [x]) ∧ Kp (Hi base) w w' := by
  have HOL := hide (show orIn 0 o < 4096 from orIn_lt (by decide) fun y hy => by have := hv.range y hy; omega)
  have HOR := hide (show bits BinOp.or IntKind.i64 (orIn 0 o : Nat) (wrap64 (2 ^ x.toNat)) = ((orIn 0 (o ++ [x]) : Nat) : Int) by rw [or_step _ HOL.out x (by omega), orIn_snoc])
  have HL := hide hv.len
  have H := hide h
  have HB := hide hb
  obtain ⟨m1, m2, m3⟩ := h.mb.a1
  obtain ⟨e0, Ar, cr, hvr, hcr, hmr, _⟩ := own_form h.ord
  rw [iv_length] at hcr hvr
  subst hvr
  have HRB := hide h.rb
  obtain ⟨r1, r2, r3⟩ := h.rb.a1
  have hne : gr ≠ gm := Blk.ne_ h.rb h.mb (by decide)
  clear h hv hb e0
  go_enter Tryd.func74, Tryd.ntmps74
  go_wp2_with fail
  go_region
  all_goals
    rw [HOR.out]
    have hk1 : Kp (At gm) w (w.setCell ⟨gm, 0, none⟩ (.int .i64 (orIn 0 (o ++ [x]) : Nat))).drew := (kp_set w gm 0 _).drew
    have hm1 : Blk (w.setCell ⟨gm, 0, none⟩ (.int .i64 (orIn 0 (o ++ [x]) : Nat))).drew gm 3 #[.int .i64 (orIn 0 (o ++ [x]) : Nat)] := (H.out.mb.set_ 0 _).drew
    have ho1 : (w.setCell ⟨gm, 0, none⟩ (.int .i64 (orIn 0 (o ++ [x]) : Nat))).drew.ownsRow base 3 1 (.slice Ar o.length cr) o.length (iv o) := own_kp H.out.ord hk1 fun b hb e => by unfold At at e; subst e; exact H.out.far _ (by simp) hb
    have hr1 : Blk (w.setCell ⟨gm, 0, none⟩ (.int .i64 (orIn 0 (o ++ [x]) : Nat))).drew gr 23 #[.slice Ar o.length cr] := HRB.out.kp hk1 hne
    have hz1 : (w.setCell ⟨gm, 0, none⟩ (.int .i64 (orIn 0 (o ++ [x]) : Nat))).drew.heap.size = w.heap.size := by simp
    obtain ⟨X, hX⟩ : ∃ X, (w.setCell ⟨gm, 0, none⟩ (.int .i64 (orIn 0 (o ++ [x]) : Nat))).drew = X := ⟨_, rfl⟩
    rw [hX] at hk1 hm1 ho1 hr1 hz1 ⊢
    clear hX r1 r2 r3 m1 m2 m3
    obtain ⟨r1, r2, r3⟩ := hr1.a1
    have HK1 := hide hk1
    have HM1 := hide hm1
    have HO1 := hide ho1
    have HR1 := hide hr1
    have HZ1 := hide hz1
    have hbx : base ≤ X.heap.size := by have := HB.out; omega
    clear hk1 hm1 ho1 hr1 hz1
    go_wp2_with (at_builtin; refine wpList_push _ rfl (.tmp 8) (.tmp 10) _ rfl base 3 _ 8 Tryd.underlying23 Tryd.infoInt rfl (.slice Ar o.length cr) o.length (iv o) rfl HO1.out _ rfl 1 _ rfl (by simp) (by have := HL.out; omega) (by decide) hbx ?_; intro g' c' w2 ho' hgr hat; have HO2 := hide ho'; have HG := hide hgr; have HA := hide hat; clear ho' hgr hat r1 r2 r3; obtain ⟨r1, r2, r3⟩ := ((HR1.out.alloc (.cells #[.int .i64 x] 3)).grown HG.out (own_ne_blk HO1.out HR1.out (by decide)).symm).a1)
    go_end0
    have hat : (Value.slice Ar o.length cr).ownBlock = some g' ∨ g' = w.heap.size + 1 := by rw [← HZ1.out]; exact HA.out
    refine ⟨rfl, _, H.out.mark HK1.out HM1.out HO2.out HG.out hat, ?_⟩
    have hlm := H.out.lom
    have hlr := H.out.lor
    have k1 : Kp (Hi base) w X := HK1.out.mono fun b _ e => by unfold At at e; unfold Hi; omega
    have k2 : Kp (fun b => (Value.slice Ar o.length cr).ownBlock = some b) X w2 := ((Kp.refl _ X).alloc _).grown HG.out fun b e _ => e
    exact (k1.trans' k2 fun b _ e => (own_lt HO1.out e).1).trans' (kp_set _ _ _ _) fun b _ e => by unfold At at e; unfold Hi; omega
end Go.Proofs.YtgbdjidjbcbhjaaDoor
