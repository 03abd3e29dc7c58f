/- The row of the law FnExactFirstInside, out of its pure statement. -/
import Derived.Test.YtehincgnkgklkaaQFIEx0
import Derived.Test.YtehincgnkgklkaaQFIEx2
-- Written by wip/ext.py of this claim (contracts by the form of the kit's print; hand-written ones among them).
namespace Go.Proofs.Ytehincgnkgklkaa.E
open Go.RowKit Go.Proofs.YtehincgnkgklkaaW.PrintWords Go.Proofs.YtehincgnkgklkaaW.PrintLast Go.Proofs.YtehincgnkgklkaaW.PrintMore
attribute [local go_sem] max2_int min2_int max_two min_two max_three min_three max_four min_four   -- for this text's walks alone
set_option linter.unusedVariables false
set_option linter.unusedSimpArgs false

def slices_Clone_int64_int64.f (l0 : List Int) : Option (List Int) := if l0.length < 17592186044416 then some l0 else none
set_option maxHeartbeats 8000000 in
set_option maxRecDepth 100000 in
theorem slices_Clone_int64_int64.calls (A0 : Option Addr) (c0 : Nat) (l0 : List Int) (r : List Int) (w : World) (hr0 : Kd.C (Kd.int .i64) w A0 l0.length l0) (hc0 : l0.length ≤ c0) (h : slices_Clone_int64_int64.f l0 = some r) :
    Calls Try.prog 31 #[.slice A0 l0.length c0] w fun e w' => ∃ v0_ : Value, e = .returned (v0_) ∧ Kd.R (Kd.int .i64) 2 w' w.heap.size (fun _ => True) v0_ r ∧ Below w.heap.size w w' := by
  unfold slices_Clone_int64_int64.f at h
  by_cases c2 : l0.length < 17592186044416
  · rw [if_pos c2] at h
    obtain rfl := Option.some.inj h
    rcases A0 with _ | ad
    · have hl : l0.length = 0 := by
        rcases Nat.eq_zero_or_pos l0.length with h0 | h0
        · exact h0
        · obtain ⟨_, h1, _⟩ := hr0.2.2 h0
          cases h1
      have hl0 : l0 = [] := List.eq_nil_of_length_eq_zero hl
      subst hl0
      have e0 := fun w : World => Lib.run_eql_slice_nil (P := Try.prog) w 22 2 none 0 c0 0 0 Try.underlying22
      show Calls Try.prog 31 #[.slice none 0 c0] w _
      go_enter Try.func31, Try.ntmps31
      go_wp2
      go_ret
      exact ⟨_, rfl, Kd.R_nil _ _ _ _ _, Below.refl _ _⟩
    · have HR0 := Aside0.mk hr0
      have HC0 := Aside0.mk hc0
      clear hr0 hc0 h
      have LMc2 := Aside0.mk c2
      clear c2
      have HB := Aside0.mk (Below.refl w.heap.size w)
      have e0 := fun w : World => Lib.run_eql_slice_nil (P := Try.prog) w 22 2 (some ad) l0.length c0 0 0 Try.underlying22
      go_enter Try.func31, Try.ntmps31
      go_wp2_with (first | ((with_reducible refine gate_dst (N := 5) rfl ?_); refine Kd.R_lit (Kd.int .i64) _ 2 ?hg (N := 5) ?hd (xs := ([] : List Int)) (inner := []) (ok := fun _ => True) (okp := fun _ => True) ?hr ?hp (fun _ hk => hk) trivial (Below.refl _ _) (Nat.le_refl _) (by simp) ?_; (case hd => rfl); (case hg => rfl); (case hr => first | (go_simp; done) | (go_simp; rfl)); (case hp => exact (Reps.none _ _)); intro v149 w3 ho4 hb hg_ hnew_; clear hg_ hnew_; have n0_ := Aside0.mk (Kd.R_lower ho4 (below_size (by repeat (first | (with_reducible first | exact HB.out | apply below_alloc | apply pw_below_drewN | apply below_drew1) | exact HB.out)))); have n1_ := Aside0.mk (below_step (by repeat (first | (with_reducible first | exact HB.out | apply below_alloc | apply pw_below_drewN | apply below_drew1) | exact HB.out)) hb); clear HB; have HO150 := n0_; have HB := n1_; clear n0_ n1_; clear hb ho4) | ((with_reducible refine gate_builtin (b := .append) (xs := #[.tmp 5, .tmp 6]) rfl ?_); at_builtin; refine Kd.R_append_rows (Kd.int .i64) (w0 := w) w.heap.size rfl (.tmp 5) (.tmp 6) 22 2 (.int .i64 0) 8 rfl Try.underlying22 info2 rfl (by decide) (by omega) v149 ([] : List Int) l0 _ _ _ (fun _ => True) (fun _ => False) rfl rfl ?aO ?aR (fun _ _ h => h) (fun _ h => h.elim) ?aF ?aB ?aS ?aL ?_; (case aR => repeat (first | exact (Kd.C_below HR0.out HB.out) | (with_reducible refine Kd.C_alloc ?_ _) | (with_reducible refine Kd.C_drewN ?_ _) | (with_reducible refine Kd.C_drew ?_))); (case aB => exact (by repeat (first | (with_reducible first | exact HB.out | apply below_alloc | apply pw_below_drewN | apply below_drew1) | exact HB.out))); (case aF => exact (fun _ _ => trivial)); (case aO => exact (by (with_reducible repeat (first | apply Kd.R_alloc | apply Kd.R_drewN | apply Kd.R_drew)); exact HO150.out)); (case aS => exact (below_size (by repeat (first | (with_reducible first | exact HB.out | apply below_alloc | apply pw_below_drewN | apply below_drew1) | exact HB.out)))); (case aL => have := LMc2.out; simp; omega); intro v152 w5 ho hb hg hat; have n0_ := Aside0.mk (hb); have n1_ := Aside0.mk (ho); clear HB; clear HO150; have HB := n0_; have HO153 := n1_; clear n0_ n1_; clear ho hb hg hat))
      go_ret
      exact ⟨_, rfl, by (with_reducible repeat (first | apply Kd.R_alloc | apply Kd.R_drewN | apply Kd.R_drew)); exact HO153.out, by repeat (first | (with_reducible first | exact HB.out | apply below_alloc | apply pw_below_drewN | apply below_drew1) | exact HB.out)⟩
  · rw [if_neg c2] at h
    cases h

mutual
def impl_insides.s {σ : Type} (D : σ → List Int → Option (Bool × σ)) : Nat → List Int → List Int → List Int → Int → σ → Option (Bool × σ)
  | 0, _, _, _, _, _ => none
  | k + 1, t, u, l, fr, s => if (l.length : Int) = (t.length : Int) then ((impl_insideBy.f k t u l).bind fun b => if b = true then ((slices_Clone_int64_int64.f l).bind fun c => D s c) else some (true, s)) else impl_insides.l D k t u l s fr
def impl_insides.l {σ : Type} (D : σ → List Int → Option (Bool × σ)) : Nat → List Int → List Int → List Int → σ → Int → Option (Bool × σ)
  | 0, _, _, _, _, _ => none
  | k + 1, t, u, l, s, v => if v < (u.length : Int) then (if l.length < 24 then ((impl_insides.s D k t u (l ++ [v]) (wrap64 (v + 1)) s).bind fun r => if r.1 = true then impl_insides.l D k t u l r.2 (wrap64 (v + 1)) else some (false, r.2)) else none) else some (true, s)
end
theorem goesF_ {P : Program} {ops : Array Oper} {Q : Exit → Act → World → Prop} {oi : Oper} {N : Option Tmp} {a : Act} {w : World} {K : Act → World → Prop} {f : FuncId} {fn : Func} {x : Operand} {ar : Array Operand} {ts : Array TypeId} {cap : Array Value} (hf : P.funcs[f]? = some fn) (hname : (fn.name == "runtime.NumGoroutine") = false) (hb : fn.body.isSome = true) (args : Array Value)
    (hw : Region.wanted oi (yielded ops a.tmps) = true) (hN : oi.dst = N) (hop : oi.op = .call { callee := .value x, args := ar, argTypes := ts }) (hx : a.eval x = .func (.func f) #[] cap) (hargs : ar.map a.eval = args)
    (h : Calls P f (args ++ cap) w fun e w' => ∃ v, e = .returned v ∧ K (a.put N v) w') : if Region.wanted oi (yielded ops a.tmps) = true then Oper.wp P oi a w K Q else K (a.put N undef) w := by
  refine call_ f (args ++ cap) hw hN ?_ h
  have he := enters_ hf hname hb (args ++ cap) w
  unfold execOp
  simp [hop, resolve, Deferred.ofValue, invoke, hx, hargs, he]
theorem roomS_ {P : Program} {ops : Array Oper} {Q : Exit → Act → World → Prop} {o : Oper} {a : Act} {K : Act → World → Prop} {W : World} (hw : Region.wanted o (yielded ops a.tmps) = true) (s x : Operand) (t e : TypeId) (z : Value) (bytes : Nat)
    (ho : o.op = .call { callee := .builtin .append, args := #[s, x], argTypes := #[t, t] })
    (ht : P.underlying t = some (.slice e)) (hinfo : (P.info? e).map (fun i => (i.zero, i.size, i.bytes)) = some (some z, 1, bytes))
    (g n c b : Nat) (cur : Array Value) (y : Value) (hg : W.heap[g]? = some (.cells cur e (0, 0))) (hb : W.heap[b]? = some (.cells #[y] e (0, 0))) (hy : y.oneCell' = true)
    (hs : a.eval s = .slice (some ⟨g, 0, none⟩) n c) (hx : a.eval x = .slice (some ⟨b, 0, none⟩) 1 1) (hroom : n + 1 ≤ c) (hfit : n + 1 ≤ cur.size)
    (h : K (a.put o.dst (.slice (some ⟨g, 0, none⟩) (n + 1) c)) (W.setRow g (cur.toList.take n ++ [y] ++ cur.toList.drop (n + 1)).toArray)) :
    if Region.wanted o (yielded ops a.tmps) = true then Oper.wp P o a W K Q else K (a.put o.dst undef) W := by
  obtain ⟨i0, hi, hzz⟩ := Option.map_eq_some_iff.1 hinfo
  simp only [Prod.mk.injEq] at hzz
  obtain ⟨hz0, hz1, hz2⟩ := hzz
  have hr := run_append_room (P := P) W t o.type e i0 ht hi g n c cur hg ⟨b, 0, none⟩ 1 1 [y] (by rw [hz1]; rfl) (by
    intro j u hu
    have := World.news_of_block (cs := #[y]) hb
    exact this j u (by simpa using hu)) (by simpa using hy) hroom (by rw [hz1]; simpa using hfit)
  rw [hz1] at hr
  simp only [Nat.mul_one, List.length_singleton] at hr
  rw [if_pos hw]
  unfold Oper.wp execOp
  simp only [ho, resolve, invoke, builtin, Sem.run_bind, Sem.run_pure, Result.andThen_ok, List.map_toArray, List.map_cons, List.map_nil, hs, hx, hr]
  exact h
def InsB (w : World) (gt gu gd gs gl : Nat) (T U DO : Value) (l : List Int) : Prop :=
  w.heap[gt]? = some (.cells #[T] 28 (0, 0)) ∧ w.heap[gu]? = some (.cells #[U] 28 (0, 0)) ∧ w.heap[gd]? = some (.cells #[DO] 41 (0, 0)) ∧ w.heap[gs]? = some (.cells #[.func (.func 29) #[] #[.pointer (some ⟨gt, 0, none⟩), .pointer (some ⟨gu, 0, none⟩), .pointer (some ⟨gd, 0, none⟩), .pointer (some ⟨gs, 0, none⟩)]] 46 (0, 0)) ∧
  ∃ cur : Array Value, w.heap[gl]? = some (.cells cur 2 (0, 0)) ∧ cur.size = 24 ∧ l.length ≤ 24 ∧ cur.toList.take l.length = l.map (Value.int .i64)
theorem InsB.row {w : World} {gt gu gd gs gl : Nat} {T U DO : Value} {l : List Int} (h : InsB w gt gu gd gs gl T U DO l) {base : Nat} (hb : base ≤ gl) : Kd.R (Kd.int .i64) 2 w base (fun _ => True) (.slice (some ⟨gl, 0, none⟩) l.length 24) l := by
  obtain ⟨_, _, _, _, cur, h1, h2, h3, h4⟩ := h
  refine Kd.R_of_own (enc := Value.int .i64) (h1 := fun _ => rfl) ⟨by simp [encs], .inr ⟨gl, 24, cur, rfl, hb, h1, h3, by decide, by omega, ?_⟩⟩ (fun _ _ => trivial)
  rw [Nat.mul_one]
  exact h4
theorem InsB.keep {w w1 : World} {gt gu gd gs gl : Nat} {T U DO : Value} {l : List Int} (h : InsB w gt gu gd gs gl T U DO l) {S : Nat → Prop} (hk : Kept w w1 S) (h1 : ¬ S gt) (h2 : ¬ S gu) (h3 : ¬ S gd) (h4 : ¬ S gs) (h5 : ¬ S gl) : InsB w1 gt gu gd gs gl T U DO l := by
  obtain ⟨e1, e2, e3, e4, cur, e5, e6⟩ := h
  exact ⟨blk_kept e1 hk h1, blk_kept e2 hk h2, blk_kept e3 hk h3, blk_kept e4 hk h4, cur, blk_kept e5 hk h5, e6⟩
theorem InsB.below {w w1 : World} {gt gu gd gs gl : Nat} {T U DO : Value} {l : List Int} (h : InsB w gt gu gd gs gl T U DO l) (hb : Below w.heap.size w w1) : InsB w1 gt gu gd gs gl T U DO l := InsB.keep h (Kept.of_below hb (fun _ => False)) id id id id id
theorem InsB.shorter {w : World} {gt gu gd gs gl : Nat} {T U DO : Value} {l : List Int} {x : Int} (h : InsB w gt gu gd gs gl T U DO (l ++ [x])) : InsB w gt gu gd gs gl T U DO l := by
  obtain ⟨e1, e2, e3, e4, cur, e5, e6, e7, e8⟩ := h
  refine ⟨e1, e2, e3, e4, cur, e5, e6, by simp at e7; omega, ?_⟩
  have := congrArg (List.take l.length) e8
  rw [List.take_take, List.length_append, List.map_append, List.take_left' (by simp), Nat.min_eq_left (by simp)] at this
  exact this
theorem InsB.longer {w : World} {gt gu gd gs gl : Nat} {T U DO : Value} {l : List Int} (h : InsB w gt gu gd gs gl T U DO l) (x : Int) (hl : l.length < 24) (h1 : gt ≠ gl) (h2 : gu ≠ gl) (h3 : gd ≠ gl) (h4 : gs ≠ gl) {cur : Array Value} (hc : w.heap[gl]? = some (.cells cur 2 (0, 0))) :
    InsB (w.setRow gl (cur.toList.take l.length ++ [Value.int .i64 x] ++ cur.toList.drop (l.length + 1)).toArray) gt gu gd gs gl T U DO (l ++ [x]) := by
  obtain ⟨e1, e2, e3, e4, cur', e5, e6, e7, e8⟩ := h
  rw [hc] at e5
  injection e5 with e5
  injection e5 with e5
  subst e5
  have hcl : cur.toList.length = 24 := by simpa using e6
  refine ⟨(setRow_other _ _ _ _ h1).trans e1, (setRow_other _ _ _ _ h2).trans e2, (setRow_other _ _ _ _ h3).trans e3, (setRow_other _ _ _ _ h4).trans e4, _, setRow_heap _ _ _ _ _ _ hc, ?_, by simp; omega, ?_⟩
  · simp only [List.size_toArray, List.length_append, List.length_take, List.length_drop, List.length_singleton]
    omega
  · rw [e8, List.map_append]
    simp only [List.length_append, List.length_singleton]
    rw [List.take_left' (by simp)]
    rfl
def InsR {σ : Type} (gb TB : Nat) (enc : σ → Value) (F : World → σ → Prop) (w : World) (r : Bool × σ) : Prop := (r.1 = true → w.heap[gb]? = some (.cells #[enc r.2] TB (0, 0))) ∧ (r.1 = false → F w r.2)
theorem kept_setRow {w w1 : World} {S : Nat → Prop} (h : Kept w w1 S) {g : Nat} (hg : S g) (cs : Array Value) : Kept w (w1.setRow g cs) S :=
  ⟨by rw [size_setRow]; exact h.1, fun i hi hn => (setRow_other _ _ _ _ (fun e => hn (by rw [e]; exact hg))).trans (h.2 i hi hn)⟩
def impl_insides.T2 : Bool × List (List Nat × List Nat) := (true, [([], []), ([], []), ([], []), ([0, 1, 2], [0, 1, 2]), ([3], [3]), ([4, 3], [4]), ([5], [5]), ([5], [5]), ([7, 5, 5], [5, 7]), ([6, 8, 8, 5], [5, 6, 8]), ([5, 9], [5, 9]), ([10, 9, 0, 1, 2, 3, 4, 5, 6, 7, 8, 9, 10], [10])])
def impl_insides.B2 : List Nat := [0, 0, 0, 7, 15, 31, 63, 63, 191, 511, 1023, 2047]
theorem impl_insides.tab2 : rtab .any (opsOf Try.f29 2) = impl_insides.T2 := by kernel_rfl
theorem impl_insides.bits2 : waitsOk impl_insides.T2.2 impl_insides.B2 = true := by kernel_rfl
def impl_insides.T6 : Bool × List (List Nat × List Nat) := (true, [([], []), ([], []), ([], []), ([2], [2]), ([1, 3], [1, 3]), ([], []), ([5], [5]), ([0, 4, 6, 4], [0, 4, 6]), ([7], [7])])
def impl_insides.B6 : List Nat := [0, 0, 0, 4, 14, 0, 32, 127, 255]
theorem impl_insides.tab6 : rtab .any (opsOf Try.f29 6) = impl_insides.T6 := by kernel_rfl
theorem impl_insides.bits6 : waitsOk impl_insides.T6.2 impl_insides.B6 = true := by kernel_rfl
set_option maxHeartbeats 8000000 in
set_option maxRecDepth 100000 in
theorem impl_insides.search {σ : Type} (D : σ → List Int → Option (Bool × σ)) (CL : Nat) (FN : Func) (hfn : Try.prog.funcs[CL]? = some FN) (hnm : (FN.name == "runtime.NumGoroutine") = false) (hbd0 : FN.body.isSome = true) (TB : Nat) (enc : σ → Value) (F : World → σ → Prop) (gt gu gd gs gl gb : Nat) (At : Option Addr) (ct : Nat) (t : List Int) (Au : Option Addr) (cu : Nat) (u : List Int) (w0 : World)
    (hT1 : gt ≠ gl) (hT2 : gu ≠ gl) (hT3 : gd ≠ gl) (hT4 : gs ≠ gl) (hb1 : gt ≠ gb) (hb2 : gu ≠ gb) (hb3 : gd ≠ gb) (hb4 : gs ≠ gb) (hb5 : gl ≠ gb) (hl0 : w0.heap.size ≤ gl)
    (hrt : Kd.C (Kd.int .i64) w0 At t.length t) (hct : t.length ≤ ct) (hru : Kd.C (Kd.int .i64) w0 Au u.length u) (hcu : u.length ≤ cu)
    (hdo : ∀ (s : σ) (c : List Int) (r : Bool × σ) (v : Value) (w : World), D s c = some r → Below w0.heap.size w0 w → w.heap[gb]? = some (.cells #[enc s] TB (0, 0)) → Kd.R (Kd.int .i64) 2 w w0.heap.size (fun k_ => k_ ≠ gb) v c → Calls Try.prog CL #[v, .pointer (some ⟨gb, 0, none⟩)] w fun e w' => e = .returned (.bool r.1) ∧ Below w0.heap.size w0 w' ∧ Kept w w' (fun k_ => k_ = gb) ∧ InsR gb TB enc F w' r) :
    ∀ (k : Nat) (l : List Int) (fr : Int) (s : σ) (r : Bool × σ) (w : World), Below w0.heap.size w0 w → InsB w gt gu gd gs gl (.slice At t.length ct) (.slice Au u.length cu) (.func (.func CL) #[] #[.pointer (some ⟨gb, 0, none⟩)]) l → w.heap[gb]? = some (.cells #[enc s] TB (0, 0)) → impl_insides.s D k t u l fr s = some r →
      Calls Try.prog 29 #[.slice (some ⟨gl, 0, none⟩) l.length 24, .int .i64 fr, .pointer (some ⟨gt, 0, none⟩), .pointer (some ⟨gu, 0, none⟩), .pointer (some ⟨gd, 0, none⟩), .pointer (some ⟨gs, 0, none⟩)] w fun e w' => e = .returned (.bool r.1) ∧ Below w0.heap.size w0 w' ∧ Kept w w' (fun k_ => k_ = gb ∨ k_ = gl) ∧ InsB w' gt gu gd gs gl (.slice At t.length ct) (.slice Au u.length cu) (.func (.func CL) #[] #[.pointer (some ⟨gb, 0, none⟩)]) l ∧ InsR gb TB enc F w' r := by
  have hu28 := Try.underlying28
  intro k
  induction k using Nat.strongRecOn with
  | _ k ih =>
    intro l fr s r w hB hI hbox h
    cases k with
    | zero => simp [impl_insides.s] at h
    | succ k =>
      have HB := Aside0.mk hB
      have HI := Aside0.mk hI
      have BX := Aside0.mk hbox
      have HK := Aside0.mk (Kept.refl w (fun k_ => k_ = gb ∨ k_ = gl))
      have hcz0 : w.cell? ⟨gt, 0, none⟩ = some (.slice At t.length ct) := (blk_cell hI.1 0).trans rfl
      have hcz1 : w.cell? ⟨gu, 0, none⟩ = some (.slice Au u.length cu) := (blk_cell hI.2.1 0).trans rfl
      clear hB hI hbox
      have H := h
      clear h
      simp only [impl_insides.s] at H
      by_cases c1 : (l.length : Int) = (t.length : Int)
      · rw [if_pos c1] at H
        have c1b0 : ((l.length : Int) == (t.length : Int)) = true := beq_iff_eq.mpr c1
        have c1b1 : (l.length == t.length) = true := beq_iff_eq.mpr (by omega)
        have c1b2 : decide (l.length = t.length) = true := decide_eq_true (by omega)
        clear c1
        obtain ⟨b, A10, H⟩ := Option.bind_eq_some_iff.mp H
        have A1 := Aside0.mk A10
        have H' := Aside0.mk H
        clear A10 H
        go_enter Try.func29, Try.ntmps29
        go_wp2
        have hd_ : Below w.heap.size w w.drew := below_drew1 (Below.refl _ _)
        have n0_ := Aside0.mk (InsB.below HI.out hd_)
        have n1_ := Aside0.mk (blk_below BX.out hd_)
        have n2_ := Aside0.mk (Kept.below HK.out hd_)
        have n3_ := Aside0.mk (below_step HB.out hd_)
        clear HI BX HK HB
        have HI := n0_
        have BX := n1_
        have HK := n2_
        have HB := n3_
        clear n0_ n1_ n2_ n3_
        refine start_ (n := 12) (S := fun w' => w'.cell? ⟨gt, 0, none⟩ = some (.slice At t.length ct) ∧ w'.cell? ⟨gu, 0, none⟩ = some (.slice Au u.length cu) ∧ w'.cell? ⟨gd, 0, none⟩ = some (.func (.func CL) #[] #[.pointer (some ⟨gb, 0, none⟩)])) (ds := []) #[false, false, false, false, false, false, false, false, false, false, false, false] (by kernel_rfl) rfl rfl ⟨(blk_cell HI.out.1 0).trans rfl, (blk_cell HI.out.2.1 0).trans rfl, (blk_cell HI.out.2.2.1 0).trans rfl⟩ (fun hHeld => ?_); refine with_tabW impl_insides.tab2 impl_insides.bits2 (fun HT_ HW_ => ?_)
        generalize w.drew = w1 at HI BX HK HB hHeld ⊢
        refine pure_ (i := 2) (N := some 18) (v := ?_) (a' := ?_) #[false, false, true, false, false, false, false, false, false, false, false, false] rfl rfl (any_of HT_.out (by kernel_rfl)) (fun _ _ _ h => h) (Or.inl ⟨by rfl, ?_⟩) ?_ ?_
        rotate_left
        · intro w'
          go_simp
          with_reducible rfl
        rotate_left
        · simp only [Act.put, List.setIfInBounds_toArray, List.set_cons_zero, List.set_cons_succ, i64_w, i32_w]
          rfl
        refine take_ (i := 0) (N := some 16) (v := ?_) (a' := ?_) #[true, false, true, false, false, false, false, false, false, false, false, false] rfl rfl (take_ofW HT_.out HW_.out (by kernel_rfl)) (fun _ _ _ h => h) (Or.inl ⟨by rfl, ?_⟩) hHeld ?_ ?_
        rotate_left
        · rintro w' ⟨s0, s1, s2⟩
          go_simp
          with_reducible rfl
        rotate_left
        · simp only [Act.put, List.setIfInBounds_toArray, List.set_cons_zero, List.set_cons_succ, i64_w, i32_w]
          rfl
        refine take_ (i := 1) (N := some 17) (v := ?_) (a' := ?_) #[true, true, true, false, false, false, false, false, false, false, false, false] rfl rfl (take_ofW HT_.out HW_.out (by kernel_rfl)) (fun _ _ _ h => h) (Or.inl ⟨by rfl, ?_⟩) hHeld ?_ ?_
        rotate_left
        · rintro w' ⟨s0, s1, s2⟩
          go_simp
          with_reducible rfl
        rotate_left
        · simp only [Act.put, List.setIfInBounds_toArray, List.set_cons_zero, List.set_cons_succ, i64_w, i32_w]
          rfl
        refine one_ (i := 3) (N := some 19) #[true, true, true, true, false, false, false, false, false, false, false, false] rfl rfl (one_of HT_.out (by kernel_rfl)) (by decide) (fun K hK => ?_)
        refine goes_ Try.func30 (by kernel_rfl) rfl #[.agg #[.slice At t.length ct], .agg #[.slice Au u.length cu], .slice (some ⟨gl, 0, none⟩) l.length 24] (by rfl) rfl rfl (by (try simp only [List.map_toArray, List.map_cons, List.map_nil]); first | done | rfl) ?_
        with_reducible refine (impl_insideBy.calls k _ _ t _ _ u _ _ l b _ ?side1 ?side2 ?side3 ?side4 ?side5 ?side6 A1.out).mono ?_
        (case side1 => exact Kd.C_below hrt HB.out)
        (case side2 => exact hct)
        (case side3 => exact Kd.C_below hru HB.out)
        (case side4 => exact hcu)
        (case side5 => exact (Kd.R_reads' (InsB.row HI.out (Nat.zero_le _))).2.2)
        (case side6 => exact (Kd.R_reads' (InsB.row HI.out (Nat.zero_le _))).2.1)
        rintro e w2 ⟨rfl, hb⟩
        refine ⟨_, rfl, ?_⟩
        have n0_ := Aside0.mk (InsB.below HI.out hb)
        have n1_ := Aside0.mk (blk_below BX.out hb)
        have n2_ := Aside0.mk (Kept.below HK.out hb)
        have n3_ := Aside0.mk (below_step HB.out hb)
        clear HI BX HK HB
        have HI := n0_
        have BX := n1_
        have HK := n2_
        have HB := n3_
        clear n0_ n1_ n2_ n3_
        clear hb
        refine hK.out _ _ ⟨(blk_cell HI.out.1 0).trans rfl, (blk_cell HI.out.2.1 0).trans rfl, (blk_cell HI.out.2.2.1 0).trans rfl⟩ (fun hHeld => ?_)
        clear hK K
        refine norm_ (a' := ?_) ?_ ?_
        rotate_left
        · show Act.put _ (some 19) _ = _
          simp only [Act.put, List.setIfInBounds_toArray, List.set_cons_zero, List.set_cons_succ, i64_w, i32_w]
          rfl
        refine pure_ (i := 4) (N := some 20) (v := ?_) (a' := ?_) #[true, true, true, true, true, false, false, false, false, false, false, false] rfl rfl (any_of HT_.out (by kernel_rfl)) (fun _ _ _ h => h) (Or.inl ⟨by rfl, ?_⟩) ?_ ?_
        rotate_left
        · intro w'
          go_simp
          with_reducible rfl
        rotate_left
        · simp only [Act.put, List.setIfInBounds_toArray, List.set_cons_zero, List.set_cons_succ, i64_w, i32_w]
          rfl
        refine pure_ (i := 5) (N := some 21) (v := ?_) (a' := ?_) #[true, true, true, true, true, true, false, false, false, false, false, false] rfl rfl (any_of HT_.out (by kernel_rfl)) (fun _ _ _ h => h) (Or.inl ⟨by rfl, ?_⟩) ?_ ?_
        rotate_left
        · intro w'
          go_simp
          with_reducible rfl
        rotate_left
        · simp only [Act.put, List.setIfInBounds_toArray, List.set_cons_zero, List.set_cons_succ, i64_w, i32_w]
          rfl
        by_cases c3 : b = true
        · subst c3
          have H := H'.out
          rw [if_pos rfl] at H
          obtain ⟨c, A30, H⟩ := Option.bind_eq_some_iff.mp H
          have A3 := Aside0.mk A30
          have A4 := Aside0.mk H
          clear A30 H H'
          refine take_ (i := 6) (N := some 22) (v := ?_) (a' := ?_) #[true, true, true, true, true, true, true, false, false, false, false, false] rfl rfl (take_ofW HT_.out HW_.out (by kernel_rfl)) (fun _ _ _ h => h) (Or.inl ⟨by rfl, ?_⟩) hHeld ?_ ?_
          rotate_left
          · rintro w' ⟨s0, s1, s2⟩
            go_simp
            with_reducible rfl
          rotate_left
          · simp only [Act.put, List.setIfInBounds_toArray, List.set_cons_zero, List.set_cons_succ, i64_w, i32_w]
            rfl
          refine pure_ (i := 7) (N := some 23) (v := ?_) (a' := ?_) #[true, true, true, true, true, true, true, true, false, false, false, false] rfl rfl (any_of HT_.out (by kernel_rfl)) (fun _ _ _ h => h) (Or.inl ⟨by rfl, ?_⟩) ?_ ?_
          rotate_left
          · intro w'
            go_simp
            with_reducible rfl
          rotate_left
          · simp only [Act.put, List.setIfInBounds_toArray, List.set_cons_zero, List.set_cons_succ, i64_w, i32_w]
            rfl
          refine one_ (i := 8) (N := some 24) #[true, true, true, true, true, true, true, true, true, false, false, false] rfl rfl (one_of HT_.out (by kernel_rfl)) (by decide) (fun K hK => ?_)
          refine goes_ Try.func31 (by kernel_rfl) rfl #[.slice (some ⟨gl, 0, none⟩) l.length 24] (by rfl) rfl rfl (by (try simp only [List.map_toArray, List.map_cons, List.map_nil]); first | done | rfl) ?_
          with_reducible refine (slices_Clone_int64_int64.calls _ _ l c _ ?side1 ?side2 A3.out).mono ?_
          (case side1 => exact (Kd.R_reads' (InsB.row HI.out (Nat.zero_le _))).2.2)
          (case side2 => exact (Kd.R_reads' (InsB.row HI.out (Nat.zero_le _))).2.1)
          rintro e w3 ⟨v24, rfl, ho0, hb⟩
          refine ⟨_, rfl, ?_⟩
          have hgb := blk_lt BX.out
          have HO := Aside0.mk (Kd.R_lower (Kd.R_mono (ok' := fun k_ => k_ ≠ gb) (Kd.R_bound ho0) (fun k_ hk => by have := hk.2.1; omega)) (below_size HB.out))
          have n0_ := Aside0.mk (InsB.below HI.out hb)
          have n1_ := Aside0.mk (blk_below BX.out hb)
          have n2_ := Aside0.mk (Kept.below HK.out hb)
          have n3_ := Aside0.mk (below_step HB.out hb)
          clear HI BX HK HB
          have HI := n0_
          have BX := n1_
          have HK := n2_
          have HB := n3_
          clear n0_ n1_ n2_ n3_
          clear hb ho0 hgb
          refine hK.out _ _ ⟨(blk_cell HI.out.1 0).trans rfl, (blk_cell HI.out.2.1 0).trans rfl, (blk_cell HI.out.2.2.1 0).trans rfl⟩ (fun hHeld => ?_)
          clear hK K
          refine norm_ (a' := ?_) ?_ ?_
          rotate_left
          · show Act.put _ (some 24) _ = _
            simp only [Act.put, List.setIfInBounds_toArray, List.set_cons_zero, List.set_cons_succ, i64_w, i32_w]
            rfl
          refine one_ (i := 9) (N := some 25) #[true, true, true, true, true, true, true, true, true, true, false, false] rfl rfl (one_of HT_.out (by kernel_rfl)) (by decide) (fun K hK => ?_)
          refine goesF_ hfn hnm hbd0 #[v24] (by rfl) rfl rfl (by rfl) (by (try simp only [List.map_toArray, List.map_cons, List.map_nil]); first | done | rfl) ?_
          refine (hdo s c r v24 _ A4.out HB.out BX.out HO.out).mono ?_
          rintro e w4 ⟨rfl, hb, hk, hr⟩
          refine ⟨_, rfl, ?_⟩
          have n0_ := Aside0.mk (InsB.keep HI.out hk hb1 hb2 hb3 hb4 hb5)
          have n2_ := Aside0.mk (HK.out.then_ hk (fun k_ e_ => .inl (.inl e_)))
          have n3_ := Aside0.mk hb
          have HR := Aside0.mk hr
          clear HI BX HK HB HO hb hk hr
          have HI := n0_
          have HK := n2_
          have HB := n3_
          clear n0_ n2_ n3_
          refine hK.out _ _ ⟨(blk_cell HI.out.1 0).trans rfl, (blk_cell HI.out.2.1 0).trans rfl, (blk_cell HI.out.2.2.1 0).trans rfl⟩ (fun hHeld => ?_)
          clear hK K
          refine norm_ (a' := ?_) ?_ ?_
          rotate_left
          · show Act.put _ (some 25) _ = _
            simp only [Act.put, List.setIfInBounds_toArray, List.set_cons_zero, List.set_cons_succ, i64_w, i32_w]
            rfl
          refine pure_ (i := 10) (N := some 26) (v := ?_) (a' := ?_) #[true, true, true, true, true, true, true, true, true, true, true, false] rfl rfl (any_of HT_.out (by kernel_rfl)) (fun _ _ _ h => h) (Or.inl ⟨by rfl, ?_⟩) ?_ ?_
          rotate_left
          · intro w'
            go_simp
            with_reducible rfl
          rotate_left
          · simp only [Act.put, List.setIfInBounds_toArray, List.set_cons_zero, List.set_cons_succ, i64_w, i32_w]
            rfl
          refine pure_ (i := 11) (N := some 8) (v := ?_) (a' := ?_) #[true, true, true, true, true, true, true, true, true, true, true, true] rfl rfl (any_of HT_.out (by kernel_rfl)) (fun _ _ _ h => h) (Or.inl ⟨by rfl, ?_⟩) ?_ ?_
          rotate_left
          · intro w'
            go_simp
            with_reducible rfl
          rotate_left
          · simp only [Act.put, List.setIfInBounds_toArray, List.set_cons_zero, List.set_cons_succ, i64_w, i32_w]
            rfl
          refine done_ (done_of HT_.out (by kernel_rfl)) ?_
          try go_wp2
          go_ret
          exact ⟨by first | rfl | simp, HB.out, HK.out, HI.out, HR.out⟩
        · have c3' : b = false := by simpa using c3
          subst c3'
          have H := H'.out
          rw [if_neg (by simp)] at H
          obtain rfl := Option.some.inj H
          clear H H' c3
          refine pure_ (i := 6) (N := some 22) (v := undef) (a' := ?_) #[true, true, true, true, true, true, true, false, false, false, false, false] rfl rfl (any_of HT_.out (by kernel_rfl)) (fun _ _ _ h => h) (Or.inr ⟨by rfl, rfl⟩) ?_ ?_
          rotate_left
          · simp only [Act.put, List.setIfInBounds_toArray, List.set_cons_zero, List.set_cons_succ, i64_w, i32_w]
            rfl
          refine pure_ (i := 7) (N := some 23) (v := undef) (a' := ?_) #[true, true, true, true, true, true, true, true, false, false, false, false] rfl rfl (any_of HT_.out (by kernel_rfl)) (fun _ _ _ h => h) (Or.inr ⟨by rfl, rfl⟩) ?_ ?_
          rotate_left
          · simp only [Act.put, List.setIfInBounds_toArray, List.set_cons_zero, List.set_cons_succ, i64_w, i32_w]
            rfl
          refine pure_ (i := 8) (N := some 24) (v := undef) (a' := ?_) #[true, true, true, true, true, true, true, true, true, false, false, false] rfl rfl (any_of HT_.out (by kernel_rfl)) (fun _ _ _ h => h) (Or.inr ⟨by rfl, rfl⟩) ?_ ?_
          rotate_left
          · simp only [Act.put, List.setIfInBounds_toArray, List.set_cons_zero, List.set_cons_succ, i64_w, i32_w]
            rfl
          refine pure_ (i := 9) (N := some 25) (v := undef) (a' := ?_) #[true, true, true, true, true, true, true, true, true, true, false, false] rfl rfl (any_of HT_.out (by kernel_rfl)) (fun _ _ _ h => h) (Or.inr ⟨by rfl, rfl⟩) ?_ ?_
          rotate_left
          · simp only [Act.put, List.setIfInBounds_toArray, List.set_cons_zero, List.set_cons_succ, i64_w, i32_w]
            rfl
          refine pure_ (i := 10) (N := some 26) (v := ?_) (a' := ?_) #[true, true, true, true, true, true, true, true, true, true, true, false] rfl rfl (any_of HT_.out (by kernel_rfl)) (fun _ _ _ h => h) (Or.inl ⟨by rfl, ?_⟩) ?_ ?_
          rotate_left
          · intro w'
            go_simp
            with_reducible rfl
          rotate_left
          · simp only [Act.put, List.setIfInBounds_toArray, List.set_cons_zero, List.set_cons_succ, i64_w, i32_w]
            rfl
          refine pure_ (i := 11) (N := some 8) (v := ?_) (a' := ?_) #[true, true, true, true, true, true, true, true, true, true, true, true] rfl rfl (any_of HT_.out (by kernel_rfl)) (fun _ _ _ h => h) (Or.inl ⟨by rfl, ?_⟩) ?_ ?_
          rotate_left
          · intro w'
            go_simp
            with_reducible rfl
          rotate_left
          · simp only [Act.put, List.setIfInBounds_toArray, List.set_cons_zero, List.set_cons_succ, i64_w, i32_w]
            rfl
          refine done_ (done_of HT_.out (by kernel_rfl)) ?_
          try go_wp2
          go_ret
          exact ⟨by first | rfl | simp, HB.out, HK.out, HI.out, ⟨fun _ => BX.out, fun h_ => by cases h_⟩⟩
      · rw [if_neg c1] at H
        have c1b0 : ((l.length : Int) == (t.length : Int)) = false := beq_eq_false_iff_ne.mpr c1
        have c1b1 : (l.length == t.length) = false := beq_eq_false_iff_ne.mpr (by omega)
        have c1b2 : decide (l.length = t.length) = false := decide_eq_false (by omega)
        clear c1
        have H' := Aside0.mk H
        clear H
        go_enter Try.func29, Try.ntmps29
        go_wp2
        go_loopg [9] k (fun kq v9 w' => ∃ (x : Int) (s1 : σ), v9 = .int .i64 x ∧ Aside0 (impl_insides.l D kq t u l s1 x = some r) ∧ Aside0 (kq ≤ k) ∧ Aside0 (InsB w' gt gu gd gs gl (.slice At t.length ct) (.slice Au u.length cu) (.func (.func CL) #[] #[.pointer (some ⟨gb, 0, none⟩)]) l) ∧ Aside0 (w'.heap[gb]? = some (.cells #[enc s1] TB (0, 0))) ∧ Aside0 (Kept w w' (fun k_ => k_ = gb ∨ k_ = gl)) ∧ Aside0 (Below w0.heap.size w0 w'))
        case atStart => exact ⟨fr, s, rfl, H', ⟨Nat.le_refl _⟩, HI, BX, HK, HB⟩
        case round =>
          clear H' HI BX HK HB hcz0 hcz1
          obtain ⟨x, s1, rfl, HA, HK1, HI, BX, HK, HB⟩ := hrel
          cases gk with
          | zero => exact absurd HA.out (by simp [impl_insides.l])
          | succ k1 =>
            have H := HA.out
            clear HA
            simp only [impl_insides.l] at H
            have hcz1 : wr.cell? ⟨gu, 0, none⟩ = some (.slice Au u.length cu) := (blk_cell HI.out.2.1 0).trans rfl
            by_cases c2 : x < (u.length : Int)
            · rw [if_pos c2] at H
              have c2b0 : decide (x < (u.length : Int)) = true := decide_eq_true c2
              clear c2
              by_cases c3 : l.length < 24
              · rw [if_pos c3] at H
                have LM := Aside0.mk c3
                clear c3
                obtain ⟨r1, A20, H⟩ := Option.bind_eq_some_iff.mp H
                have A2 := Aside0.mk A20
                have H' := Aside0.mk H
                clear A20 H
                go_wp2
                have hd_ : Below wr.heap.size wr wr.drew := below_drew1 (Below.refl _ _)
                have n0_ := Aside0.mk (InsB.below HI.out hd_)
                have n1_ := Aside0.mk (blk_below BX.out hd_)
                have n2_ := Aside0.mk (Kept.below HK.out hd_)
                have n3_ := Aside0.mk (below_step HB.out hd_)
                clear HI BX HK HB
                have HI := n0_
                have BX := n1_
                have HK := n2_
                have HB := n3_
                clear n0_ n1_ n2_ n3_
                refine start_ (n := 9) (S := fun w' => w'.cell? ⟨gs, 0, none⟩ = some (.func (.func 29) #[] #[.pointer (some ⟨gt, 0, none⟩), .pointer (some ⟨gu, 0, none⟩), .pointer (some ⟨gd, 0, none⟩), .pointer (some ⟨gs, 0, none⟩)])) (ds := []) #[false, false, false, false, false, false, false, false, false] (by kernel_rfl) rfl rfl ((blk_cell HI.out.2.2.2.1 0).trans rfl) (fun hHeld => ?_); refine with_tabW impl_insides.tab6 impl_insides.bits6 (fun HT_ HW_ => ?_)
                generalize wr.drew = w1 at HI BX HK HB hHeld ⊢
                refine pure_ (i := 1) (N := some 36) (v := ?_) (a' := ?_) #[false, true, false, false, false, false, false, false, false] rfl rfl (any_of HT_.out (by kernel_rfl)) (fun _ _ _ h => h) (Or.inl ⟨by rfl, ?_⟩) ?_ ?_
                rotate_left
                · intro w'
                  go_simp
                  with_reducible rfl
                rotate_left
                · simp only [Act.put, List.setIfInBounds_toArray, List.set_cons_zero, List.set_cons_succ, i64_w, i32_w]
                  rfl
                refine pure_ (i := 2) (N := some 37) (v := ?_) (a' := ?_) #[false, true, true, false, false, false, false, false, false] rfl rfl (any_of HT_.out (by kernel_rfl)) (fun _ _ _ h => h) (Or.inl ⟨by rfl, ?_⟩) ?_ ?_
                rotate_left
                · intro w'
                  go_simp
                  with_reducible rfl
                rotate_left
                · simp only [Act.put, List.setIfInBounds_toArray, List.set_cons_zero, List.set_cons_succ, i64_w, i32_w]
                  rfl
                refine pure_ (i := 5) (N := some 40) (v := ?_) (a' := ?_) #[false, true, true, false, false, true, false, false, false] rfl rfl (any_of HT_.out (by kernel_rfl)) (fun _ _ _ h => h) (Or.inl ⟨by rfl, ?_⟩) ?_ ?_
                rotate_left
                · intro w'
                  go_simp
                  with_reducible rfl
                rotate_left
                · simp only [Act.put, List.setIfInBounds_toArray, List.set_cons_zero, List.set_cons_succ, i64_w, i32_w]
                  rfl
                refine pure_ (i := 6) (N := some 41) (v := ?_) (a' := ?_) #[false, true, true, false, false, true, true, false, false] rfl rfl (any_of HT_.out (by kernel_rfl)) (fun _ _ _ h => h) (Or.inl ⟨by rfl, ?_⟩) ?_ ?_
                rotate_left
                · intro w'
                  go_simp
                  with_reducible rfl
                rotate_left
                · simp only [Act.put, List.setIfInBounds_toArray, List.set_cons_zero, List.set_cons_succ, i64_w, i32_w]
                  rfl
                refine take_ (i := 0) (N := some 35) (v := ?_) (a' := ?_) #[true, true, true, false, false, true, true, false, false] rfl rfl (take_ofW HT_.out HW_.out (by kernel_rfl)) (fun _ _ _ h => h) (Or.inl ⟨by rfl, ?_⟩) hHeld ?_ ?_
                rotate_left
                · rintro w' s0
                  go_simp
                  with_reducible rfl
                rotate_left
                · simp only [Act.put, List.setIfInBounds_toArray, List.set_cons_zero, List.set_cons_succ, i64_w, i32_w]
                  rfl
                refine one_ (i := 3) (N := some 38) #[true, true, true, true, false, true, true, false, false] rfl rfl (one_of HT_.out (by kernel_rfl)) (by decide) (fun K hK => ?_)
                refine event_step (by rfl) (w1 := w1.alloc (.cells #[.int .i64 x] 2 (0, 0))) (v := .slice (some ⟨w1.heap.size, 0, none⟩) 1 1) ?hr ?_
                (case hr => first | (go_simp; done) | (go_simp; rfl))
                have hb : Below w1.heap.size w1 (w1.alloc (.cells #[.int .i64 x] 2 (0, 0))) := below_alloc (Below.refl _ _) _
                have BN := Aside0.mk (blk_new w1 (.cells #[.int .i64 x] 2 (0, 0)))
                have n0_ := Aside0.mk (InsB.below HI.out hb)
                have n1_ := Aside0.mk (blk_below BX.out hb)
                have n2_ := Aside0.mk (Kept.below HK.out hb)
                have n3_ := Aside0.mk (below_step HB.out hb)
                clear HI BX HK HB
                have HI := n0_
                have BX := n1_
                have HK := n2_
                have HB := n3_
                clear n0_ n1_ n2_ n3_
                clear hb
                generalize w1.alloc (.cells #[.int .i64 x] 2 (0, 0)) = w2 at HI BX HK HB BN ⊢
                generalize w1.heap.size = gn at BN ⊢
                refine hK.out _ _ ((blk_cell HI.out.2.2.2.1 0).trans rfl) (fun hHeld => ?_)
                clear hK K
                refine norm_ (a' := ?_) ?_ ?_
                rotate_left
                · show Act.put _ (some 38) _ = _
                  simp only [Act.put, List.setIfInBounds_toArray, List.set_cons_zero, List.set_cons_succ, i64_w, i32_w]
                  rfl
                refine one_ (i := 4) (N := some 39) #[true, true, true, true, true, true, true, false, false] rfl rfl (one_of HT_.out (by kernel_rfl)) (by decide) (fun K hK => ?_)
                obtain ⟨cur, ec1, ec2, ec3, ec4⟩ := HI.out.2.2.2.2
                refine roomS_ (by rfl) (.tmp 36) (.tmp 38) 22 2 (.int .i64 0) 8 rfl Try.underlying22 info2 gl l.length 24 gn cur (.int .i64 x) ec1 BN.out rfl rfl rfl (by have := LM.out; omega) (by have := LM.out; omega) ?_
                have n0_ := Aside0.mk (InsB.longer HI.out x LM.out hT1 hT2 hT3 hT4 ec1)
                have n1_ := Aside0.mk ((setRow_other w2 gl gb (cur.toList.take l.length ++ [Value.int .i64 x] ++ cur.toList.drop (l.length + 1)).toArray (fun e_ => hb5 e_.symm)).trans BX.out)
                have n2_ := Aside0.mk (kept_setRow HK.out (.inr rfl) (cur.toList.take l.length ++ [Value.int .i64 x] ++ cur.toList.drop (l.length + 1)).toArray)
                have n3_ := Aside0.mk (below_setRow HB.out hl0 (cur.toList.take l.length ++ [Value.int .i64 x] ++ cur.toList.drop (l.length + 1)).toArray)
                clear HI BX HK HB BN ec2 ec3 ec4
                have HI := n0_
                have BX := n1_
                have HK := n2_
                have HB := n3_
                clear n0_ n1_ n2_ n3_
                generalize w2.setRow gl (cur.toList.take l.length ++ [Value.int .i64 x] ++ cur.toList.drop (l.length + 1)).toArray = w3 at HI BX HK HB ⊢
                refine hK.out _ _ ((blk_cell HI.out.2.2.2.1 0).trans rfl) (fun hHeld => ?_)
                clear hK K
                refine norm_ (a' := ?_) ?_ ?_
                rotate_left
                · show Act.put _ (some 39) _ = _
                  simp only [Act.put, List.setIfInBounds_toArray, List.set_cons_zero, List.set_cons_succ, i64_w, i32_w]
                  rfl
                refine one_ (i := 7) (N := some 42) #[true, true, true, true, true, true, true, true, false] rfl rfl (one_of HT_.out (by kernel_rfl)) (by decide) (fun K hK => ?_)
                refine goesF_ (fn := Try.f29) Try.func29 (by kernel_rfl) rfl #[.slice (some ⟨gl, 0, none⟩) (l.length + 1) 24, .int .i64 (wrap64 (x + 1))] (by rfl) rfl rfl (by rfl) (by (try simp only [List.map_toArray, List.map_cons, List.map_nil]); first | done | rfl) ?_
                have ic := ih k1 (by have := HK1.out; omega) (l ++ [x]) (wrap64 (x + 1)) s1 r1 _ HB.out HI.out BX.out A2.out
                rw [List.length_append, List.length_singleton] at ic
                refine ic.mono ?_
                clear ic
                rintro e w4 ⟨rfl, hb, hk, hi, hr⟩
                refine ⟨_, rfl, ?_⟩
                have n0_ := Aside0.mk (InsB.shorter hi)
                have n2_ := Aside0.mk (HK.out.then_ hk (fun k_ e_ => .inl e_))
                have n3_ := Aside0.mk hb
                have HR := Aside0.mk hr
                clear HI BX HK HB hb hk hi hr
                have HI := n0_
                have HK := n2_
                have HB := n3_
                clear n0_ n2_ n3_
                refine hK.out _ _ ((blk_cell HI.out.2.2.2.1 0).trans rfl) (fun hHeld => ?_)
                clear hK K
                refine norm_ (a' := ?_) ?_ ?_
                rotate_left
                · show Act.put _ (some 42) _ = _
                  simp only [Act.put, List.setIfInBounds_toArray, List.set_cons_zero, List.set_cons_succ, i64_w, i32_w]
                  rfl
                refine pure_ (i := 8) (N := some 43) (v := ?_) (a' := ?_) #[true, true, true, true, true, true, true, true, true] rfl rfl (any_of HT_.out (by kernel_rfl)) (fun _ _ _ h => h) (Or.inl ⟨by rfl, ?_⟩) ?_ ?_
                rotate_left
                · intro w'
                  go_simp
                  with_reducible rfl
                rotate_left
                · simp only [Act.put, List.setIfInBounds_toArray, List.set_cons_zero, List.set_cons_succ, i64_w, i32_w]
                  rfl
                refine done_ (done_of HT_.out (by kernel_rfl)) ?_
                by_cases c4 : r1.1 = true
                · have H := H'.out
                  rw [if_pos c4] at H
                  have BX := Aside0.mk (HR.out.1 c4)
                  have H2 := Aside0.mk H
                  clear H H' HR
                  rw [c4]
                  go_wp2
                  go_roundg k1
                  case measure => have := HK1.out; omega
                  case rel => exact ⟨_, r1.2, (by first | rfl | (simp; done) | (simp [*]; done)), H2, ⟨by have := HK1.out; omega⟩, HI, BX, HK, HB⟩
                · have H := H'.out
                  rw [if_neg c4] at H
                  obtain rfl := Option.some.inj H
                  have c4' : r1.1 = false := by simpa using c4
                  have HR' := HR.out
                  clear H H' HR c4
                  rw [c4']
                  go_wp2
                  go_ret
                  exact ⟨rfl, HB.out, HK.out, HI.out, ⟨fun h_ => (by cases h_), fun _ => HR'.2 c4'⟩⟩
              · rw [if_neg c3] at H
                cases H
            · rw [if_neg c2] at H
              have c2b0 : decide (x < (u.length : Int)) = false := decide_eq_false c2
              obtain rfl := Option.some.inj H
              clear c2 H
              go_wp2
              go_ret
              exact ⟨rfl, HB.out, HK.out, HI.out, ⟨fun _ => BX.out, fun h_ => by cases h_⟩⟩

set_option maxHeartbeats 8000000 in
set_option maxRecDepth 100000 in
theorem impl_insides.run {σ : Type} (D : σ → List Int → Option (Bool × σ)) (CL : Nat) (FN : Func) (hfn : Try.prog.funcs[CL]? = some FN) (hnm : (FN.name == "runtime.NumGoroutine") = false) (hbd0 : FN.body.isSome = true) (TB : Nat) (enc : σ → Value) (F : World → σ → Prop) (gb : Nat) (At : Option Addr) (ct : Nat) (t : List Int) (Au : Option Addr) (cu : Nat) (u : List Int) (w0 : World)
    (hrt : Kd.C (Kd.int .i64) w0 At t.length t) (hct : t.length ≤ ct) (hru : Kd.C (Kd.int .i64) w0 Au u.length u) (hcu : u.length ≤ cu)
    (hdo : ∀ (s : σ) (c : List Int) (r : Bool × σ) (v : Value) (w : World), D s c = some r → Below w0.heap.size w0 w → w.heap[gb]? = some (.cells #[enc s] TB (0, 0)) → Kd.R (Kd.int .i64) 2 w w0.heap.size (fun k_ => k_ ≠ gb) v c → Calls Try.prog CL #[v, .pointer (some ⟨gb, 0, none⟩)] w fun e w' => e = .returned (.bool r.1) ∧ Below w0.heap.size w0 w' ∧ Kept w w' (fun k_ => k_ = gb) ∧ InsR gb TB enc F w' r)
    (k : Nat) (s : σ) (r : Bool × σ) (w : World) (hB : Below w0.heap.size w0 w) (hbox : w.heap[gb]? = some (.cells #[enc s] TB (0, 0))) (h : impl_insides.s D k t u [] 0 s = some r) :
    Calls Try.prog 21 #[.agg #[.slice At t.length ct], .agg #[.slice Au u.length cu], .func (.func CL) #[] #[.pointer (some ⟨gb, 0, none⟩)]] w fun e w' => e = .returned (.tuple #[]) ∧ Below w0.heap.size w0 w' ∧ Kept w w' (fun k_ => k_ = gb) ∧ InsR gb TB enc F w' r := by
  have hu28 := Try.underlying28
  have hmf : ∀ (fn : Fn) (first cap : Array Value) (w_ : World), (Instr.makeFunc fn first cap).run Try.prog w_ = .ok (.func fn first cap) w_ := fun _ _ _ _ => rfl
  have HB := Aside0.mk hB
  have BX := Aside0.mk hbox
  have HK := Aside0.mk (Kept.refl w (fun k_ => k_ = gb))
  have GB := Aside0.mk (blk_lt hbox)
  have hB2 := Aside0.mk hB
  have H := Aside0.mk h
  clear hB hbox h
  go_enter Try.func21, Try.ntmps21
  go_wp2_with (first | ((with_reducible refine gate_dst (N := 3) rfl ?_); refine box_event ?hg (N := 3) ?hd (cs := #[.slice At t.length ct]) (t := 28) ?hr ?_; (case hd => rfl); (case hg => rfl); (case hr => first | (go_simp; done) | (go_simp; rfl)); intro gt eg w1 hb1 hbl; have n0_ := Aside0.mk (below_step HB.out hbl); have n1_ := Aside0.mk (blk_below BX.out hbl); have n2_ := Aside0.mk (Kept.below HK.out hbl); have n3_ := Aside0.mk hb1; have n4_ := Aside0.mk (show gt ≥ w.heap.size by rw [eg]; exact HK.out.1); clear HB BX HK eg hb1 hbl; have HB := n0_; have BX := n1_; have HK := n2_; have B1 := n3_; have G1 := n4_; clear n0_ n1_ n2_ n3_ n4_) | ((with_reducible refine gate_dst (N := 4) rfl ?_); refine box_event ?hg (N := 4) ?hd (cs := #[.slice Au u.length cu]) (t := 28) ?hr ?_; (case hd => rfl); (case hg => rfl); (case hr => first | (go_simp; done) | (go_simp; rfl)); intro gu eg w2 hb1 hbl; have n0_ := Aside0.mk (below_step HB.out hbl); have n1_ := Aside0.mk (blk_below BX.out hbl); have n2_ := Aside0.mk (Kept.below HK.out hbl); have n3_ := Aside0.mk hb1; have n4_ := Aside0.mk (show gu ≥ w.heap.size by rw [eg]; exact HK.out.1); have n5_ := Aside0.mk (blk_below B1.out hbl); clear HB BX HK B1 eg hb1 hbl; have HB := n0_; have BX := n1_; have HK := n2_; have B2 := n3_; have G2 := n4_; have B1 := n5_; clear n0_ n1_ n2_ n3_ n4_ n5_) | ((with_reducible refine gate_dst (N := 5) rfl ?_); refine box_event ?hg (N := 5) ?hd (cs := #[.func (.func CL) #[] #[.pointer (some ⟨gb, 0, none⟩)]]) (t := 41) ?hr ?_; (case hd => rfl); (case hg => rfl); (case hr => first | (go_simp; done) | (go_simp; rfl)); intro gd eg w3 hb1 hbl; have n0_ := Aside0.mk (below_step HB.out hbl); have n1_ := Aside0.mk (blk_below BX.out hbl); have n2_ := Aside0.mk (Kept.below HK.out hbl); have n3_ := Aside0.mk hb1; have n4_ := Aside0.mk (show gd ≥ w.heap.size by rw [eg]; exact HK.out.1); have n5_ := Aside0.mk (blk_below B1.out hbl); have n6_ := Aside0.mk (blk_below B2.out hbl); clear HB BX HK B1 B2 eg hb1 hbl; have HB := n0_; have BX := n1_; have HK := n2_; have B3 := n3_; have G3 := n4_; have B1 := n5_; have B2 := n6_; clear n0_ n1_ n2_ n3_ n4_ n5_ n6_) | ((with_reducible refine gate_dst (N := 6) rfl ?_); refine box_event ?hg (N := 6) ?hd (cs := #[.nilFunc]) (t := 46) ?hr ?_; (case hd => rfl); (case hg => rfl); (case hr => first | (go_simp; done) | (go_simp; rfl)); intro gs eg w4 hb1 hbl; have n0_ := Aside0.mk (below_step HB.out hbl); have n1_ := Aside0.mk (blk_below BX.out hbl); have n2_ := Aside0.mk (Kept.below HK.out hbl); have n3_ := Aside0.mk hb1; have n4_ := Aside0.mk (show gs ≥ w.heap.size by rw [eg]; exact HK.out.1); have n5_ := Aside0.mk (blk_below B1.out hbl); have n6_ := Aside0.mk (blk_below B2.out hbl); have n7_ := Aside0.mk (blk_below B3.out hbl); clear HB BX HK B1 B2 B3 eg hb1 hbl; have HB := n0_; have BX := n1_; have HK := n2_; have B4 := n3_; have G4 := n4_; have B1 := n5_; have B2 := n6_; have B3 := n7_; clear n0_ n1_ n2_ n3_ n4_ n5_ n6_ n7_; have hcz6 : w4.cell? ⟨gs, 0, none⟩ = some .nilFunc := (blk_cell B4.out 0).trans rfl; have hfz6 := blk_frozen B4.out 0))
  obtain ⟨w5, hw⟩ : ∃ w5, w5 = w4.setCell ⟨gs, 0, none⟩ (.func (.func 29) #[] #[.pointer (some ⟨gt, 0, none⟩), .pointer (some ⟨gu, 0, none⟩), .pointer (some ⟨gd, 0, none⟩), .pointer (some ⟨gs, 0, none⟩)]) := ⟨_, rfl⟩
  rw [← hw]
  have hk_ : Kept w4 w5 (fun k_ => k_ = gs) := by
    rw [hw]
    exact Kept.setCell (S := fun k_ => k_ = gs) (p := ⟨gs, 0, none⟩) (Kept.refl _ _) (.inl rfl) _
  have n0_ : Aside0 (Below w0.heap.size w0 w5) := ⟨by
    rw [hw]
    exact below_set HB.out (Nat.le_trans (below_size hB2.out) G4.out)⟩
  have n1_ := Aside0.mk (blk_kept BX.out hk_ (fun e_ => by
    have e2_ : gb = gs := e_
    have := GB.out
    have := G4.out
    omega))
  have n2_ := Aside0.mk (HK.out.then_ hk_ (fun k_ e_ => .inr (by
    have e2_ : k_ = gs := e_
    rw [e2_]
    exact G4.out)))
  have n5_ := Aside0.mk (blk_kept B1.out hk_ (blk_ne B1.out B4.out (by decide)))
  have n6_ := Aside0.mk (blk_kept B2.out hk_ (blk_ne B2.out B4.out (by decide)))
  have n7_ := Aside0.mk (blk_kept B3.out hk_ (blk_ne B3.out B4.out (by decide)))
  have n8_ : Aside0 (w5.heap[gs]? = some (.cells #[(.func (.func 29) #[] #[.pointer (some ⟨gt, 0, none⟩), .pointer (some ⟨gu, 0, none⟩), .pointer (some ⟨gd, 0, none⟩), .pointer (some ⟨gs, 0, none⟩)])] 46 (0, 0))) := ⟨by
    rw [hw]
    exact blk_put B4.out 0 _ rfl⟩
  clear HB BX HK B1 B2 B3 B4 hcz6 hfz6 hw hk_
  have HB := n0_
  have BX := n1_
  have HK := n2_
  have B1 := n5_
  have B2 := n6_
  have B3 := n7_
  have B4 := n8_
  clear n0_ n1_ n2_ n5_ n6_ n7_ n8_
  have hd_ : Below w5.heap.size w5 w5.drew := below_drew1 (Below.refl _ _)
  have n0_ := Aside0.mk (blk_below BX.out hd_)
  have n1_ := Aside0.mk (Kept.below HK.out hd_)
  have n2_ := Aside0.mk (below_step HB.out hd_)
  have n3_ := Aside0.mk (blk_below B1.out hd_)
  have n4_ := Aside0.mk (blk_below B2.out hd_)
  have n5_ := Aside0.mk (blk_below B3.out hd_)
  have n6_ := Aside0.mk (blk_below B4.out hd_)
  clear BX HK HB B1 B2 B3 B4
  have BX := n0_
  have HK := n1_
  have HB := n2_
  have B1 := n3_
  have B2 := n4_
  have B3 := n5_
  have B4 := n6_
  clear n0_ n1_ n2_ n3_ n4_ n5_ n6_
  refine start_ (n := 3) (S := fun w' => w'.cell? ⟨gs, 0, none⟩ = some (.func (.func 29) #[] #[.pointer (some ⟨gt, 0, none⟩), .pointer (some ⟨gu, 0, none⟩), .pointer (some ⟨gd, 0, none⟩), .pointer (some ⟨gs, 0, none⟩)])) (ds := []) #[false, false, false] (by kernel_rfl) rfl rfl ((blk_cell B4.out 0).trans rfl) (fun hHeld => ?_)
  generalize w5.drew = w6 at BX HK HB B1 B2 B3 B4 hHeld ⊢
  refine take_ (i := 0) (N := some 8) (v := ?_) (a' := ?_) #[true, false, false] rfl rfl (by kernel_rfl) (fun _ _ _ h => h) (Or.inl ⟨by rfl, ?_⟩) hHeld ?_ ?_
  rotate_left
  · rintro w' s0
    go_simp
    with_reducible rfl
  rotate_left
  · simp only [Act.put, List.setIfInBounds_toArray, List.set_cons_zero, List.set_cons_succ, i64_w, i32_w]
    rfl
  refine one_ (i := 1) (N := some 9) #[true, true, false] rfl rfl (by kernel_rfl) (by decide) (fun K hK => ?_)
  refine event_step (by rfl) (w1 := w6.alloc (.cells (Builtin.zeroCells (Value.cells (.int .i64 0)) 24) 2 (0, 0))) (v := .slice (some ⟨w6.heap.size, 0, none⟩) 0 24) ?hr ?_
  (case hr => first | (go_simp; done) | (go_simp; rfl))
  have hb : Below w6.heap.size w6 (w6.alloc (.cells (Builtin.zeroCells (Value.cells (.int .i64 0)) 24) 2 (0, 0))) := below_alloc (Below.refl _ _) _
  have BN := Aside0.mk (blk_new w6 (.cells (Builtin.zeroCells (Value.cells (.int .i64 0)) 24) 2 (0, 0)))
  have GL := Aside0.mk (show w.heap.size ≤ w6.heap.size from HK.out.1)
  have L1 := Aside0.mk (blk_lt B1.out)
  have L2 := Aside0.mk (blk_lt B2.out)
  have L3 := Aside0.mk (blk_lt B3.out)
  have L4 := Aside0.mk (blk_lt B4.out)
  have n0_ := Aside0.mk (blk_below BX.out hb)
  have n1_ := Aside0.mk (Kept.below HK.out hb)
  have n2_ := Aside0.mk (below_step HB.out hb)
  have n3_ := Aside0.mk (blk_below B1.out hb)
  have n4_ := Aside0.mk (blk_below B2.out hb)
  have n5_ := Aside0.mk (blk_below B3.out hb)
  have n6_ := Aside0.mk (blk_below B4.out hb)
  clear BX HK HB B1 B2 B3 B4
  have BX := n0_
  have HK := n1_
  have HB := n2_
  have B1 := n3_
  have B2 := n4_
  have B3 := n5_
  have B4 := n6_
  clear n0_ n1_ n2_ n3_ n4_ n5_ n6_
  clear hb
  generalize w6.alloc (.cells (Builtin.zeroCells (Value.cells (.int .i64 0)) 24) 2 (0, 0)) = w7 at BX HK HB B1 B2 B3 B4 BN ⊢
  generalize w6.heap.size = gl at BN GL L1 L2 L3 L4 ⊢
  refine hK.out _ _ ((blk_cell B4.out 0).trans rfl) (fun hHeld => ?_)
  clear hK K
  refine norm_ (a' := ?_) ?_ ?_
  rotate_left
  · show Act.put _ (some 9) _ = _
    simp only [Act.put, List.setIfInBounds_toArray, List.set_cons_zero, List.set_cons_succ, i64_w, i32_w]
    rfl
  refine one_ (i := 2) (N := some 10) #[true, true, true] rfl rfl (by kernel_rfl) (by decide) (fun K hK => ?_)
  refine goesF_ (fn := Try.f29) Try.func29 (by kernel_rfl) rfl #[.slice (some ⟨gl, 0, none⟩) 0 24, .int .i64 0] (by rfl) rfl rfl (by rfl) (by (try simp only [List.map_toArray, List.map_cons, List.map_nil]); first | done | rfl) ?_
  have hI : InsB w7 gt gu gd gs gl (.slice At t.length ct) (.slice Au u.length cu) (.func (.func CL) #[] #[.pointer (some ⟨gb, 0, none⟩)]) ([] : List Int) := ⟨B1.out, B2.out, B3.out, B4.out, _, BN.out, by rw [size_zeroCells]; rfl, by simp, by simp⟩
  have g0 := GB.out
  have g1 := G1.out
  have g2 := G2.out
  have g3 := G3.out
  have g4 := G4.out
  have gl0 := GL.out
  have l1 := L1.out
  have l2 := L2.out
  have l3 := L3.out
  have l4 := L4.out
  have ic := impl_insides.search D CL FN hfn hnm hbd0 TB enc F gt gu gd gs gl gb At ct t Au cu u w0 (by omega) (by omega) (by omega) (by omega) (by omega) (by omega) (by omega) (by omega) (by omega) (Nat.le_trans (below_size hB2.out) GL.out) hrt hct hru hcu hdo k [] 0 s r w7 HB.out hI BX.out H.out
  refine ic.mono ?_
  clear ic g0 g1 g2 g3 g4 gl0 l1 l2 l3 l4
  rintro e w8 ⟨rfl, hb, hk, hi, hr⟩
  refine ⟨_, rfl, ?_⟩
  have n1_ := Aside0.mk (HK.out.then_ hk (fun k_ e_ => e_.elim .inl (fun e2_ => .inr (by rw [e2_]; exact GL.out))))
  have HB2 := Aside0.mk hb
  have HR := Aside0.mk hr
  have B9 := Aside0.mk hi.2.2.2.1
  clear HK hb hk hi hr hI
  have HK := n1_
  clear n1_
  refine hK.out _ _ ((blk_cell B9.out 0).trans rfl) (fun hHeld => ?_)
  clear hK K
  refine norm_ (a' := ?_) ?_ ?_
  rotate_left
  · show Act.put _ (some 10) _ = _
    simp only [Act.put, List.setIfInBounds_toArray, List.set_cons_zero, List.set_cons_succ, i64_w, i32_w]
    rfl
  refine done_ (by kernel_rfl) ?_
  try go_wp2
  go_end0
  exact ⟨rfl, HB2.out, HK.out, HR.out⟩

def laws_eqInt64S.l0 : Nat → List Int → List Int → Int → Option (Bool)
  | 0, _, _, _ => none
  | k + 1, x0, x1, x5 => if x5 < (x0.length : Int) then (if 0 ≤ x5 then (if x5 < (x1.length : Int) then (if (rd x0 x5) = (rd x1 x5) then (laws_eqInt64S.l0 k x0 x1 (wrap64 (x5 + 1))) else (some false)) else (none)) else (none)) else (some true)
def laws_eqInt64S.f (k : Nat) (l0 : List Int) (l1 : List Int) : Option (Bool) := if (l0.length : Int) = (l1.length : Int) then (laws_eqInt64S.l0 k l0 l1 0) else (some false)
set_option maxHeartbeats 8000000 in
set_option maxRecDepth 100000 in
theorem laws_eqInt64S.calls (k : Nat) (A0 : Option Addr) (c0 : Nat) (l0 : List Int) (A1 : Option Addr) (c1 : Nat) (l1 : List Int) (r : Bool) (w : World) (hr0 : Kd.C (Kd.int .i64) w A0 l0.length l0) (hc0 : l0.length ≤ c0) (hr1 : Kd.C (Kd.int .i64) w A1 l1.length l1) (hc1 : l1.length ≤ c1) (h : laws_eqInt64S.f k l0 l1 = some r) :
    Calls Try.prog 12 #[.slice A0 l0.length c0, .slice A1 l1.length c1] w fun e w' => e = .returned (.bool r) ∧ Drawn0 w w' := by
  have HR0 := Aside0.mk hr0
  have HC0 := Aside0.mk hc0
  clear hr0 hc0
  have HR1 := Aside0.mk hr1
  have HC1 := Aside0.mk hc1
  clear hr1 hc1
  have H : (if (l0.length : Int) = (l1.length : Int) then (laws_eqInt64S.l0 k l0 l1 0) else (some false)) = some r := h
  clear h
  by_cases c3 : (l0.length : Int) = (l1.length : Int)
  · rw [if_pos c3] at H
    have c3b0 : ((l0.length : Int) == (l1.length : Int)) = true := beq_iff_eq.mpr c3
    have c3b1 : ((l0.length : Int) != (l1.length : Int)) = false := bne_eq_false_iff_eq.mpr c3
    have c3b2 : (l0.length == l1.length) = true := by first | simpa using c3 | (simp at c3 ⊢; omega)
    clear c3
    have H' := Aside0.mk H
    clear H
    go_enter Try.func12, Try.ntmps12
    go_wp2
    repeat (go_quiet (fail); try go_wp2)
    go_loopg [5] k (fun kq v5 w' => ∃ (x5_1 : Int), v5 = .int .i64 x5_1 ∧ Aside0 (laws_eqInt64S.l0 kq l0 l1 x5_1 = some r) ∧ Aside0 (kq ≤ k) ∧ Drawn0 w w')
    case atStart => exact ⟨(0), (by first | rfl | (simp; done) | (simp [*]; done)), H', ⟨Nat.le_refl _⟩, by repeat (first | exact Drawn0.refl _ | apply Drawn0.step)⟩
    case round =>
      clear H'
      try clear c1
      try clear p2
      try clear c3
      try clear c3b0
      try clear c3b1
      try clear c3b2
      obtain ⟨x5_1, rfl, HA, HK1, ⟨m1, rfl⟩⟩ := hrel
      cases gk with
      | zero => exact absurd HA.out (by simp [laws_eqInt64S.l0])
      | succ k1 =>
        have H := HA.out
        clear HA
        simp only [laws_eqInt64S.l0] at H
        by_cases c4 : x5_1 < (l0.length : Int)
        · rw [if_pos c4] at H
          have c4b0 : decide (x5_1 < (l0.length : Int)) = true := decide_eq_true c4
          clear c4
          by_cases c5 : 0 ≤ x5_1
          · rw [if_pos c5] at H
            have c5b0 : decide (0 ≤ x5_1) = true := decide_eq_true c5
            clear c5
            by_cases c6 : x5_1 < (l1.length : Int)
            · rw [if_pos c6] at H
              have c6b0 : decide (x5_1 < (l1.length : Int)) = true := decide_eq_true c6
              clear c6
              by_cases c7 : (rd l0 x5_1) = (rd l1 x5_1)
              · rw [if_pos c7] at H
                have c7b0 : ((rd l0 x5_1) == (rd l1 x5_1)) = true := beq_iff_eq.mpr c7
                have c7b1 : ((rd l0 x5_1) != (rd l1 x5_1)) = false := bne_eq_false_iff_eq.mpr c7
                clear c7
                have H' := Aside0.mk H
                clear H
                have p239 : 0 ≤ (x5_1 : Int) := of_decide_eq_true (by first | (with_reducible assumption) | assumption)
                have q239 : x5_1 < (l0.length : Int) := of_decide_eq_true (by first | (with_reducible assumption) | assumption)
                obtain ⟨ad239, e239, hx239_0⟩ := Kd.at_int HR0.out x5_1 p239 q239
                cases e239
                replace p239 := eq_true p239
                replace q239 := eq_true q239
                have p240 : 0 ≤ (x5_1 : Int) := of_decide_eq_true (by first | (with_reducible assumption) | assumption)
                have q240 : x5_1 < (l1.length : Int) := of_decide_eq_true (by first | (with_reducible assumption) | assumption)
                obtain ⟨ad240, e240, hx240_0⟩ := Kd.at_int HR1.out x5_1 p240 q240
                cases e240
                replace p240 := eq_true p240
                replace q240 := eq_true q240
                go_wp2
                repeat (go_quiet (fail); try go_wp2)
                go_roundg k1
                case measure => have := HK1.out; omega
                case rel => exact ⟨(wrap64 (x5_1 + 1)), (by first | rfl | (simp; done) | (simp [*]; done)), H', ⟨by have := HK1.out; omega⟩, by repeat (first | exact Drawn0.refl _ | apply Drawn0.step)⟩
              · rw [if_neg c7] at H
                have c7b0 : ((rd l0 x5_1) == (rd l1 x5_1)) = false := beq_eq_false_iff_ne.mpr c7
                have c7b1 : ((rd l0 x5_1) != (rd l1 x5_1)) = true := bne_iff_ne.mpr c7
                obtain rfl := Option.some.inj H
                have p239 : 0 ≤ (x5_1 : Int) := of_decide_eq_true (by first | (with_reducible assumption) | assumption)
                have q239 : x5_1 < (l0.length : Int) := of_decide_eq_true (by first | (with_reducible assumption) | assumption)
                obtain ⟨ad239, e239, hx239_0⟩ := Kd.at_int HR0.out x5_1 p239 q239
                cases e239
                replace p239 := eq_true p239
                replace q239 := eq_true q239
                have p240 : 0 ≤ (x5_1 : Int) := of_decide_eq_true (by first | (with_reducible assumption) | assumption)
                have q240 : x5_1 < (l1.length : Int) := of_decide_eq_true (by first | (with_reducible assumption) | assumption)
                obtain ⟨ad240, e240, hx240_0⟩ := Kd.at_int HR1.out x5_1 p240 q240
                cases e240
                replace p240 := eq_true p240
                replace q240 := eq_true q240
                go_wp2
                repeat (go_quiet (fail); try go_wp2)
                go_ret
                exact ⟨by first | rfl | (simp; done) | (simp [*]; done), by repeat (first | exact Drawn0.refl _ | apply Drawn0.step)⟩
            · rw [if_neg c6] at H
              exact absurd H (by simp)
          · rw [if_neg c5] at H
            exact absurd H (by simp)
        · rw [if_neg c4] at H
          have c4b0 : decide (x5_1 < (l0.length : Int)) = false := decide_eq_false c4
          clear c4
          obtain rfl := Option.some.inj H
          go_wp2
          repeat (go_quiet (fail); try go_wp2)
          go_ret
          exact ⟨by first | rfl | (simp; done) | (simp [*]; done), by repeat (first | exact Drawn0.refl _ | apply Drawn0.step)⟩
  · rw [if_neg c3] at H
    have c3b0 : ((l0.length : Int) == (l1.length : Int)) = false := beq_eq_false_iff_ne.mpr c3
    have c3b1 : ((l0.length : Int) != (l1.length : Int)) = true := bne_iff_ne.mpr c3
    have c3b2 : (l0.length == l1.length) = false := by first | simpa using c3 | (simp at c3 ⊢; omega)
    obtain rfl := Option.some.inj H
    go_enter Try.func12, Try.ntmps12
    go_wp2
    repeat (go_quiet (fail); try go_wp2)
    go_ret
    exact ⟨by first | rfl | (simp; done) | (simp [*]; done), by repeat (first | exact Drawn0.refl _ | apply Drawn0.step)⟩

def laws_eqTree.f (k : Nat) (l0_0 : List Int) (l1_0 : List Int) : Option (Bool) := (laws_eqInt64S.f k l0_0 l1_0).bind fun t243 => (if t243 = true then (some true) else (some false))
set_option maxHeartbeats 8000000 in
set_option maxRecDepth 100000 in
theorem laws_eqTree.calls (k : Nat) (A0_0 : Option Addr) (c0_0 : Nat) (l0_0 : List Int) (A1_0 : Option Addr) (c1_0 : Nat) (l1_0 : List Int) (r : Bool) (w : World) (hr0_0 : Kd.C (Kd.int .i64) w A0_0 l0_0.length l0_0) (hc0_0 : l0_0.length ≤ c0_0) (hr1_0 : Kd.C (Kd.int .i64) w A1_0 l1_0.length l1_0) (hc1_0 : l1_0.length ≤ c1_0) (h : laws_eqTree.f k l0_0 l1_0 = some r) :
    Calls Try.prog 9 #[.agg #[.slice A0_0 l0_0.length c0_0], .agg #[.slice A1_0 l1_0.length c1_0]] w fun e w' => e = .returned (.bool r) ∧ Below w.heap.size w w' := by
  have hu28 := Try.underlying28
  have HR0_0 := Aside0.mk hr0_0
  have HC0_0 := Aside0.mk hc0_0
  clear hr0_0 hc0_0
  have HR1_0 := Aside0.mk hr1_0
  have HC1_0 := Aside0.mk hc1_0
  clear hr1_0 hc1_0
  have HB := Aside0.mk (Below.refl w.heap.size w)
  have H : ((laws_eqInt64S.f k l0_0 l1_0).bind fun t243 => (if t243 = true then (some true) else (some false))) = some r := h
  clear h
  replace H := Option.bind_eq_some_iff.mp H
  obtain ⟨t243, A30, H⟩ := H
  replace H : (if t243 = true then (some true) else (some false)) = some r := H
  have A3 := Aside0.mk A30
  clear A30
  by_cases c4 : t243 = true
  · subst c4
    have H1 : (some true) = some r := by rw [if_pos rfl] at H; exact H
    clear H
    have H := H1
    clear H1
    obtain rfl := Option.some.inj H
    go_enter Try.func9, Try.ntmps9
    go_wp2_with (first | ((with_reducible refine gate_dst (N := 2) rfl ?_); refine box_event ?hg (N := 2) ?hd (cs := #[.slice A0_0 l0_0.length c0_0]) (t := 28) ?hr ?_; (case hd => rfl); (case hg => rfl); (case hr => first | (go_simp; done) | (go_simp; rfl)); intro gb241 hg w5 hbox hb; have n0_ := Aside0.mk (below_step (by repeat (first | (with_reducible first | exact HB.out | apply below_alloc | apply pw_below_drewN | apply below_drew1) | exact HB.out)) hb); have n1_ := Aside0.mk (hbox); have n2_ := Aside0.mk ((by rw [hg]; exact (below_size (by repeat (first | (with_reducible first | exact HB.out | apply below_alloc | apply pw_below_drewN | apply below_drew1) | exact HB.out))) : w.heap.size ≤ gb241)); have n3_ := Aside0.mk ((by rw [hg]; exact (below_size (by repeat (first | (with_reducible first | exact HB.out | apply below_alloc | apply pw_below_drewN | apply below_drew1) | exact HB.out))) : w.heap.size ≤ gb241)); clear HB; have HB := n0_; have BK241 := n1_; have GW241 := n2_; have GE241 := n3_; clear n0_ n1_ n2_ n3_; clear hb hbox hg) | ((with_reducible refine gate_dst (N := 3) rfl ?_); refine box_event ?hg (N := 3) ?hd (cs := #[.slice A1_0 l1_0.length c1_0]) (t := 28) ?hr ?_; (case hd => rfl); (case hg => rfl); (case hr => first | (go_simp; done) | (go_simp; rfl)); intro gb242 hg w6 hbox hb; have n0_ := Aside0.mk (blk_below (g := gb241) (o := .cells #[.slice A0_0 l0_0.length c0_0] 28 (0, 0)) (by (with_reducible repeat (first | refine blk_drewN ?_ _ | refine blk_drew ?_ | refine blk_alloc ?_ _)); exact BK241.out) hb); have n1_ := Aside0.mk (below_step (by repeat (first | (with_reducible first | exact HB.out | apply below_alloc | apply pw_below_drewN | apply below_drew1 | refine below_set ?_ GE241.out) | exact HB.out)) hb); have n2_ := Aside0.mk (hbox); have n3_ := Aside0.mk ((by rw [hg]; exact (below_size (by repeat (first | (with_reducible first | exact HB.out | apply below_alloc | apply pw_below_drewN | apply below_drew1 | refine below_set ?_ GE241.out) | exact HB.out))) : w.heap.size ≤ gb242)); have n4_ := Aside0.mk ((by rw [hg]; exact (below_size (by repeat (first | (with_reducible first | exact HB.out | apply below_alloc | apply pw_below_drewN | apply below_drew1 | refine below_set ?_ GE241.out) | exact HB.out))) : w.heap.size ≤ gb242)); have n5_ := Aside0.mk ((by rw [hg]; exact Nat.ne_of_lt (blk_lt (g := gb241) (o := .cells #[.slice A0_0 l0_0.length c0_0] 28 (0, 0)) (by (with_reducible repeat (first | refine blk_drewN ?_ _ | refine blk_drew ?_ | refine blk_alloc ?_ _)); exact BK241.out)) : gb241 ≠ gb242)); have n6_ := Aside0.mk ((by rw [hg]; exact Nat.ne_of_gt (blk_lt (g := gb241) (o := .cells #[.slice A0_0 l0_0.length c0_0] 28 (0, 0)) (by (with_reducible repeat (first | refine blk_drewN ?_ _ | refine blk_drew ?_ | refine blk_alloc ?_ _)); exact BK241.out)) : gb242 ≠ gb241)); clear BK241; clear HB; have BK241 := n0_; have HB := n1_; have BK242 := n2_; have GW242 := n3_; have GE242 := n4_; have NB241_242 := n5_; have NB242_241 := n6_; clear n0_ n1_ n2_ n3_ n4_ n5_ n6_; clear hb hbox hg; have hnb7 := NB241_242.out; have hnc7 := NB242_241.out; have hcz8_0 : w6.cell? ⟨gb241, 0, none⟩ = some (.slice A0_0 l0_0.length c0_0) := (blk_cell BK241.out 0).trans rfl; have hfz8_0 := blk_frozen BK241.out 0; have hcz9_0 : w6.cell? ⟨gb242, 0, none⟩ = some (.slice A1_0 l1_0.length c1_0) := (blk_cell BK242.out 0).trans rfl; have hfz9_0 := blk_frozen BK242.out 0) | ((with_reducible refine gate_callee (f := 12) rfl ?_); refine goesL_ (some 9) rfl rfl Try.func12 (by kernel_rfl) rfl #[.slice A0_0 l0_0.length c0_0, .slice A1_0 l1_0.length c1_0] rfl (by (try simp only [List.map_toArray, List.map_cons, List.map_nil]); first | done | rfl | (simp only [List.length_drop, List.length_take]; rfl)) ?_; (with_reducible refine (laws_eqInt64S.calls k _ _ l0_0 _ _ l1_0 true _ ?side1 ?side2 ?side3 ?side4 A3.out).mono ?_); (case side1 => repeat (first | exact (Kd.C_below HR0_0.out HB.out) | (with_reducible refine Kd.C_alloc ?_ _) | (with_reducible refine Kd.C_drewN ?_ _) | (with_reducible refine Kd.C_drew ?_))); (case side2 => exact HC0_0.out); (case side3 => repeat (first | exact (Kd.C_below HR1_0.out HB.out) | (with_reducible refine Kd.C_alloc ?_ _) | (with_reducible refine Kd.C_drewN ?_ _) | (with_reducible refine Kd.C_drew ?_))); (case side4 => exact HC1_0.out); rintro e w' ⟨rfl, ⟨nd, rfl⟩⟩; refine ⟨_, rfl, ?_⟩))
    go_ret
    exact ⟨by first | rfl | (simp [errW_none, errW_some] <;> rfl) | (simp [*, errW_none, errW_some] <;> rfl), by repeat (first | (with_reducible first | exact HB.out | apply below_alloc | apply pw_below_drewN | apply below_drew1 | refine below_set ?_ GE241.out | refine below_set ?_ GE242.out) | exact HB.out)⟩
  · replace c4 := Bool.eq_false_iff.mpr c4
    subst c4
    have H1 : (some false) = some r := by rw [if_neg (show ¬ (false = true) by decide)] at H; exact H
    clear H
    have H := H1
    clear H1
    obtain rfl := Option.some.inj H
    go_enter Try.func9, Try.ntmps9
    go_wp2_with (first | ((with_reducible refine gate_dst (N := 2) rfl ?_); refine box_event ?hg (N := 2) ?hd (cs := #[.slice A0_0 l0_0.length c0_0]) (t := 28) ?hr ?_; (case hd => rfl); (case hg => rfl); (case hr => first | (go_simp; done) | (go_simp; rfl)); intro gb241 hg w10 hbox hb; have n0_ := Aside0.mk (below_step (by repeat (first | (with_reducible first | exact HB.out | apply below_alloc | apply pw_below_drewN | apply below_drew1) | exact HB.out)) hb); have n1_ := Aside0.mk (hbox); have n2_ := Aside0.mk ((by rw [hg]; exact (below_size (by repeat (first | (with_reducible first | exact HB.out | apply below_alloc | apply pw_below_drewN | apply below_drew1) | exact HB.out))) : w.heap.size ≤ gb241)); have n3_ := Aside0.mk ((by rw [hg]; exact (below_size (by repeat (first | (with_reducible first | exact HB.out | apply below_alloc | apply pw_below_drewN | apply below_drew1) | exact HB.out))) : w.heap.size ≤ gb241)); clear HB; have HB := n0_; have BK241 := n1_; have GW241 := n2_; have GE241 := n3_; clear n0_ n1_ n2_ n3_; clear hb hbox hg) | ((with_reducible refine gate_dst (N := 3) rfl ?_); refine box_event ?hg (N := 3) ?hd (cs := #[.slice A1_0 l1_0.length c1_0]) (t := 28) ?hr ?_; (case hd => rfl); (case hg => rfl); (case hr => first | (go_simp; done) | (go_simp; rfl)); intro gb242 hg w11 hbox hb; have n0_ := Aside0.mk (blk_below (g := gb241) (o := .cells #[.slice A0_0 l0_0.length c0_0] 28 (0, 0)) (by (with_reducible repeat (first | refine blk_drewN ?_ _ | refine blk_drew ?_ | refine blk_alloc ?_ _)); exact BK241.out) hb); have n1_ := Aside0.mk (below_step (by repeat (first | (with_reducible first | exact HB.out | apply below_alloc | apply pw_below_drewN | apply below_drew1 | refine below_set ?_ GE241.out) | exact HB.out)) hb); have n2_ := Aside0.mk (hbox); have n3_ := Aside0.mk ((by rw [hg]; exact (below_size (by repeat (first | (with_reducible first | exact HB.out | apply below_alloc | apply pw_below_drewN | apply below_drew1 | refine below_set ?_ GE241.out) | exact HB.out))) : w.heap.size ≤ gb242)); have n4_ := Aside0.mk ((by rw [hg]; exact (below_size (by repeat (first | (with_reducible first | exact HB.out | apply below_alloc | apply pw_below_drewN | apply below_drew1 | refine below_set ?_ GE241.out) | exact HB.out))) : w.heap.size ≤ gb242)); have n5_ := Aside0.mk ((by rw [hg]; exact Nat.ne_of_lt (blk_lt (g := gb241) (o := .cells #[.slice A0_0 l0_0.length c0_0] 28 (0, 0)) (by (with_reducible repeat (first | refine blk_drewN ?_ _ | refine blk_drew ?_ | refine blk_alloc ?_ _)); exact BK241.out)) : gb241 ≠ gb242)); have n6_ := Aside0.mk ((by rw [hg]; exact Nat.ne_of_gt (blk_lt (g := gb241) (o := .cells #[.slice A0_0 l0_0.length c0_0] 28 (0, 0)) (by (with_reducible repeat (first | refine blk_drewN ?_ _ | refine blk_drew ?_ | refine blk_alloc ?_ _)); exact BK241.out)) : gb242 ≠ gb241)); clear BK241; clear HB; have BK241 := n0_; have HB := n1_; have BK242 := n2_; have GW242 := n3_; have GE242 := n4_; have NB241_242 := n5_; have NB242_241 := n6_; clear n0_ n1_ n2_ n3_ n4_ n5_ n6_; clear hb hbox hg; have hnb12 := NB241_242.out; have hnc12 := NB242_241.out; have hcz13_0 : w11.cell? ⟨gb241, 0, none⟩ = some (.slice A0_0 l0_0.length c0_0) := (blk_cell BK241.out 0).trans rfl; have hfz13_0 := blk_frozen BK241.out 0; have hcz14_0 : w11.cell? ⟨gb242, 0, none⟩ = some (.slice A1_0 l1_0.length c1_0) := (blk_cell BK242.out 0).trans rfl; have hfz14_0 := blk_frozen BK242.out 0) | ((with_reducible refine gate_callee (f := 12) rfl ?_); refine goesL_ (some 9) rfl rfl Try.func12 (by kernel_rfl) rfl #[.slice A0_0 l0_0.length c0_0, .slice A1_0 l1_0.length c1_0] rfl (by (try simp only [List.map_toArray, List.map_cons, List.map_nil]); first | done | rfl | (simp only [List.length_drop, List.length_take]; rfl)) ?_; (with_reducible refine (laws_eqInt64S.calls k _ _ l0_0 _ _ l1_0 false _ ?side1 ?side2 ?side3 ?side4 A3.out).mono ?_); (case side1 => repeat (first | exact (Kd.C_below HR0_0.out HB.out) | (with_reducible refine Kd.C_alloc ?_ _) | (with_reducible refine Kd.C_drewN ?_ _) | (with_reducible refine Kd.C_drew ?_))); (case side2 => exact HC0_0.out); (case side3 => repeat (first | exact (Kd.C_below HR1_0.out HB.out) | (with_reducible refine Kd.C_alloc ?_ _) | (with_reducible refine Kd.C_drewN ?_ _) | (with_reducible refine Kd.C_drew ?_))); (case side4 => exact HC1_0.out); rintro e w' ⟨rfl, ⟨nd, rfl⟩⟩; refine ⟨_, rfl, ?_⟩))
    go_ret
    exact ⟨by first | rfl | (simp [errW_none, errW_some] <;> rfl) | (simp [*, errW_none, errW_some] <;> rfl), by repeat (first | (with_reducible first | exact HB.out | apply below_alloc | apply pw_below_drewN | apply below_drew1 | refine below_set ?_ GE241.out | refine below_set ?_ GE242.out) | exact HB.out)⟩

end Go.Proofs.Ytehincgnkgklkaa.E
