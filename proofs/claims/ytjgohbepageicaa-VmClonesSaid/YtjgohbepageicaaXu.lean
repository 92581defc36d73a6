/- A copy of a machine. -/
import Derived.Test.YtjgohbepageicaaXs
namespace Go.Proofs.Ytjgohbepageicaa.Gb
open Go Go.Proofs
set_option linter.unusedVariables false
set_option linter.unusedSimpArgs false
set_option linter.unusedSectionVars false

theorem Fn.permR {P : Program} {f : FuncId} {vs : Array Value} {G : Gh} {H : List Own} {R R' : Ending → Gh → List Own → Prop} (h : Fn P f vs G H R) (hr : ∀ e G' H', R e G' H' → ∃ H2, H'.Perm H2 ∧ R' e G' H2) : Fn P f vs G H R' :=
  fun w hs => (h w hs).mono fun e w' ⟨G', H', r, s, st⟩ => by
    obtain ⟨H2, h1, h2⟩ := hr _ _ _ r
    exact ⟨G', H2, h2, s.perm h1, st.perm h1⟩

theorem WK.permT {K : Act → World → Prop} {cx : Cx} {L : List (Nat × Value)} {G : Gh} {H H' : List Own} (p : H.Perm H') (k : WK K cx L G H') : WK K cx L G H := fun a w st => k a w (st.perm p)
/-- one frame out of all -/
theorem FRep.at {fs : List Fr} {bs : List Nat} {H : List Own} (h : FRep fs bs H) : ∀ {i : Nat} {f : Fr}, fs[i]? = some f → ∃ b H1 A B cap cm x y H2, bs[i]? = some b ∧ H = H1 ++ (frB b A f.stack.length cap f.proc f.pc B f.vars.length cm :: x :: y :: H2) ∧ VVec A cap f.stack x ∧ VVec B cm f.vars y := by
  induction h with
  | nil => intro i f hi; simp at hi
  | cons hx hy h ih =>
    rename_i f0 fs b bs H A B cap cm x y
    intro i f hi
    cases i with
    | zero => simp at hi; subst hi; exact ⟨b, [], A, B, cap, cm, x, y, H, rfl, rfl, hx, hy⟩
    | succ i =>
      obtain ⟨b', H1, A', B', cap', cm', x', y', H2, h1, h2, h3, h4⟩ := ih (by simpa using hi)
      exact ⟨b', frB b A f0.stack.length cap f0.proc f0.pc B f0.vars.length cm :: x :: y :: H1, A', B', cap', cm', x', y', H2, by simpa using h1, by rw [h2]; rfl, h3, h4⟩
attribute [local irreducible] Try.prog

theorem copied_at (G : Gh) {fs : List Fr} {bs : List Nat} {H : List Own} (h : FRep fs bs H) {i : Nat} {f : Fr} (hf : fs[i]? = some f) (hl : f.stack.length ≤ 1000000000) (hm : f.vars.length ≤ 1000000000) :
    ∃ b, bs[i]? = some b ∧ Fn Try.prog 50 #[.pointer (some ⟨b, 0, none⟩)] G H
      fun e G' H' => ∃ A' cap' B' cm' x' y', e = .returned (.agg (frC A' f.stack.length cap' f.proc f.pc B' f.vars.length cm')) ∧ G = G' ∧ H' = x' :: y' :: H ∧ VVec A' cap' f.stack x' ∧ VVec B' cm' f.vars y' := by
  obtain ⟨b, H1, A, B, cap, cm, x, y, H2, h1, rfl, h3, h4⟩ := h.at hf
  refine ⟨b, h1, ?_⟩
  refine ((copied_fn G b A cap f.proc f.pc B cm f.stack f.vars x y h3 h4 hl hm).pk (F := H1 ++ H2) ?_).permR ?_
  · exact .cons (Rem.app .here) (.cons (Rem.app .here) (.cons (Rem.app .here) .nil))
  · rintro e G' H' ⟨H3, ⟨A', cap', B', cm', x', y', he, rfl, rfl, hx', hy'⟩, rfl⟩
    refine ⟨x' :: y' :: (H1 ++ (frB b A f.stack.length cap f.proc f.pc B f.vars.length cm :: x :: y :: H2)), ?_, A', cap', B', cm', x', y', he, rfl, rfl, hx', hy'⟩
    exact .cons _ (.cons _ (List.perm_append_comm_assoc [_, _, _] H1 H2))

theorem copied_in (G : Gh) {fs : List Fr} {bs : List Nat} {H H0 F : List Own} (h : FRep fs bs H) (p : Pk H0 H F) {i : Nat} {f : Fr} (hf : fs[i]? = some f) (hl : f.stack.length ≤ 1000000000) (hm : f.vars.length ≤ 1000000000) :
    ∃ b, bs[i]? = some b ∧ Fn Try.prog 50 #[.pointer (some ⟨b, 0, none⟩)] G H0
      fun e G' H' => ∃ A' cap' B' cm' x' y', e = .returned (.agg (frC A' f.stack.length cap' f.proc f.pc B' f.vars.length cm')) ∧ G = G' ∧ H' = x' :: y' :: H0 ∧ VVec A' cap' f.stack x' ∧ VVec B' cm' f.vars y' := by
  obtain ⟨b, h1, h2⟩ := copied_at G h hf hl hm
  refine ⟨b, h1, (h2.pk p).permR ?_⟩
  rintro e G' H' ⟨H3, ⟨A', cap', B', cm', x', y', he, rfl, rfl, hx', hy'⟩, rfl⟩
  exact ⟨x' :: y' :: H0, .cons _ (.cons _ p.perm.symm), A', cap', B', cm', x', y', he, rfl, rfl, hx', hy'⟩

section
variable (G : Gh) (CA PA : Option Addr) (cc pc cn pn : Nat) (mb : Nat)
theorem Clone_fn (s : Mc) (H : List Own) (hR : MRep CA PA cc pc cn pn (.slice none 0 0) mb s H) (hm : madeB s = true) (hb : s.out.length * 40 ≤ 140737488355328) (hfr : s.frames.length ≤ 64) (hst : ∀ f ∈ s.frames, f.stack.length ≤ 128 ∧ f.vars.length ≤ 64) :
    Fn Try.prog 33 #[.pointer (some ⟨mb, 0, none⟩)] G H fun e G' H' => ∃ cb H1, e = .returned (.pointer (some ⟨cb, 0, none⟩)) ∧ G = G' ∧ MRep CA PA cc pc cn pn (.slice none 0 0) cb s H1 ∧ H' = H1 ++ H := by
  have hR0 := hR
  obtain ⟨FA, fcap, OA, ocap, ox, fx, bs, Hf, hF, hfv, ho, rfl⟩ := hR
  have hlen := hF.len
  have hl2 : bs.reverse.length = s.frames.length := by simp [hlen]
  refine Fn.enter Try.func33 rfl rfl fun w0 => ?_
  refine WC.seq ?_
  refine WC.region ?_
  refine WL.p (Gp.assign rfl) (by kernel_rfl) rfl ?_
  refine WL.nil ?_
  refine WK.un ?_
  refine WC.seq ?_
  refine WC.seq ?_
  refine WC.region ?_
  refine WL.p (Gp.move rfl) (by kernel_rfl) rfl ?_
  refine WL.op (by kernel_rfl) (OW.callK rfl (made_fn G CA PA cc pc cn pn (.slice none 0 0) mb s _ hR0) rfl fun v' G' H' h hg => ?_)
  obtain ⟨he, rfl, rfl⟩ := h
  cases he
  rw [hm]
  refine WL.p (Gp.notB rfl) (by kernel_rfl) rfl ?_
  refine WL.nil ?_
  refine WK.un ?_
  refine WC.cond_false rfl ?_
  refine WC.skip ?_
  refine WK.un ?_
  refine WC.seq ?_
  refine WC.region ?_
  refine WL.p (Gp.move rfl) (by kernel_rfl) rfl ?_
  refine WL.p (Gp.nilCheck rfl) (by kernel_rfl) rfl ?_
  refine WL.v (Gv.loadN rfl (by (repeat first | exact .here | apply At.there)) rfl rfl) (by kernel_rfl) rfl ?_
  refine WL.op (by kernel_rfl) (OW.alloc rfl fun b3 => ?_)
  refine WL.op (by kernel_rfl) (OW.store rfl rfl (by (repeat first | exact .here | apply At.there)) rfl (by rfl) (by rfl) (by kernel_rfl) (by rfl) ?_ rfl)
  refine WL.nil ?_
  refine WK.un ?_
  refine WC.seq ?_
  refine WC.region ?_
  refine WL.p (Gp.move rfl) (by kernel_rfl) rfl ?_
  refine WL.op (by kernel_rfl) (OW.callK rfl (Outcome_fn G CA PA cc pc cn pn (.slice none 0 0) mb s _ hR0 hm hb) rfl fun v' G' H' h hg => ?_)
  obtain ⟨A1, cap1, x1, he, rfl, hx1, rfl⟩ := h
  cases he
  refine WL.swap ?_
  refine WL.p (Gp.fieldAddr rfl) (by kernel_rfl) rfl ?_
  refine WL.op (by kernel_rfl) (OW.store rfl rfl (by (repeat first | exact .here | apply At.there)) rfl (by rfl) (by rfl) (by kernel_rfl) (by rfl) ?_ rfl)
  refine WL.nil ?_
  refine WK.un ?_
  refine WC.seq ?_
  refine WC.region ?_
  refine WL.p (Gp.fieldAddr rfl) (by kernel_rfl) rfl ?_
  refine WL.op (by kernel_rfl) (OW.store rfl rfl (by (repeat first | exact .here | apply At.there)) rfl (by rfl) (by rfl) (by kernel_rfl) (by rfl) ?_ rfl)
  refine WL.nil ?_
  refine WK.un ?_
  refine WC.pk (H' := mcB b3 (.slice CA cn cc) (.slice PA pn pc) (.slice none 0 0) none 0 0 s.en s.val A1 s.out.length cap1 s.steps s.ended :: x1 :: mcB mb (.slice CA cn cc) (.slice PA pn pc) (.slice none 0 0) FA bs.reverse.length fcap s.en s.val OA s.out.length ocap s.steps s.ended :: ox :: fx :: Hf) (by repeat (first | exact Pk.nil | exact Pk.all | exact Pk.app | exact Pk.appR | with_reducible apply Pk.na | (apply Pk.cons; (repeat first | exact .here | apply Rem.there | apply Rem.app)) | apply Pk.assoc | apply Pk.skip | apply Pk.skipA)) ?_
  refine WC.nothing ?_
  refine WC.seq ?_
  refine WC.seq ?_
  refine WC.region ?_
  refine WL.p (Gp.move rfl) (by kernel_rfl) rfl ?_
  refine WL.p (Gp.nilCheck rfl) (by kernel_rfl) rfl ?_
  refine WL.p (Gp.fieldAddr rfl) (by kernel_rfl) rfl ?_
  (first | (refine WL.v (Gv.load1 rfl (by (repeat first | exact .here | apply At.there)) (by first | rfl | assumption)) (by kernel_rfl) rfl ?_) | (refine WL.v (Gv.loadN rfl (by (repeat first | exact .here | apply At.there)) (by rfl) (by rfl)) (by kernel_rfl) rfl ?_) | (refine WL.v (Gv.loadG1 rfl (by assumption) rfl) (by kernel_rfl) rfl ?_) | (refine WL.v (Gv.loadG0 rfl (by assumption) rfl) (by kernel_rfl) rfl ?_) | (refine WL.v (Gv.loadGN rfl (by assumption) rfl) (by kernel_rfl) rfl ?_))
  (first | refine WL.p (Gp.lenSl rfl) (by kernel_rfl) rfl ?_ | refine WL.p (Gp.lenS rfl) (by kernel_rfl) rfl ?_)
  refine WL.p (Gp.move rfl) (by kernel_rfl) rfl ?_
  refine WL.nil ?_
  refine WK.un ?_
  refine WC.block ?_  -- 0
  refine WC.loop (X := Nat × Option Addr × Nat × Own × List Nat × List Own) (fun t => [(22, .int .i64 t.1), (21, .int .i64 bs.reverse.length), (20, .slice FA bs.reverse.length fcap), (3, .pointer (some ⟨b3, 0, none⟩))]) (fun _ => G)
    (fun t => t.2.2.2.1 :: mcB b3 (.slice CA cn cc) (.slice PA pn pc) (.slice none 0 0) t.2.1 t.2.2.2.2.1.reverse.length t.2.2.1 s.en s.val A1 s.out.length cap1 s.steps s.ended :: x1 :: mcB mb (.slice CA cn cc) (.slice PA pn pc) (.slice none 0 0) FA bs.reverse.length fcap s.en s.val OA s.out.length ocap s.steps s.ended :: ox :: fx :: (t.2.2.2.2.2 ++ Hf))
    (fun t => s.frames.length - t.1) (fun t => t.1 ≤ s.frames.length ∧ t.2.2.2.2.1.length = t.1 ∧ PVec t.2.1 t.2.2.1 t.2.2.2.2.1.reverse t.2.2.2.1 ∧ FRep (s.frames.drop (s.frames.length - t.1)) t.2.2.2.2.1 t.2.2.2.2.2)
    (0, none, 0, .spare 0 0 0, [], []) ⟨Nat.zero_le _, rfl, ⟨rfl, .inl ⟨rfl, rfl, rfl, rfl⟩⟩, by simp; exact .nil⟩ (by exact ⟨rfl, rfl, rfl, rfl, trivial⟩) rfl (List.Sublist.refl _) fun t ht => ?_
  obtain ⟨j, FB, fcb, fy, cs, Hg⟩ := t
  obtain ⟨hj, hcl, hfy, hG⟩ := ht
  dsimp only at hj hcl hfy hG
  refine WC.seq ?_
  refine WC.region ?_
  (first | refine WL.p (Gp.ltI rfl rfl) (by kernel_rfl) rfl ?_ | refine WL.p (Gp.ltS rfl rfl) (by kernel_rfl) rfl ?_)
  refine WL.nil ?_
  refine WK.un ?_
  refine WC.seq ?_
  refine WC.cond rfl (fun hc3 => ?_) (fun hc3 => ?_)
  · -- yes
    have hlt : j < s.frames.length := by have h := of_decide_eq_true hc3; omega
    have hi : s.frames.length - 1 - j < s.frames.length := by omega
    obtain ⟨f, hf⟩ : ∃ f, s.frames[s.frames.length - 1 - j]? = some f := ⟨_, List.getElem?_eq_getElem hi⟩
    obtain ⟨hs1, hs2⟩ := hst f (List.mem_of_getElem? hf)
    have hcr : cs.reverse.length = cs.length := List.length_reverse
    obtain ⟨b, hbi, hcp⟩ := copied_in (H0 := fy :: mcB b3 (.slice CA cn cc) (.slice PA pn pc) (.slice none 0 0) FB cs.reverse.length fcb s.en s.val A1 s.out.length cap1 s.steps s.ended :: x1 :: mcB mb (.slice CA cn cc) (.slice PA pn pc) (.slice none 0 0) FA bs.reverse.length fcap s.en s.val OA s.out.length ocap s.steps s.ended :: ox :: fx :: (Hg ++ Hf)) G hF (.skip (.skip (.skip (.skip (.skip (.skip .appR)))))) hf (by omega) (by omega)
    have hbr : (ptrs bs.reverse)[j]? = some (.pointer (some ⟨b, 0, none⟩)) := by
      unfold ptrs
      rw [List.getElem?_map, List.getElem?_reverse (by omega), hlen, hbi]; rfl
    obtain ⟨fb, fo, rfl, hread⟩ := (Vec.rds hfv (.here (l := [])) : Rds G [fx] FA _).resolve_left (fun h0 => by rw [h0] at hbr; simp at hbr)
    refine WC.skip ?_
    refine WK.un ?_
    refine WC.seq ?_
    refine WC.block ?_  -- 1
    refine WC.seq ?_
    refine WC.region ?_
    refine WL.p (Gp.indexAddr rfl rfl (by first | assumption | omega | decide) (by first | assumption | omega | decide | (simp only [List.length_cons, List.length_nil]; decide))) (by kernel_rfl) rfl ?_
    refine WL.v (Gv.loadR1 (i := ((j : Nat) : Int).toNat * 1) rfl hread (.cons _ (.cons _ (.cons _ (.cons _ (.cons _ (.cons_cons _ (List.nil_sublist _))))))) (by simpa using hbr)) (by kernel_rfl) rfl ?_
    refine WL.p (Gp.assign rfl) (by kernel_rfl) rfl ?_
    refine WL.nil ?_
    refine WK.un ?_
    refine WC.seq ?_
    refine WC.region ?_
    refine WL.p (Gp.move rfl) (by kernel_rfl) rfl ?_
    refine WL.op (by kernel_rfl) (OW.callK rfl (hcp) rfl fun v' G' H' h hg => ?_)
    obtain ⟨A2, cap2, B2, cm2, x2, y2, he, rfl, rfl, hx2, hy2⟩ := h
    cases he
    refine WL.op (by kernel_rfl) (OW.alloc rfl fun b4 => ?_)
    refine WL.op (by kernel_rfl) (OW.store rfl rfl (by (repeat first | exact .here | apply At.there)) rfl (by rfl) (by rfl) (by kernel_rfl) (by rfl) ?_ rfl)
    refine WL.nil ?_
    refine WK.un ?_
    refine WC.region ?_
    refine WL.p (Gp.fieldAddr rfl) (by kernel_rfl) rfl ?_
    (first | (refine WL.v (Gv.load1 rfl (by (repeat first | exact .here | apply At.there)) (by first | rfl | assumption)) (by kernel_rfl) rfl ?_) | (refine WL.v (Gv.loadN rfl (by (repeat first | exact .here | apply At.there)) (by rfl) (by rfl)) (by kernel_rfl) rfl ?_) | (refine WL.v (Gv.loadG1 rfl (by assumption) rfl) (by kernel_rfl) rfl ?_) | (refine WL.v (Gv.loadG0 rfl (by assumption) rfl) (by kernel_rfl) rfl ?_) | (refine WL.v (Gv.loadGN rfl (by assumption) rfl) (by kernel_rfl) rfl ?_))
    refine WL.op (by kernel_rfl) (OW.buildSlice rfl (by kernel_rfl) (by kernel_rfl) (by rfl) rfl fun b5 => ?_)
    refine WL.op (by kernel_rfl) (OW.append rfl rfl (by kernel_rfl) (by kernel_rfl) hfy (by (repeat first | exact .here | apply At.there)) (Rds.blk0 (cs := ptrs [b4]) .here rfl) rfl rfl (by omega) (by omega) rfl fun FA' fcap' fx' hx' => ?_)
    refine WL.p (Gp.fieldAddr rfl) (by kernel_rfl) rfl ?_
    refine WL.op (by kernel_rfl) (OW.store rfl rfl (by (repeat first | exact .here | apply At.there)) rfl (by rfl) (by rfl) (by kernel_rfl) (by rfl) ?_ rfl)
    refine WL.nil ?_
    refine WK.un ?_
    refine WC.region ?_
    refine WL.p (Gp.add' rfl rfl (show IntKind.i64.wrap ((j : Int) + 1) = ((j + 1 : Nat) : Int) by rw [wrap_small (by omega) (by omega)]; omega)) (by kernel_rfl) rfl ?_
    refine WL.p (Gp.move rfl) (by kernel_rfl) rfl ?_
    refine WL.nil ?_
    refine WK.un ?_
    refine WK.pk (H' := fx' :: mcB b3 (.slice CA cn cc) (.slice PA pn pc) (.slice none 0 0) FA' (cs.reverse.length + 1) fcap' s.en s.val A1 s.out.length cap1 s.steps s.ended :: x1 :: mcB mb (.slice CA cn cc) (.slice PA pn pc) (.slice none 0 0) (some ⟨fb, fo, none⟩) bs.reverse.length fcap s.en s.val OA s.out.length ocap s.steps s.ended :: ox :: fx :: frB b4 A2 f.stack.length cap2 f.proc f.pc B2 f.vars.length cm2 :: x2 :: y2 :: (Hg ++ Hf)) (by repeat (first | exact Pk.nil | exact Pk.all | exact Pk.app | exact Pk.appR | with_reducible apply Pk.na | (apply Pk.cons; (repeat first | exact .here | apply Rem.there | apply Rem.app)) | apply Pk.assoc | apply Pk.skip | apply Pk.skipA)) ?_
    have e2 : (b4 :: cs).reverse.length = cs.reverse.length + 1 := by simp
    have e3 : ptrs (b4 :: cs).reverse = ptrs cs.reverse ++ ptrs [b4] := by simp [ptrs]
    have e4 : s.frames.drop (s.frames.length - (j + 1)) = f :: s.frames.drop (s.frames.length - j) := by
      rw [show s.frames.length - (j + 1) = s.frames.length - 1 - j by omega, List.drop_eq_getElem_cons hi, show s.frames.length - 1 - j + 1 = s.frames.length - j by omega]
      congr 1
      rw [List.getElem?_eq_getElem hi] at hf
      exact Option.some.inj hf
    exact WK.again (j + 1, FA', fcap', fx', b4 :: cs, frB b4 A2 f.stack.length cap2 f.proc f.pc B2 f.vars.length cm2 :: x2 :: y2 :: Hg) (by dsimp only; omega) ⟨by dsimp only; omega, by simp [hcl], by unfold PVec; dsimp only; rw [e2, e3]; exact hx', by dsimp only; rw [e4]; exact .cons hx2 hy2 hG⟩ (by exact ⟨rfl, rfl, rfl, rfl, trivial⟩) rfl (by dsimp only; rw [e2]; exact List.Sublist.refl _)
  · -- no
    obtain rfl : j = s.frames.length := by have h := of_decide_eq_false hc3; omega
    rw [Nat.sub_self, List.drop_zero] at hG
    refine WC.exit ?_
    refine WK.un ?_
    refine WC.seq ?_
    refine WC.region ?_
    refine WL.p (Gp.assign rfl) (by kernel_rfl) rfl ?_
    refine WL.nil ?_
    refine WK.un ?_
    refine WC.ret ?_
    refine WK.un ?_
    refine WK.permT (H' := (mcB b3 (.slice CA cn cc) (.slice PA pn pc) (.slice none 0 0) FB cs.reverse.length fcb s.en s.val A1 s.out.length cap1 s.steps s.ended :: x1 :: fy :: Hg) ++ (mcB mb (.slice CA cn cc) (.slice PA pn pc) (.slice none 0 0) FA bs.reverse.length fcap s.en s.val OA s.out.length ocap s.steps s.ended :: ox :: fx :: Hf)) ((List.Perm.swap _ _ _).trans (.cons _ ((List.Perm.swap _ _ _).trans (.cons _ (.cons _ (List.perm_append_comm_assoc [_, _, _] Hg Hf)))))) ?_
    exact QF.p1 (.inl rfl) rfl (.tmp rfl) ⟨b3, _, rfl, rfl, ⟨FB, fcb, A1, cap1, x1, fy, cs, Hg, hG, hfy, hx1, rfl⟩, rfl⟩ .all
end
end Go.Proofs.Ytjgohbepageicaa.Gb
