/- An instruction is carried out, whichever it is. A step: what was put off, and the step itself. A step. A machine: what it is, in memory, and what a step makes of it. What holds of a machine at each step. Many steps; what a machine tells. Many steps. A program of its own. A machine is started. What a machine tells; a run. A run. Layer 22: the same objects, linked in another order and with others beside them, run the same (no program in sight). Layer 22: what the small objects come to (no program in sight). Layer 22: what must come, whatever else is so: walked. Layer 22: Point, in the program's way and in the document's; ObjectPoints walked. Values and points, compared. Objects compared, by the program and by the document: walked. Objects and programs compared, by the program and by the document; ObjectSames: walked. Layer 22, the document's: which procedure meets a need, what is missing, what stands before: walked. -/
import Derived.Test.YtcnlkfocbbkdhaaGreatDoorWg
set_option linter.unusedVariables false
set_option linter.unusedSimpArgs false
set_option linter.unusedSectionVars false
namespace Go.Proofs.YtcnlkfocbbkdhaaGreatDoor.Gb
open Go Go.Proofs
section
attribute [local irreducible] Tryz.prog
section
variable (G:Gh) (pg:Pg) (CA PA:Option Addr) (cc pc:Nat) (hC:Sl Kd.val G CA pg.consts) (hP:Sl Kd.prc G PA pg.procs)
  (mb:Nat) (c3:Value) (FA:Option Addr) (fcap:Nat) (en:Int) (w:V) (OA:Option Addr) (ocap:Nat) (st:Int) (ed:Bool) (out:List V) (ox fx:Own) (Hx:List Own) (RL:List V→List Own→Prop)
  (b:Nat) (A:Option Addr) (cap pi:Nat) (pr:Pr) (hpr:pg.procs[pi]? =some pr) (B:Option Addr) (vars:List V) (cm:Nat) (x y:Own) (bs:List Nat) (l:List V) (k:Nat) (hkb:k≤100000000000000∧OpS pr.code)
include hC hP hpr hkb
theorem do_plain (c:Int) (hc:¬(c=1∨c=2∨c=3∨c=5∨c=6∨c=7)) (n:Int) (hi:pr.code[k]? =some (c,n)) (hv:VVec A cap l x) (hl:l.length≤1000000) (hy:VVec B cm vars y) (hz:∀v∈l,v.s.size≤400000000000) (ho:VVec OA ocap out ox) (hL:Lv G mb (mcB mb (.slice CA pg.consts.length cc) (.slice PA pg.procs.length pc) c3 FA bs.length fcap en w OA out.length ocap st ed) fx Hx RL):Fn Tryz.prog 167 #[.pointer (some ⟨mb,0,none⟩), .pointer (some ⟨b,0,none⟩)] G
  (mcB mb (.slice CA pg.consts.length cc) (.slice PA pg.procs.length pc) c3 FA bs.length fcap en w OA out.length ocap st ed::ox::frB b A l.length cap pi k B vars.length cm::x::y::fx::Hx)
  (DoR G mb (.slice CA pg.consts.length cc) (.slice PA pg.procs.length pc) c3 FA fcap en w OA ocap st ed out ox fx Hx RL b A cap pi B vars cm x y bs (k+1) (doR pg pr l k vars bs.length out.length)):=by
 have hc10:c=10:=by
  rcases hkb.2 _ (List.mem_of_getElem? hi)with h | h | h
  ·exact absurd (.inl h) hc
  ·exact absurd (.inr (.inr (.inr (.inr (.inr h))))) hc
  ·exact h
 simp only[not_or]at hc
 obtain⟨h1,h2,h3,h5,h6,h7⟩:=hc
 rw[show doR pg pr l k vars bs.length out.length=(if n≠0 then .halt 6 else plainD pr.result l k vars c out.length) by simp[doR,hi,h1,h2,h3,h5,h6,h7]]
 obtain⟨pb,po,cs,hPA,⟨QA,qc,IA,ic,rfl,hQ,hI⟩,hcs⟩:=hP pi pr hpr
 obtain⟨ib,io,cs2,rfl,hK,hcs2⟩:=hI k (c,n) hi
 obtain rfl:cs2=[.int .i64 c, .int .i64 n]:=hK
 have hk:k<pr.code.length:=(List.getElem?_eq_some_iff.1 hi).1
 have hpl:pi<pg.procs.length:=(List.getElem?_eq_some_iff.1 hpr).1
 subst hPA
 refine Fn.enter Tryz.func167 rfl rfl fun w0=>?_
 refine WC.seq ?_
 refine WC.draw mixed ?_
 refine za.move 0 ?_
 refine za.nil 1 ?_
 refine za.fa 2 ?_
 refine za.fa 3 ?_
 refine za.ld 4 ?_
 refine za.move 5 ?_
 refine za.nil 6 ?_
 refine za.fa 7 ?_
 refine za.ld 8 ?_
 refine za.ix 9 ?_
 refine WA.vv 10 rfl (Gv.loadGN rfl hcs rfl) ?_
 refine WA.oo 11 rfl (OW.alloc rfl fun b1=>?_)
 refine za.st 12 ?_
 refine WA.done kr ?_
 refine WK.un ?_
 refine WC.seq ?_
 refine WC.draw mixed ?_
 refine za.move 0 ?_
 refine za.nil 1 ?_
 refine za.fa 2 ?_
 refine za.ld 3 ?_
 refine WA.pp 4 rfl (Gp.geI' rfl rfl (show decide ((0:Int)≤(k:Int))=true by simp)) ?_
 refine za.move 5 ?_
 refine za.move 6 ?_
 refine za.nil 7 ?_
 refine za.fa 8 ?_
 refine za.ld 9 ?_
 refine za.fa 10 ?_
 refine za.ld 11 ?_
 refine za.len 12 ?_
 refine WA.pp 13 rfl (Gp.ltI' rfl rfl (show decide ((k:Int)<(pr.code.length:Int))=true by simp;omega)) ?_
 refine za.pick 14 ?_
 refine WA.oo 15 rfl (OW.callR rfl (Hf:=[]) (List.Perm.refl _) (need_ok G) rfl (by rintro e G' H' ⟨h,_⟩;exact⟨_,h⟩) fun v' G' H' h hg=>?_)
 obtain⟨he,rfl,rfl⟩:=h
 cases he
 refine WA.done kr ?_
 refine WK.un ?_
 refine WC.seq ?_
 refine WC.draw mixed ?_
 refine za.fa 0 ?_
 refine za.ld 1 ?_
 refine za.move 2 ?_
 refine za.nil 3 ?_
 refine za.fa 4 ?_
 refine za.ld 5 ?_
 refine za.ix 6 ?_
 refine WA.vv 7 rfl (Gv.loadGN rfl hcs2 rfl) ?_
 refine WA.oo 8 rfl (OW.alloc rfl fun b2=>?_)
 refine za.st 9 ?_
 refine WA.done kr ?_
 refine WK.un ?_
 refine WC.seq ?_
 refine WC.region ?_
 refine zw.move ?_
 refine zw.nil ?_
 refine zw.fa ?_
 refine zw.ld ?_
 refine WL.pp (Gp.add' rfl rfl (show IntKind.i64.wrap ((k:Int)+1)=((k+1:Nat):Int) by rw[wrap_small (by omega) (by omega)];omega)) ?_
 refine zw.nil ?_
 refine zw.fa ?_
 refine zw.st ?_
 refine WL.nil ?_
 refine WK.un ?_
 refine WC.seq ?_
 refine WC.region ?_
 refine zw.fa ?_
 refine zw.ld ?_
 refine WL.nil ?_
 refine WK.un ?_
 refine WC.pk (H':= .blk b2 (.cells #[.int .i64 c, .int .i64 n] 50 (0,0)):: .blk b1 (.cells #[.string pr.name, .bool pr.exp, .slice QA pr.params.length qc, .int .i64 pr.locals, .int .i64 pr.result, .slice (some ⟨ib,io,none⟩) pr.code.length ic] 47 (0,0))::mcB mb (.slice CA pg.consts.length cc) (.slice (some ⟨pb,po,none⟩) pg.procs.length pc) c3 FA bs.length fcap en w OA out.length ocap st ed::ox::frB b A l.length cap pi (k+1:Nat) B vars.length cm::x::y::fx::Hx) pkA ?_
 repeat (first | refine WC.seq ?_ | refine WC.block ?_ | (refine WC.skip ?_;refine WK.un ?_) | (refine WC.exit ?_;refine WK.un ?_))
 refine WC.region ?_
 refine zw.eq ?_
 refine zw.assign ?_
 refine WL.nil ?_
 refine WK.un ?_
 refine WC.cond rfl (fun hc=>absurd (by simpa using hc) h1) (fun _=>?_)
 repeat (first | refine WC.seq ?_ | refine WC.block ?_ | (refine WC.skip ?_;refine WK.un ?_) | (refine WC.exit ?_;refine WK.un ?_))
 refine WC.region ?_
 refine zw.eq ?_
 refine zw.assign ?_
 refine WL.nil ?_
 refine WK.un ?_
 refine WC.cond rfl (fun hc=>absurd (by simpa using hc) h2) (fun _=>?_)
 repeat (first | refine WC.seq ?_ | refine WC.block ?_ | (refine WC.skip ?_;refine WK.un ?_) | (refine WC.exit ?_;refine WK.un ?_))
 refine WC.region ?_
 refine zw.eq ?_
 refine zw.assign ?_
 refine WL.nil ?_
 refine WK.un ?_
 refine WC.cond rfl (fun hc=>absurd (by simpa using hc) h3) (fun _=>?_)
 repeat (first | refine WC.seq ?_ | refine WC.block ?_ | (refine WC.skip ?_;refine WK.un ?_) | (refine WC.exit ?_;refine WK.un ?_))
 refine WC.region ?_
 refine zw.eq ?_
 refine zw.assign ?_
 refine WL.nil ?_
 refine WK.un ?_
 refine WC.cond rfl (fun hc=>absurd (by simpa using hc) h5) (fun _=>?_)
 repeat (first | refine WC.seq ?_ | refine WC.block ?_ | (refine WC.skip ?_;refine WK.un ?_) | (refine WC.exit ?_;refine WK.un ?_))
 refine WC.region ?_
 refine zw.eq ?_
 refine zw.assign ?_
 refine WL.nil ?_
 refine WK.un ?_
 refine WC.cond rfl (fun hc=>absurd (by simpa using hc) h6) (fun _=>?_)
 repeat (first | refine WC.seq ?_ | refine WC.block ?_ | (refine WC.skip ?_;refine WK.un ?_) | (refine WC.exit ?_;refine WK.un ?_))
 refine WC.region ?_
 refine zw.eq ?_
 refine zw.assign ?_
 refine WL.nil ?_
 refine WK.un ?_
 refine WC.cond rfl (fun hc=>absurd (by simpa using hc) h7) (fun _=>?_)
 repeat (first | refine WC.seq ?_ | refine WC.block ?_ | (refine WC.skip ?_;refine WK.un ?_) | (refine WC.exit ?_;refine WK.un ?_))
 refine WC.region ?_
 refine zw.fa ?_
 refine zw.ld ?_
 by_cases hn:n≠0
 ·rw[if_pos hn]
  refine WL.pp (Gp.eqI' rfl rfl (show(n==0)=false by simpa using hn)) ?_
  refine WL.oo (OW.call rfl (Hf:=[]) (List.Perm.refl _) (need_no _) rfl (fun v G' H' h _=>by cases h.1) (fun ch G' H' h _=>?_) (fun G' H' h=>by cases h.1))
  obtain⟨he,rfl,rfl⟩:=h
  cases he
  refine WK.un ?_
  exact QF.panicP (⟨rfl,rfl,_,Left.of b A l.length cap pi (k+1:Nat) B vars.length cm,rfl⟩)
 rw[if_neg hn]
 refine WL.pp (Gp.eqI' rfl rfl (show(n==0)=true by simpa using hn)) ?_
 refine WL.oo (OW.callR rfl (Hf:=[]) (List.Perm.refl _) (need_ok G) rfl (by rintro e G' H' ⟨h,_⟩;exact⟨_,h⟩) fun v' G' H' h hg=>?_)
 obtain⟨he,rfl,rfl⟩:=h
 cases he
 refine WL.nil ?_
 refine WK.un ?_
 refine WC.region ?_
 refine zw.move ?_
 refine zw.move ?_
 refine zw.ld ?_
 refine zw.fa ?_
 refine zw.ld ?_
 have hpf:=plain_fn G mb (.slice CA pg.consts.length cc) (.slice (some ⟨pb,po,none⟩) pg.procs.length pc) c3 FA bs.length fcap en w OA ocap st ed out ox fx Hx RL b A cap pi (k+1:Nat) B vars.length cm x l pr.name pr.exp (.slice QA pr.params.length qc) (.slice (some ⟨ib,io,none⟩) pr.code.length ic) pr.locals pr.result c hc10 hv hl hz ho hL
 cases hq:plainR pr.result l c out.length with
 | halt e=>
  rw[hq]at hpf
  rw[show plainD pr.result l k vars c out.length= .halt e by rw[plainD,hq]]
  refine WL.oo (OW.call rfl (Pk.perm pkA) hpf rfl (fun v' G' H' h hg=>by cases h.2.1) (fun ch G' H' h hg=>?_) (fun G' H' h=>by cases h.2.1))
  obtain⟨rfl,he,z,⟨c',hc',hz'⟩,rfl⟩:=h
  cases he
  cases hz'
  refine WK.un ?_
  refine WK.swap ?_
  exact QF.panicP ⟨rfl,rfl,_,⟨c',hc',rfl⟩,rfl⟩ pkA
 | set r=>
  rw[hq]at hpf
  rw[show plainD pr.result l k vars c out.length= .go r (k+1) vars by rw[plainD,hq]]
  refine WL.oo (OW.callR rfl (Pk.perm pkA) hpf rfl (by rintro e G' H' ⟨_,_,_,_,h,_⟩;exact⟨_,h⟩) fun v' G' H' h hg=>?_)
  obtain⟨rfl,A',cap',x',he,hv',rfl⟩:=h
  cases he
  refine WL.nil ?_
  refine WK.un ?_
  refine WK.swap ?_
  exact QF.p0 (.inr rfl) rfl ⟨rfl,A',cap',x',y,rfl,hv',hy,rfl⟩ pkA
 | print r v=>
  rw[hq]at hpf
  rw[show plainD pr.result l k vars c out.length= .print r v by rw[plainD,hq]]
  refine WL.oo (OW.callR rfl (Pk.perm pkA) hpf rfl (by rintro e G' H' ⟨_,_,_,_,h,_⟩;exact⟨_,h⟩) fun v' G' H' h hg=>?_)
  obtain⟨rfl,OA',ocap',ox',he,ho',hv',rfl⟩:=h
  cases he
  refine WL.nil ?_
  refine WK.un ?_
  refine WK.swap ?_
  exact QF.p0 (.inr rfl) rfl ⟨rfl,OA',ocap',ox',rfl,ho',hv',rfl⟩ pkA
 | leave r g=>
  rw[hq]at hpf
  rw[show plainD pr.result l k vars c out.length= .leave r g by rw[plainD,hq]]
  refine WL.oo (OW.callR rfl (Pk.perm pkA) hpf rfl (by rintro e G' H' ⟨_,_,h,_⟩;exact⟨_,h⟩) fun v' G' H' h hg=>?_)
  obtain⟨rfl,H1,he,hv',hR,rfl⟩:=h
  cases he
  refine WL.nil ?_
  refine WK.un ?_
  refine WK.swap ?_
  exact QF.p0 (.inr rfl) rfl ⟨rfl,H1,rfl,hR,rfl⟩ pkA
theorem do_none (hi:pr.code[k]? =none) (hv:VVec A cap l x) (hl:l.length≤1000000):Fn Tryz.prog 167 #[.pointer (some ⟨mb,0,none⟩), .pointer (some ⟨b,0,none⟩)] G
  (mcB mb (.slice CA pg.consts.length cc) (.slice PA pg.procs.length pc) c3 FA bs.length fcap en w OA out.length ocap st ed::ox::frB b A l.length cap pi k B vars.length cm::x::y::fx::Hx)
  (DoR G mb (.slice CA pg.consts.length cc) (.slice PA pg.procs.length pc) c3 FA fcap en w OA ocap st ed out ox fx Hx RL b A cap pi B vars cm x y bs (k+1) (doR pg pr l k vars bs.length out.length)):=by
 rw[show doR pg pr l k vars bs.length out.length=DR.halt 6 by simp[doR,hi]]
 obtain⟨pb,po,cs,hPA,⟨QA,qc,IA,ic,rfl,hQ,hI⟩,hcs⟩:=hP pi pr hpr
 have hpl:pi<pg.procs.length:=(List.getElem?_eq_some_iff.1 hpr).1
 subst hPA
 refine Fn.enter Tryz.func167 rfl rfl fun w0=>?_
 refine WC.seq ?_
 refine WC.draw mixed ?_
 refine za.move 0 ?_
 refine za.nil 1 ?_
 refine za.fa 2 ?_
 refine za.fa 3 ?_
 refine za.ld 4 ?_
 refine za.move 5 ?_
 refine za.nil 6 ?_
 refine za.fa 7 ?_
 refine za.ld 8 ?_
 refine za.ix 9 ?_
 refine WA.vv 10 rfl (Gv.loadGN rfl hcs rfl) ?_
 refine WA.oo 11 rfl (OW.alloc rfl fun b1=>?_)
 refine za.st 12 ?_
 refine WA.done kr ?_
 refine WK.un ?_
 refine WC.seq ?_
 refine WC.draw mixed ?_
 refine za.move 0 ?_
 refine za.nil 1 ?_
 refine za.fa 2 ?_
 refine za.ld 3 ?_
 refine WA.pp 4 rfl (Gp.geI' rfl rfl (show decide ((0:Int)≤(k:Int))=true by simp)) ?_
 refine za.move 5 ?_
 refine za.move 6 ?_
 refine za.nil 7 ?_
 refine za.fa 8 ?_
 refine za.ld 9 ?_
 refine za.fa 10 ?_
 refine za.ld 11 ?_
 refine za.len 12 ?_
 refine WA.pp 13 rfl (Gp.ltI' rfl rfl (show decide ((k:Int)<(pr.code.length:Int))=false by have:=List.getElem?_eq_none_iff.1 hi;simp;omega)) ?_
 refine za.pick 14 ?_
 refine WA.oo 15 rfl (OW.call rfl (Hf:=[]) (List.Perm.refl _) (need_no _) rfl (fun v G' H' h _=>by cases h.1) (fun ch G' H' h _=>?_) (fun G' H' h=>by cases h.1))
 obtain⟨he,rfl,rfl⟩:=h
 cases he
 refine WK.un ?_
 exact QF.panicP (⟨rfl,rfl,_,Left.of b A l.length cap pi k B vars.length cm,rfl⟩)
theorem do_fn (hv:VVec A cap l x) (hl:l.length≤1000000) (hy:VVec B cm vars y) (hz:∀v∈l,v.s.size≤400000000000) (ho:VVec OA ocap out ox) (hfv:PVec FA fcap bs fx) (hbs:bs.length≤1000000000) (hL:Lv G mb (mcB mb (.slice CA pg.consts.length cc) (.slice PA pg.procs.length pc) c3 FA bs.length fcap en w OA out.length ocap st ed) fx Hx RL):Fn Tryz.prog 167 #[.pointer (some ⟨mb,0,none⟩), .pointer (some ⟨b,0,none⟩)] G
  (mcB mb (.slice CA pg.consts.length cc) (.slice PA pg.procs.length pc) c3 FA bs.length fcap en w OA out.length ocap st ed::ox::frB b A l.length cap pi k B vars.length cm::x::y::fx::Hx)
  (DoR G mb (.slice CA pg.consts.length cc) (.slice PA pg.procs.length pc) c3 FA fcap en w OA ocap st ed out ox fx Hx RL b A cap pi B vars cm x y bs (k+1) (doR pg pr l k vars bs.length out.length)):=by
 cases hi:pr.code[k]? with
 | none=>exact do_none G pg CA PA cc pc hC hP mb c3 FA fcap en w OA ocap st ed out ox fx Hx RL b A cap pi pr hpr B vars cm x y bs l k hkb hi hv hl
 | some p=>
  obtain⟨c,n⟩:=p
  by_cases hc:c=1∨c=2∨c=3∨c=5∨c=6∨c=7
  ·rcases hc with rfl | rfl | rfl | rfl | rfl | rfl
   ·exact do_const G pg CA PA cc pc hC hP mb c3 FA fcap en w OA ocap st ed out ox fx Hx RL b A cap pi pr hpr B vars cm x y bs l k hkb n hi hv hl hy
   ·exact absurd (hkb.2 _ (List.mem_of_getElem? hi)) (by dsimp only;decide)
   ·exact absurd (hkb.2 _ (List.mem_of_getElem? hi)) (by dsimp only;decide)
   ·exact absurd (hkb.2 _ (List.mem_of_getElem? hi)) (by dsimp only;decide)
   ·exact absurd (hkb.2 _ (List.mem_of_getElem? hi)) (by dsimp only;decide)
   ·exact do_call G pg CA PA cc pc hC hP mb c3 FA fcap en w OA ocap st ed out ox fx Hx RL b A cap pi pr hpr B vars cm x y bs l k hkb n hi hv hl hfv hbs
  ·exact do_plain G pg CA PA cc pc hC hP mb c3 FA fcap en w OA ocap st ed out ox fx Hx RL b A cap pi pr hpr B vars cm x y bs l k hkb c hc n hi hv hl hy hz ho hL
end
end
section
attribute [local irreducible] Tryz.prog
theorem iface20:Tryz.prog.underlying 20=some (.interface (Tryz.prog.methodsAt 20)):=by kernel_rfl
theorem step1_quiet (G:Gh) (kb mx:Nat):FnD Tryz.prog 166 #[.pointer (some ⟨kb,0,none⟩), .pointer (some ⟨mx,0,none⟩)] .returning G [] .returning fun e G' H'=>e= .returned (.tuple #[])∧G=G'∧H'=[]:=by
 refine FnD.recover (vs:=[.pointer (some ⟨kb,0,none⟩), .pointer (some ⟨mx,0,none⟩)]) (v:= .nilIface) Tryz.func166 rfl rfl rfl rfl (.inl ⟨rfl,rfl,rfl⟩) fun w0=>?_
 refine WC.seq ?_
 refine WC.region ?_
 refine zw.move ?_
 refine WL.pp (Gp.assertNil rfl Tryz.underlying251) ?_
 refine zw.move ?_
 refine zw.ext ?_
 refine zw.ext ?_
 refine WL.oo (OW.alloc rfl fun b1=>?_)
 refine zw.st ?_
 refine zw.assign ?_
 refine WL.nil ?_
 refine WK.un ?_
 refine WC.seq ?_
 refine WC.seq ?_
 refine WC.region ?_
 refine zw.move ?_
 refine WL.pp (Gp.neNilNil rfl iface20) ?_
 refine zw.move ?_
 refine zw.skip ?_
 refine zw.skip ?_
 refine zw.pick ?_
 refine WL.nil ?_
 refine WK.un ?_
 refine WC.cond_false rfl ?_
 refine WC.skip ?_
 refine WK.un ?_
 refine WC.seq ?_
 refine WC.region ?_
 refine zw.move ?_
 refine WL.nil ?_
 refine WK.un ?_
 refine WC.cond_false rfl ?_
 refine WC.skip ?_
 refine WK.un ?_
 exact QF.p0 (.inr rfl) rfl ⟨rfl,rfl,rfl⟩ pkA
theorem step1_halts (G:Gh) (kb mx mb b:Nat) (c:Array Value) (hc:c.size=4) (A:Option Addr) (n cap:Nat) (p a:Int) (B:Option Addr) (m cm:Nat) (c1 c2 c3:Value) (FA:Option Addr) (fn fcap:Nat) (en:Int) (w:V) (OA:Option Addr) (on ocap:Nat) (st:Int) (ed:Bool) (k:Int):
  FnD Tryz.prog 166 #[.pointer (some ⟨kb,0,none⟩), .pointer (some ⟨mx,0,none⟩)] (.panicking [{ v:= .iface 251 (.agg #[.int .i64 k]),recovered:=false }]) G
   [.blk kb (.cells #[.pointer (some ⟨b,0,none⟩), .slice A n cap, .int .i64 p, .int .i64 a, .slice B m cm] 249 (0,0)), .blk mx (.cells #[.pointer (some ⟨mb,0,none⟩)] 154 (0,0)), .blk b (.cells c 245 (0,0)),mcB mb c1 c2 c3 FA fn fcap en w OA on ocap st ed]
   (.panicking [{ v:= .iface 251 (.agg #[.int .i64 k]),recovered:=true }]) fun e G' H'=>e= .returned (.tuple #[])∧G=G'∧H'=[frB b A n cap p a B m cm,mcB mb c1 c2 c3 FA fn fcap k w OA on ocap st true]:=by
 obtain⟨x0,x1,x2,x3,rfl⟩:∃x0 x1 x2 x3,c= #[x0,x1,x2,x3]:=by
  obtain⟨l⟩:=c
  match l,hc with
  | [x0,x1,x2,x3],_=>exact⟨x0,x1,x2,x3,rfl⟩
 refine FnD.recover (vs:=[.pointer (some ⟨kb,0,none⟩), .pointer (some ⟨mx,0,none⟩)]) (v:= .iface 251 (.agg #[.int .i64 k])) Tryz.func166 rfl rfl rfl rfl (.inr ⟨[],rfl,rfl⟩) fun w0=>?_
 refine WC.seq ?_
 refine WC.region ?_
 refine zw.move ?_
 refine WL.pp (Gp.assertIs rfl Tryz.underlying251) ?_
 refine zw.move ?_
 refine zw.ext ?_
 refine zw.ext ?_
 refine WL.oo (OW.alloc rfl fun b1=>?_)
 refine zw.st ?_
 refine zw.assign ?_
 refine WL.nil ?_
 refine WK.un ?_
 refine WC.seq ?_
 refine WC.seq ?_
 refine WC.region ?_
 refine zw.move ?_
 refine WL.pp (Gp.neHeldNil rfl iface20) ?_
 refine zw.move ?_
 refine zw.move ?_
 refine zw.not ?_
 refine zw.pick ?_
 refine WL.nil ?_
 refine WK.un ?_
 refine WC.cond_false rfl ?_
 refine WC.skip ?_
 refine WK.un ?_
 refine WC.seq ?_
 refine WC.region ?_
 refine zw.move ?_
 refine WL.nil ?_
 refine WK.un ?_
 refine WC.cond_true rfl ?_
 refine WC.seq ?_
 refine WC.region ?_
 refine zw.fa ?_
 refine zw.ld ?_
 refine zw.fa ?_
 refine WL.vv (Gv.loadN rfl atA rfl rfl) ?_
 refine zw.nil ?_
 refine WL.oo (OW.store (n:=4) (c':=frC A n cap p a B m cm) rfl rfl atA rfl rfl rfl rfl rfl ?_ rfl)
 refine WL.nil ?_
 refine WK.un ?_
 refine WC.drawS (Hs:=[.blk b1 (.cells #[.int .i64 k] 251 (0,0)), .blk mx (.cells #[.pointer (some ⟨mb,0,none⟩)] 154 (0,0))]) mixed pkA ?_
 refine WB.vv 0 rfl (Gv.load1 rfl atA rfl) ?_
 refine WB.vv 1 rfl (Gv.load1 rfl atA rfl) ?_
 refine zb.fa 2 ?_
 refine zb.nil 4 ?_
 refine zb.fa 5 ?_
 refine WB.vv 3 rfl (Gv.load1 rfl atA rfl) ?_
 refine zb.st 6 ?_
 refine⟨fun w hw=>hw.pk pkA,?_⟩
 refine zb.nil 7 ?_
 refine zb.fa 8 ?_
 refine zb.fa 9 ?_
 refine zb.st 10 ?_
 refine⟨fun w hw=>hw.pk pkA,?_⟩
 refine WB.done kr ?_
 refine WK.un ?_
 exact QF.p0 (.inr rfl) rfl ⟨rfl,rfl,rfl⟩ pkA
end
section
attribute [local irreducible] Tryz.prog
def StR (G:Gh) (mb:Nat) (c1 c2 c3:Value) (FA:Option Addr) (fcap:Nat) (en:Int) (w:V) (OA:Option Addr) (ocap:Nat) (st:Int) (ed:Bool) (out:List V) (ox fx:Own) (Hx:List Own) (RL:List V→List Own→Prop)
  (b:Nat) (A:Option Addr) (cap pi:Nat) (B:Option Addr) (vars:List V) (cm:Nat) (x y:Own) (bs:List Nat) (l:List V) (k:Nat) (r:DR):Ending→Gh→List Own→Prop:=fun e G' H'=>match r with
 | .halt n=>G=G'∧∃A2 cap2 B2 cm2 x2 y2,e= .returned (.tuple #[])∧VVec A2 cap2 l x2∧VVec B2 cm2 vars y2∧H'=mcB mb c1 c2 c3 FA bs.length fcap n w OA out.length ocap st true::ox::frB b A2 l.length cap2 pi k B2 vars.length cm2::x2::y2::fx::Hx
 | r=>DoR G mb c1 c2 c3 FA fcap en w OA ocap st ed out ox fx Hx RL b A cap pi B vars cm x y bs (k+1) r e G' H'
section
variable (G:Gh) (pg:Pg) (CA PA:Option Addr) (cc pc:Nat) (hC:Sl Kd.val G CA pg.consts) (hP:Sl Kd.prc G PA pg.procs)
  (mb:Nat) (c3:Value) (FA:Option Addr) (fcap:Nat) (en:Int) (w:V) (OA:Option Addr) (ocap:Nat) (st:Nat) (ed:Bool) (out:List V) (ox fx:Own) (Hx:List Own) (RL:List V→List Own→Prop)
  (b:Nat) (A:Option Addr) (cap pi:Nat) (pr:Pr) (hpr:pg.procs[pi]? =some pr) (B:Option Addr) (vars:List V) (cm:Nat) (x y:Own) (bs:List Nat) (l:List V) (k:Nat) (hkb:k≤100000000000000∧OpS pr.code)
include hC hP hpr hkb in
theorem step_fn (hst:st≤100000000000000) (hv:VVec A cap l x) (hl:l.length≤1000000) (hy:VVec B cm vars y) (hml:vars.length≤1000000) (hz:∀v∈l,v.s.size≤400000000000) (ho:VVec OA ocap out ox) (hfv:PVec FA fcap (bs++[b]) fx) (hbs:bs.length≤1000000)
  (hL:Lv G mb (mcB mb (.slice CA pg.consts.length cc) (.slice PA pg.procs.length pc) c3 FA (bs++[b]).length fcap en w OA out.length ocap (st+1:Nat) ed) fx Hx RL):Fn Tryz.prog 142 #[.pointer (some ⟨mb,0,none⟩)] G
  (mcB mb (.slice CA pg.consts.length cc) (.slice PA pg.procs.length pc) c3 FA (bs++[b]).length fcap en w OA out.length ocap st ed::ox::frB b A l.length cap pi k B vars.length cm::x::y::fx::Hx)
  (StR G mb (.slice CA pg.consts.length cc) (.slice PA pg.procs.length pc) c3 FA fcap en w OA ocap (st+1:Nat) ed out ox fx Hx RL b A cap pi B vars cm x y (bs++[b]) l k (doR pg pr l k vars (bs++[b]).length out.length)):=by
 refine Fn.unpk ?_
 refine Fn.enterD Tryz.func142 rfl rfl fun w0=>?_
 refine WC.seq ?_
 refine WC.region ?_
 refine WL.oo (OW.box rfl rfl fun b1=>?_)
 refine WL.nil ?_
 refine WK.un ?_
 refine WC.seq ?_
 refine WC.region ?_
 refine zw.ld ?_
 refine WL.oo (OW.callK rfl (top_fn G mb (.slice CA pg.consts.length cc) (.slice PA pg.procs.length pc) c3 FA fcap en w OA out.length ocap st ed bs b fx hfv (by omega)) rfl fun v' G' H' h hg=>?_)
 obtain⟨he,rfl,rfl⟩:=h
 cases he
 refine zw.assign ?_
 refine WL.nil ?_
 refine WK.un ?_
 refine WC.seq ?_
 refine WC.region ?_
 refine zw.move ?_
 refine zw.move ?_
 refine WL.oo (OW.callK rfl (copied_fnQ G b A cap pi k B cm l vars x y hv hy (by omega) (by omega)) rfl fun v' G' H' h hg=>?_)
 obtain⟨A2,cap2,B2,cm2,x2,y2,he,rfl,rfl,hx2,hy2⟩:=h
 cases he
 refine zw.build ?_
 refine WL.oo (OW.alloc rfl fun b2=>?_)
 refine zw.st ?_
 refine WL.nil ?_
 refine WK.un ?_
 refine WC.seq ?_
 refine WC.region ?_
 refine zw.ld ?_
 refine zw.nil ?_
 refine zw.fa ?_
 refine zw.fa ?_
 refine zw.ld ?_
 refine WL.pp (Gp.add' rfl rfl (show IntKind.i64.wrap ((st:Int)+1)=((st+1:Nat):Int) by rw[wrap_small (by omega) (by omega)];omega)) ?_
 refine zw.nil ?_
 refine zw.fa ?_
 refine zw.fa ?_
 refine zw.st ?_
 refine WL.nil ?_
 refine WK.un ?_
 refine WC.seq ?_
 refine WC.region ?_
 refine WL.pp (Gp.makeFunc rfl rfl) ?_
 refine WL.defer rfl kr rfl ?_
 refine WL.nil ?_
 refine WK.un ?_
 refine WC.pk (H':= .blk b1 (.cells #[.pointer (some ⟨mb,0,none⟩)] 154 (0,0)):: .blk b2 (.cells #[.pointer (some ⟨b,0,none⟩), .slice A2 l.length cap2, .int .i64 pi, .int .i64 k, .slice B2 vars.length cm2] 249 (0,0))::x2::y2::mcB mb (.slice CA pg.consts.length cc) (.slice PA pg.procs.length pc) c3 FA (bs++[b]).length fcap en w OA out.length ocap (st+1:Nat) ed::ox::frB b A l.length cap pi k B vars.length cm::x::y::fx::Hx) pkA ?_
 refine WC.region ?_
 refine zw.ld ?_
 refine zw.move ?_
 have hdo:=do_fn G pg CA PA cc pc hC hP mb c3 FA fcap en w OA ocap (st+1:Nat) ed out ox fx Hx RL b A cap pi pr hpr B vars cm x y (bs++[b]) l k hkb hv hl hy hz ho hfv (by simp;omega) hL
 cases hq:doR pg pr l k vars (bs++[b]).length out.length with
 | halt e=>
  rw[hq]at hdo
  refine WL.oo (OW.call rfl (Pk.perm pkA) hdo rfl (fun v' G' H' h hg=>by cases h.2.1) (fun ch G' H' h hg=>?_) (fun G' H' h=>by cases h.2.1))
  obtain⟨rfl,he,z,⟨c,hc,hz'⟩,rfl⟩:=h
  cases he
  cases hz'
  refine WK.un ?_
  refine WK.swap ?_
  refine QD.caught (Pk.perm pkA) (step1_halts G b2 b1 mb b c hc A2 l.length cap2 pi k B2 vars.length cm2 (.slice CA pg.consts.length cc) (.slice PA pg.procs.length pc) c3 FA (bs++[b]).length fcap en w OA out.length ocap (st+1:Nat) ed e) (fun v' G' H' h hg=>?_) (fun ch G' H' h=>by cases h.1) (fun G' H' h=>by cases h.1)
  obtain⟨he,rfl,rfl⟩:=h
  exact⟨.tuple #[],ResRun.zero rfl,_,_,pkA,rfl,A2,cap2,B2,cm2,x2,y2,rfl,hx2,hy2,rfl⟩
 | go l' k' vars'=>
  rw[hq]at hdo
  refine WL.oo (OW.callR rfl (Pk.perm pkA) hdo rfl (by rintro e G' H' ⟨_,_,_,_,_,h,_⟩;exact⟨_,h⟩) fun v' G' H' h hg=>?_)
  obtain⟨rfl,A',cap',x',y',he,hv',hy',rfl⟩:=h
  cases he
  refine WL.nil ?_
  refine WK.un ?_
  refine WK.swap ?_
  refine QD.leave (Hf:=[]) (.inr rfl) (List.Perm.refl _) (step1_quiet G b2 b1) (fun v' G' H' h hg=>?_) (fun ch G' H' h=>by cases h.1) (fun G' H' h=>by cases h.1)
  obtain⟨he,rfl,rfl⟩:=h
  exact⟨.tuple #[],ResRun.zero rfl,_,_,pkA,rfl,A',cap',x',y',rfl,hv',hy',rfl⟩
 | print l' v=>
  rw[hq]at hdo
  refine WL.oo (OW.callR rfl (Pk.perm pkA) hdo rfl (by rintro e G' H' ⟨_,_,_,_,h,_⟩;exact⟨_,h⟩) fun v' G' H' h hg=>?_)
  obtain⟨rfl,OA',ocap',ox',he,ho',hv',rfl⟩:=h
  cases he
  refine WL.nil ?_
  refine WK.un ?_
  refine WK.swap ?_
  refine QD.leave (Hf:=[]) (.inr rfl) (List.Perm.refl _) (step1_quiet G b2 b1) (fun v' G' H' h hg=>?_) (fun ch G' H' h=>by cases h.1) (fun G' H' h=>by cases h.1)
  obtain⟨he,rfl,rfl⟩:=h
  exact⟨.tuple #[],ResRun.zero rfl,_,_,pkA,rfl,OA',ocap',ox',rfl,ho',hv',rfl⟩
 | call q l' args n=>
  rw[hq]at hdo
  refine WL.oo (OW.callR rfl (Pk.perm pkA) hdo rfl (by rintro e G' H' ⟨_,_,_,_,_,_,_,h,_⟩;exact⟨_,h⟩) fun v' G' H' h hg=>?_)
  obtain⟨rfl,FA',fcap',b',VA,fx',yv,he,hf',hyv,hv',rfl⟩:=h
  cases he
  refine WL.nil ?_
  refine WK.un ?_
  refine WK.swap ?_
  refine QD.leave (Hf:=[]) (.inr rfl) (List.Perm.refl _) (step1_quiet G b2 b1) (fun v' G' H' h hg=>?_) (fun ch G' H' h=>by cases h.1) (fun G' H' h=>by cases h.1)
  obtain⟨he,rfl,rfl⟩:=h
  exact⟨.tuple #[],ResRun.zero rfl,_,_,pkA,rfl,FA',fcap',b',VA,fx',yv,rfl,hf',hyv,hv',rfl⟩
 | leave l' g=>
  rw[hq]at hdo
  refine WL.oo (OW.callR rfl (Pk.perm pkA) hdo rfl (by rintro e G' H' ⟨_,_,h,_⟩;exact⟨_,h⟩) fun v' G' H' h hg=>?_)
  obtain⟨rfl,H1,he,hR,rfl⟩:=h
  cases he
  refine WL.nil ?_
  refine WK.un ?_
  refine WK.swap ?_
  refine QD.leave (Hf:=[]) (.inr rfl) (List.Perm.refl _) (step1_quiet G b2 b1) (fun v' G' H' h hg=>?_) (fun ch G' H' h=>by cases h.1) (fun G' H' h=>by cases h.1)
  obtain⟨he,rfl,rfl⟩:=h
  exact⟨.tuple #[],ResRun.zero rfl,_,_,pkA,rfl,H1,rfl,hR,rfl⟩
end
end
section
attribute [local irreducible] Tryz.prog
structure Fr where
 proc:Nat
 pc:Nat
 stack:List V
 vars:List V
structure Mc where
 frames:List Fr
 out:List V
 steps:Nat
 en:Int
 val:V
 ended:Bool
def stepM (pg:Pg) (s:Mc):Mc:=match s.frames with
 | []=>s
 | f::fs=>match pg.procs[f.proc]? with
  | none=>s
  | some pr=>match doR pg pr f.stack f.pc f.vars (fs.length+1) s.out.length with
   | .halt n=> { s with steps:=s.steps+1,en:=n,ended:=true }
   | .go l k vars=> { s with steps:=s.steps+1,frames:=⟨f.proc,k,l,vars⟩::fs }
   | .print l v=> { s with steps:=s.steps+1,out:=s.out++[v],frames:=⟨f.proc,f.pc+1,l,f.vars⟩::fs }
   | .call q r args n=> { s with steps:=s.steps+1,frames:=⟨n.toNat,0,[],padded args q.locals⟩::⟨f.proc,f.pc+1,r,f.vars⟩::fs }
   | .leave r g=>match fs with
    | []=> { s with steps:=s.steps+1,frames:=[],en:=1,val:=lastV s.val g,ended:=true }
    | f0::fs'=> { s with steps:=s.steps+1,frames:=⟨f0.proc,f0.pc,f0.stack++g,f0.vars⟩::fs' }
inductive FRepQ:List Fr→List Nat→List Own→Prop where
 | nil:FRepQ [] [] []
 | cons {f:Fr} {fs:List Fr} {b:Nat} {bs:List Nat} {H:List Own} {A B:Option Addr} {cap cm:Nat} {x y:Own} (hx:VVec A cap f.stack x) (hy:VVec B cm f.vars y) (h:FRepQ fs bs H):
   FRepQ (f::fs) (b::bs) (frB b A f.stack.length cap f.proc f.pc B f.vars.length cm::x::y::H)
theorem FRepQ.len {fs:List Fr} {bs:List Nat} {H:List Own} (h:FRepQ fs bs H):bs.length=fs.length:=by
 induction h with
 | nil=>rfl
 | cons _ _ _ ih=>simp[ih]
def MRep (CA PA:Option Addr) (cc pc cn pn:Nat) (c3:Value) (mb:Nat) (s:Mc) (H:List Own):Prop:=
 ∃FA fcap OA ocap ox fx bs Hf,FRepQ s.frames bs Hf∧PVec FA fcap bs.reverse fx∧VVec OA ocap s.out ox∧
  H=mcB mb (.slice CA cn cc) (.slice PA pn pc) c3 FA bs.reverse.length fcap s.en s.val OA s.out.length ocap s.steps s.ended::ox::fx::Hf
structure Bd (pg:Pg) (s:Mc):Prop where
 procs:∀f∈s.frames,∃pr,pg.procs[f.proc]? =some pr∧f.pc≤pr.code.length
 code:∀pr∈pg.procs,pr.code.length≤90000000000000∧OpS pr.code
 frames:s.frames.length≤64
 stack:∀f∈s.frames,f.stack.length≤900000∧f.vars.length≤1000000∧∀v∈f.stack,v.s.size≤400000000000
 steps:s.steps≤100000000000000
theorem callR_ok {procs:List Pr} {l r a:List V} {n:Int} {d:Nat} {q:Pr} (h:callR procs l n d= .ok (q,r,a)):0≤n∧procs[n.toNat]? =some q∧sizedP q=true∧l=r++a∧a.length=q.params.length∧d<64∧tys a=q.params∧(q.result≠0→r.length<128):=by
 unfold callR at h
 split at h
 ·cases h
 ·rename_i hn
  split at h
  ·cases h
  ·rename_i q' hq
   split at h
   ·cases h
   ·rename_i hs
    split at h
    ·cases h
    ·rename_i hl
     split at h
     ·cases h
     ·rename_i ht
      split at h
      ·cases h
      ·rename_i hr
       split at h
       ·cases h
       ·rename_i hd
        cases h
        have ht':=Classical.not_not.1 ht
        refine⟨by omega,hq,by simpa using hs,(List.take_append_drop _ _).symm,by simp;omega,by omega,ht',fun hne=>?_⟩
        have:=not_and.1 hr hne
        simp;omega
theorem doR_call {pg:Pg} {pr q:Pr} {l r a vars:List V} {k d o:Nat} {n:Int} (h:doR pg pr l k vars d o= .call q r a n):callR pg.procs l n d= .ok (q,r,a):=by
 unfold doR at h
 split at h
 ·cases h
 ·rename_i c n' hc
  have hcd:∀ {m:Int},callD pg.procs l m d= .call q r a n→callR pg.procs l n d= .ok (q,r,a):=by
   intro m h
   unfold callD at h
   split at h
   ·cases h
   ·rename_i q' r' a' he;cases h;exact he
  have hlay:∀v,layRQ l k vars v≠ .call q r a n:=by intro v h;unfold layRQ at h;split at h<;>cases h
  have hpl:∀c',plainD pr.result l k vars c' o≠ .call q r a n:=by intro c' h;unfold plainD at h;split at h<;>cases h
  split at h
  ·unfold constR at h;split at h; · cases h
   split at h; · cases h
   split at h
   ·exact absurd h (hlay _)
   ·cases h
  split at h
  ·unfold loadR at h;split at h; · cases h
   split at h; · cases h
   split at h
   ·cases h
   ·exact absurd h (hlay _)
  split at h
  ·unfold storeR at h;split at h; · cases h
   split at h<;>cases h
  split at h
  ·unfold jumpR at h;split at h<;>cases h
  split at h
  ·unfold unlessR at h;split at h; · cases h
   split at h<;>cases h
  split at h
  ·exact hcd h
  split at h
  ·cases h
  ·exact absurd h (hpl _)
theorem Fn.reorder {P:Program} {f:FuncId} {vs:Array Value} {G:Gh} {H H':List Own} {R:Ending→Gh→List Own→Prop} (h:Fn P f vs G H' R) (p:Pk H H' []):Fn P f vs G H R:=
 (h.pk p).mono fun e G' H1 ⟨H2,r,e1⟩=>by rw[e1,List.append_nil];exact r
section
variable (G:Gh) (pg:Pg) (CA PA:Option Addr) (cc pc:Nat) (hC:Sl Kd.val G CA pg.consts) (hP:Sl Kd.prc G PA pg.procs) (mb:Nat) (c3:Value)
include hC hP
theorem stepM_fn (s:Mc) (H:List Own) (hR:MRep CA PA cc pc pg.consts.length pg.procs.length c3 mb s H) (hB:Bd pg s) (hne:s.frames≠ []):
  Fn Tryz.prog 142 #[.pointer (some ⟨mb,0,none⟩)] G H fun e G' H'=>e= .returned (.tuple #[])∧G=G'∧MRep CA PA cc pc pg.consts.length pg.procs.length c3 mb (stepM pg s) H':=by
 obtain⟨FA,fcap,OA,ocap,ox,fx,bs,Hf,hF,hfv,ho,rfl⟩:=hR
 obtain⟨frames,out,steps,en,val,ended⟩:=s
 have hlen:=hF.len
 cases hF with
 | nil=>exact absurd rfl hne
 | @cons f fs b bs H A B cap cm x y hx hy h=>
 obtain⟨proc,pcv,stack,vars⟩:=f
 simp only at hx hy hfv ho hlen
 obtain⟨pr,hpr,hpc⟩:=hB.procs _ (List.mem_cons_self)
 obtain⟨hsl,hvl,hsz⟩:=hB.stack _ (List.mem_cons_self)
 have hcode:=hB.code pr (List.mem_of_getElem? hpr)
 have hfr:=hB.frames
 have hst:=hB.steps
 simp only at hpr hpc hsl hvl hsz hcode hfr hst
 rw[List.reverse_cons]at hfv⊢
 have hbl:bs.reverse.length≤1000000:=by simp at hlen hfr⊢;omega
 have hdep:(bs.reverse++[b]).length=fs.length+1:=by simp at hlen⊢;omega
 have key:∀RL:List V→List Own→Prop,Lv G mb (mcB mb (.slice CA pg.consts.length cc) (.slice PA pg.procs.length pc) c3 FA (bs.reverse++[b]).length fcap en val OA out.length ocap (steps+1:Nat) ended) fx H RL→
   (∀l' g H1,doR pg pr stack pcv vars (fs.length+1) out.length= .leave l' g→RL g H1→∃H2 F,Pk (ox::H1) H2 F∧MRep CA PA cc pc pg.consts.length pg.procs.length c3 mb (stepM pg ⟨⟨proc,pcv,stack,vars⟩::fs,out,steps,en,val,ended⟩) H2)→
   Fn Tryz.prog 142 #[.pointer (some ⟨mb,0,none⟩)] G (mcB mb (.slice CA pg.consts.length cc) (.slice PA pg.procs.length pc) c3 FA (bs.reverse++[b]).length fcap en val OA out.length ocap steps ended::ox::fx::frB b A stack.length cap proc pcv B vars.length cm::x::y::H)
    fun e G' H'=>e= .returned (.tuple #[])∧G=G'∧MRep CA PA cc pc pg.consts.length pg.procs.length c3 mb (stepM pg ⟨⟨proc,pcv,stack,vars⟩::fs,out,steps,en,val,ended⟩) H':=by
  intro RL hL hleave
  refine Fn.unpk (Fn.reorder ((step_fn G pg CA PA cc pc hC hP mb c3 FA fcap en val OA ocap steps ended out ox fx H RL b A cap proc pr hpr B vars cm x y bs.reverse stack pcv ⟨by omega,hcode.2⟩ hst hx (by omega) hy hvl hsz ho hfv hbl hL).mono fun e G' H' hS=>?_) pkA)
  rw[hdep]at hS
  simp only[stepM,hpr]
  cases hq:doR pg pr stack pcv vars (fs.length+1) out.length with
  | halt n=>
   rw[hq]at hS
   obtain⟨rfl,A2,cap2,B2,cm2,x2,y2,he,h1,h2,rfl⟩:=hS
   exact⟨mcB mb (.slice CA pg.consts.length cc) (.slice PA pg.procs.length pc) c3 FA (bs.reverse++[b]).length fcap n val OA out.length ocap (steps+1:Nat) true::ox::fx::frB b A2 stack.length cap2 proc pcv B2 vars.length cm2::x2::y2::H,[],pkA,he,rfl,FA,fcap,OA,ocap,ox,fx,b::bs,_, .cons h1 h2 h,by rw[List.reverse_cons];exact hfv,ho,by rw[List.reverse_cons]⟩
  | go l k vs=>
   rw[hq]at hS
   obtain⟨rfl,A2,cap2,x2,y2,he,h1,h2,rfl⟩:=hS
   exact⟨mcB mb (.slice CA pg.consts.length cc) (.slice PA pg.procs.length pc) c3 FA (bs.reverse++[b]).length fcap en val OA out.length ocap (steps+1:Nat) ended::ox::fx::frB b A2 l.length cap2 proc k B vs.length cm::x2::y2::H,[],pkA,he,rfl,FA,fcap,OA,ocap,ox,fx,b::bs,_, .cons h1 h2 h,by rw[List.reverse_cons];exact hfv,ho,by rw[List.reverse_cons]⟩
  | print l v=>
   rw[hq]at hS
   obtain⟨rfl,OA2,ocap2,ox2,he,h1,h2,rfl⟩:=hS
   exact⟨mcB mb (.slice CA pg.consts.length cc) (.slice PA pg.procs.length pc) c3 FA (bs.reverse++[b]).length fcap en val OA2 (out++[v]).length ocap2 (steps+1:Nat) ended::ox2::fx::frB b A l.length cap proc (pcv+1:Nat) B vars.length cm::x::y::H,[],pkA,he,rfl,FA,fcap,OA2,ocap2,ox2,fx,b::bs,_, .cons h2 hy h,by rw[List.reverse_cons];exact hfv,h1,by rw[List.reverse_cons]⟩
  | call q r args n=>
   have hn:=(callR_ok (doR_call hq)).1
   rw[hq]at hS
   obtain⟨rfl,FA2,fcap2,b2,VA,fx2,yv,he,h1,h2,h3,rfl⟩:=hS
   obtain⟨m,rfl⟩:=Int.eq_ofNat_of_zero_le hn
   exact⟨mcB mb (.slice CA pg.consts.length cc) (.slice PA pg.procs.length pc) c3 FA2 (bs.reverse++[b]++[b2]).length fcap2 en val OA out.length ocap (steps+1:Nat) ended::ox::fx2::frB b2 none ([]:List V).length 0 m (0:Nat) VA (padded args q.locals).length (padded args q.locals).length:: .spare 0 0 0::yv::frB b A r.length cap proc (pcv+1:Nat) B vars.length cm::x::y::H,[],pkA,he,rfl,FA2,fcap2,OA,ocap,ox,fx2,b2::b::bs,_, .cons ⟨by simp[vflat], .inl ⟨rfl,rfl,rfl,rfl⟩⟩ h2 (.cons h3 hy h),by rw[List.reverse_cons,List.reverse_cons];exact h1,ho,by rw[List.reverse_cons,List.reverse_cons];rfl⟩
  | leave l g=>
   have hl:=hleave l g
   rw[hq]at hS
   obtain⟨rfl,H1,he,hR,rfl⟩:=hS
   obtain⟨H2,F,h1,h2⟩:=hl H1 hq hR
   simp only[stepM,hpr,hq]at h2
   exact⟨H2,F,h1,he,rfl,h2⟩
 cases h with
 | nil=>
  refine key (fun g H1=>H1=[mcB mb (.slice CA pg.consts.length cc) (.slice PA pg.procs.length pc) c3 FA 0 fcap 1 (lastV val g) OA out.length ocap (steps+1:Nat) true,fx]∧PVec FA fcap [] fx) ⟨?_,fun A' cap' y' v hv'=>?_⟩ fun l' g H1 hq hR=>?_
  ·exact(leave_end G mb (.slice CA pg.consts.length cc) (.slice PA pg.procs.length pc) c3 FA fcap en val OA out.length ocap (steps+1:Nat) ended b fx hfv none 0 [] [] (Rds.nil _ _ _) (by simp)).mono fun e G' H' ⟨h1,h2,h3,h4⟩=>⟨h1,h2,h3,h4⟩
  ·refine Fn.unpk (Fn.reorder ((leave_end G mb (.slice CA pg.consts.length cc) (.slice PA pg.procs.length pc) c3 FA fcap en val OA out.length ocap (steps+1:Nat) ended b fx hfv A' cap' [v] [y'] (hv'.rds .here) (by simp)).mono fun e G' H' hh=>?_) pkA)
   obtain⟨h1,h2,h3,h4⟩:=hh
   subst h3
   exact⟨_,_, .cons .here (.cons .here .nil),h1,h2,rfl,h4⟩
  ·obtain⟨rfl,h1⟩:=hR
   refine⟨mcB mb (.slice CA pg.consts.length cc) (.slice PA pg.procs.length pc) c3 FA 0 fcap 1 (lastV val g) OA out.length ocap (steps+1:Nat) true::ox::fx::[],[],pkA,?_⟩
   simp only[stepM,hpr,hq]
   exact⟨FA,fcap,OA,ocap,ox,fx,[],[], .nil,h1,ho,rfl⟩
 | @cons f0 fs' b0 bs0 H0 A0 B0 cap0 cm0 x0 y0 hx0 hy0 h0=>
  obtain⟨hsl0,_,_⟩:=hB.stack f0 (by simp)
  rw[List.reverse_cons]at hfv
  have hb0:bs0.reverse.length≤1000000:=by simp at hbl⊢;omega
  rw[List.reverse_cons]at key⊢
  refine key (fun g H1=>∃A' cap' x',H1=mcB mb (.slice CA pg.consts.length cc) (.slice PA pg.procs.length pc) c3 FA (bs0.reverse++[b0]).length fcap en val OA out.length ocap (steps+1:Nat) ended::fx::frB b0 A' (f0.stack++g).length cap' f0.proc f0.pc B0 f0.vars.length cm0::x'::y0::H0∧PVec FA fcap (bs0.reverse++[b0]) fx∧VVec A' cap' (f0.stack++g) x') ⟨?_,fun A' cap' y' v hv'=>?_⟩ fun l' g H1 hq hR=>?_
  ·exact(leave_go G mb (.slice CA pg.consts.length cc) (.slice PA pg.procs.length pc) c3 FA fcap en val OA out.length ocap (steps+1:Nat) ended bs0.reverse b0 b fx hfv hb0 A0 cap0 f0.proc f0.pc B0 f0.vars.length cm0 f0.stack x0 hx0 none 0 [] (y0::H0) (Rds.nil _ _ _) (by simp;omega)).mono fun e G' H' ⟨A',cap',x',h1,h2,h3,h4,h5⟩=>⟨h1,h2,A',cap',x',h3,h4,h5⟩
  ·refine Fn.unpk (Fn.reorder ((leave_go G mb (.slice CA pg.consts.length cc) (.slice PA pg.procs.length pc) c3 FA fcap en val OA out.length ocap (steps+1:Nat) ended bs0.reverse b0 b fx hfv hb0 A0 cap0 f0.proc f0.pc B0 f0.vars.length cm0 f0.stack x0 hx0 A' cap' [v] (y'::y0::H0) (hv'.rds .here) (by simp;omega)).mono fun e G' H' hh=>?_) pkA)
   obtain⟨A2,cap2,x2,h1,h2,h3,h4,h5⟩:=hh
   subst h3
   exact⟨mcB mb (.slice CA pg.consts.length cc) (.slice PA pg.procs.length pc) c3 FA (bs0.reverse++[b0]).length fcap en val OA out.length ocap (steps+1:Nat) ended::fx::frB b0 A2 (f0.stack++[v]).length cap2 f0.proc f0.pc B0 f0.vars.length cm0::x2::y0::H0,[y'],pkA,h1,h2,A2,cap2,x2,rfl,h4,h5⟩
  ·obtain⟨A2,cap2,x2,rfl,h1,h2⟩:=hR
   refine⟨mcB mb (.slice CA pg.consts.length cc) (.slice PA pg.procs.length pc) c3 FA (bs0.reverse++[b0]).length fcap en val OA out.length ocap (steps+1:Nat) ended::ox::fx::frB b0 A2 (f0.stack++g).length cap2 f0.proc f0.pc B0 f0.vars.length cm0::x2::y0::H0,[],pkA,?_⟩
   simp only[stepM,hpr,hq]
   exact⟨FA,fcap,OA,ocap,ox,fx,b0::bs0,_, .cons h2 hy0 h0,by rw[List.reverse_cons];exact h1,ho,by rw[List.reverse_cons]⟩
end
end
section
attribute [local irreducible] Tryz.prog
def AllOK (l:List V):Prop:=∀v∈l,vOK v=true
def VarsOK (l:List V):Prop:=∀v∈l,vOK v=true∨v=V0
theorem AllOK.snoc {l:List V} {v:V} (h:AllOK l) (hv:vOK v=true):AllOK (l++[v]):=by
 intro u hu
 rcases List.mem_append.1 hu with hu | hu
 ·exact h u hu
 ·rw[List.mem_singleton]at hu;subst hu;exact hv
theorem AllOK.left {l r:List V} (h:AllOK (l++r)):AllOK l:=fun v hv=>h v (List.mem_append_left _ hv)
theorem AllOK.right {l r:List V} (h:AllOK (l++r)):AllOK r:=fun v hv=>h v (List.mem_append_right _ hv)
theorem vOK_truth (b:Bool):vOK (truthV b)=true:=by simp[vOK,truthV,bytes_beq]
theorem vOK_num (n:Int):vOK (numV n)=true:=by simp[vOK,numV,bytes_beq]
theorem vOK_text {s:ByteArray} (h:s.size≤4096):vOK (textV s)=true:=by
 unfold vOK
 rw[if_neg (show¬(textV s).t=1 from(by decide:¬(3:Int)=1)),if_neg (show¬(textV s).t=2 from(by decide:¬(3:Int)=2)),if_pos (show(textV s).t=3 from rfl)]
 show((0:Int)==0&& !false&&decide ((s.size:Int)≤4096))=true
 simp;omega
theorem vOK_size {v:V} (h:vOK v=true):v.s.size≤4096:=by
 unfold vOK at h
 split at h
 ·simp[bytes_beq]at h;rw[h.2];decide
 ·split at h
  ·simp[bytes_beq]at h;rw[h.2];decide
  ·split at h
   ·simp at h;omega
   ·cases h
theorem size_append (a b:ByteArray):(a++b).size=a.size+b.size:=ByteArray.size_append
def DOk (pg:Pg) (pr:Pr) (l:List V) (k:Nat) (vars:List V) (depth outn:Nat):DR→Prop
 | .halt _=>True
 | .go l' k' vars'=>l'.length≤128∧AllOK l'∧k'≤pr.code.length∧vars'.length=vars.length∧VarsOK vars'
 | .print l' v=>l'.length≤128∧AllOK l'∧vOK v=true∧outn<4096∧k+1≤pr.code.length
 | .call q r args n=>callR pg.procs l n depth= .ok (q,r,args)∧k+1≤pr.code.length
 | .leave r g=>g=[]∨∃v,g=[v]∧vOK v=true∧pr.result≠0
def POkQ (res:Int) (outn:Nat):PR→Prop
 | .halt _=>True
 | .set l=>l.length≤128∧AllOK l
 | .print l v=>l.length≤128∧AllOK l∧vOK v=true∧outn<4096
 | .leave l g=>g=[]∨∃v,g=[v]∧vOK v=true∧res≠0
section
variable {pg:Pg} {pr:Pr} {l vars:List V} {k depth outn:Nat} (hl:l.length≤128) (ha:AllOK l) (hv:VarsOK vars)
theorem POkQ.ite {res:Int} {o:Nat} {p:Prop} [Decidable p] {a b:PR} (h1:p→POkQ res o a) (h2:¬p→POkQ res o b):POkQ res o (if p then a else b):=by
 split
 ·exact h1 ‹_›
 ·exact h2 ‹_›
theorem DOk.ite {p:Prop} [Decidable p] {a b:DR} (h1:p→DOk pg pr l k vars depth outn a) (h2:¬p→DOk pg pr l k vars depth outn b):DOk pg pr l k vars depth outn (if p then a else b):=by
 split
 ·exact h1 ‹_›
 ·exact h2 ‹_›
include hl ha in
theorem onA_ok {res:Int} {f:List V→V→PR} (hf:∀r v,l=r++[v]→POkQ res outn (f r v)):POkQ res outn (onA l f):=by
 unfold onA
 split
 ·trivial
 ·rename_i r v h;exact hf r v (pop1_some h)
include hl ha in
theorem onB_ok {res:Int} {f:List V→V→V→PR} (hf:∀r u v,l=r++[u,v]→POkQ res outn (f r u v)):POkQ res outn (onB l f):=by
 unfold onB
 split
 ·trivial
 ·rename_i r u v h;exact hf r u v (pop2_some h)
include hl ha in
theorem on1_ok {res t:Int} {f:List V→V→PR} (hf:∀r v,l=r++[v]→v.t=t→POkQ res outn (f r v)):POkQ res outn (on1 l t f):=by
 unfold on1
 split
 ·trivial
 ·rename_i r v h;exact hf r v (ty1_some h).1 (ty1_some h).2
include hl ha in
theorem on2_ok {res t:Int} {f:List V→V→V→PR} (hf:∀r u v,l=r++[u,v]→POkQ res outn (f r u v)):POkQ res outn (on2 l t f):=by
 unfold on2
 split
 ·trivial
 ·rename_i r u v h;exact hf r u v (ty2_some h).1
include hl ha in
theorem plainR_ok (res c:Int):POkQ res outn (plainR res l c outn):=by
 have h1:∀r v,l=r++[v]→∀u,vOK u=true→POkQ res outn (.set (r++[u])):=by
  intro r v e u hu
  subst e
  simp at hl
  exact⟨by simp;omega,ha.left.snoc hu⟩
 have h2:∀r v v',l=r++[v,v']→∀u,vOK u=true→POkQ res outn (.set (r++[u])):=by
  intro r v v' e u hu
  subst e
  simp at hl
  exact⟨by simp;omega,ha.left.snoc hu⟩
 unfold plainR
 refine POkQ.ite (fun _=>?_) (fun _=>?_)
 ·exact onA_ok hl ha fun r v e=>by subst e;simp at hl;exact⟨by omega,ha.left⟩
 refine POkQ.ite (fun _=>?_) (fun _=>?_)
 ·split
  ·exact .inl rfl
  ·trivial
 refine POkQ.ite (fun _=>?_) (fun _=>?_)
 ·split
  ·trivial
  ·rename_i hr
   exact on1_ok hl ha fun r v e _=>by subst e;exact .inr ⟨v,rfl,ha.right v (by simp),hr⟩
 refine POkQ.ite (fun _=>?_) (fun _=>?_)
 ·exact onA_ok hl ha fun r v e=>by
   subst e;simp at hl
   split
   ·trivial
   ·exact⟨by omega,ha.left,ha.right v (by simp),by omega⟩
 refine POkQ.ite (fun _=>?_) (fun _=>?_)
 ·exact onB_ok hl ha fun r u v e=>by
   split
   ·exact h2 r u v e _ (vOK_truth _)
   ·trivial
 refine POkQ.ite (fun _=>?_) (fun _=>?_)
 ·exact onB_ok hl ha fun r u v e=>by
   split
   ·exact h2 r u v e _ (vOK_truth _)
   ·trivial
 refine POkQ.ite (fun _=>?_) (fun _=>?_)
 ·exact on1_ok hl ha fun r v e _=>h1 r v e _ (vOK_truth _)
 refine POkQ.ite (fun _=>?_) (fun _=>?_)
 ·exact on1_ok hl ha fun r v e _=>h1 r v e _ (vOK_num _)
 refine POkQ.ite (fun _=>?_) (fun _=>?_)
 ·exact on2_ok hl ha fun r u v e=>by
   split
   ·trivial
   ·exact h2 r u v e _ (vOK_text (by rw[size_append];omega))
 refine POkQ.ite (fun _=>?_) (fun _=>?_)
 ·exact onB_ok hl ha fun r u v e=>by
   split
   ·exact h2 r u v e _ (vOK_truth _)
   ·trivial
 refine POkQ.ite (fun _=>?_) (fun _=>?_)
 ·exact on1_ok hl ha fun r v e _=>h1 r v e _ (vOK_num _)
 refine POkQ.ite (fun _=>?_) (fun _=>?_)
 ·exact on2_ok hl ha fun r u v e=>by
   unfold recR
   split
   ·trivial
   ·exact h2 r u v e _ (vOK_num _)
 ·trivial
include hl ha hv in
theorem doR_ok:DOk pg pr l k vars depth outn (doR pg pr l k vars depth outn):=by
 have hlay:∀v,vOK v=true→k+1≤pr.code.length→DOk pg pr l k vars depth outn (layRQ l k vars v):=by
  intro v h1 h2
  unfold layRQ
  split
  ·trivial
  ·exact⟨by simp;omega,ha.snoc h1,h2,rfl,hv⟩
 unfold doR
 split
 ·trivial
 ·rename_i c n hc
  have hk:k+1≤pr.code.length:=(List.getElem?_eq_some_iff.1 hc).1
  refine DOk.ite (fun _=>?_) (fun _=>?_)
  ·unfold constR;split; · trivial
   split; · trivial
   split
   ·exact hlay _ ‹_› hk
   ·trivial
  refine DOk.ite (fun _=>?_) (fun _=>?_)
  ·unfold loadR;split; · trivial
   split; · trivial
   rename_i v hg
   split
   ·trivial
   ·rename_i ht
    rcases hv v (List.mem_of_getElem? hg)with h | h
    ·exact hlay _ h hk
    ·subst h;exact absurd rfl ht
  refine DOk.ite (fun _=>?_) (fun _=>?_)
  ·unfold storeR;split; · trivial
   split; · trivial
   rename_i r v hp
   obtain rfl:=pop1_some hp
   simp at hl
   refine⟨by omega,ha.left,hk,by simp,fun u hu=>?_⟩
   rcases List.mem_or_eq_of_mem_set hu with h | h
   ·exact hv u h
   ·subst h;exact .inl (ha.right _ (by simp))
  refine DOk.ite (fun _=>?_) (fun _=>?_)
  ·unfold jumpR;split; · trivial
   ·exact⟨hl,ha,by omega,rfl,hv⟩
  refine DOk.ite (fun _=>?_) (fun _=>?_)
  ·unfold unlessR;split; · trivial
   split; · trivial
   rename_i r v ht
   obtain⟨rfl,_⟩:=ty1_some ht
   simp at hl
   refine⟨by omega,ha.left,?_,rfl,hv⟩
   split
   ·exact hk
   ·omega
  refine DOk.ite (fun _=>?_) (fun _=>?_)
  ·unfold callD
   split
   ·trivial
   ·exact⟨‹_›,hk⟩
  refine DOk.ite (fun _=>?_) (fun _=>?_)
  ·trivial
  ·unfold plainD
   have hp:=plainR_ok (outn:=outn) hl ha pr.result c
   split
   ·trivial
   ·rename_i e;rw[e]at hp;exact⟨hp.1,hp.2,hk,rfl,hv⟩
   ·rename_i e;rw[e]at hp;exact⟨hp.1,hp.2.1,hp.2.2.1,hp.2.2.2,hk⟩
   ·rename_i e;rw[e]at hp;exact hp
end
def Chn (pg:Pg):List Fr→Prop
 | []=>True
 | [_]=>True
 | f::g::r=>(∀pr,pg.procs[f.proc]? =some pr→pr.result≠0→g.stack.length<128)∧Chn pg (g::r)
structure Inv (pg:Pg) (s:Mc):Prop where
 procs:∀f∈s.frames,∃pr,pg.procs[f.proc]? =some pr∧f.pc≤pr.code.length
 frames:s.frames.length≤64
 stack:∀f∈s.frames,f.stack.length≤128∧f.vars.length≤64∧AllOK f.stack∧VarsOK f.vars
 chain:Chn pg s.frames
 out:s.out.length≤4096∧AllOK s.out
theorem Inv.step {pg:Pg} {s:Mc} (h:Inv pg s):Inv pg (stepM pg s):=by
 obtain⟨frames,out,steps,en,val,ended⟩:=s
 obtain⟨h1,h2,h3,h4,h5⟩:=h
 simp only at h1 h2 h3 h4 h5
 unfold stepM
 cases frames with
 | nil=>exact⟨h1,h2,h3,h4,h5⟩
 | cons f fs=>
  obtain⟨pr,hpr,hpc⟩:=h1 f (by simp)
  obtain⟨hs1,hs2,hs3,hs4⟩:=h3 f (by simp)
  simp only[hpr]
  have hd:=doR_ok (pg:=pg) (pr:=pr) (k:=f.pc) (depth:=fs.length+1) (outn:=out.length) hs1 hs3 hs4
  have hrest:∀g∈fs,(∃pr,pg.procs[g.proc]? =some pr∧g.pc≤pr.code.length)∧g.stack.length≤128∧g.vars.length≤64∧AllOK g.stack∧VarsOK g.vars:=fun g hg=>⟨h1 g (by simp[hg]),h3 g (by simp[hg])⟩
  have hch:∀f':Fr,f'.proc=f.proc→Chn pg (f'::fs):=by
   intro f' e
   cases fs with
   | nil=>trivial
   | cons g r=>exact⟨by rw[e];exact h4.1,h4.2⟩
  have hone:∀f':Fr,f'.proc=f.proc→f'.pc≤pr.code.length→f'.stack.length≤128→f'.vars.length≤64→AllOK f'.stack→VarsOK f'.vars→
    (∀g∈f'::fs,∃pr,pg.procs[g.proc]? =some pr∧g.pc≤pr.code.length)∧(∀g∈f'::fs,g.stack.length≤128∧g.vars.length≤64∧AllOK g.stack∧VarsOK g.vars):=by
   intro f' e1 e2 e3 e4 e5 e6
   refine⟨fun g hg=>?_,fun g hg=>?_⟩
   ·rcases List.mem_cons.1 hg with rfl | hg
    ·exact⟨pr,by rw[e1];exact hpr,e2⟩
    ·exact(hrest g hg).1
   ·rcases List.mem_cons.1 hg with rfl | hg
    ·exact⟨e3,e4,e5,e6⟩
    ·exact(hrest g hg).2
  cases hq:doR pg pr f.stack f.pc f.vars (fs.length+1) out.length with
  | halt n=>exact⟨h1,h2,h3,h4,h5⟩
  | go l k vs=>
   rw[hq]at hd
   obtain⟨d1,d2,d3,d4,d5⟩:=hd
   obtain⟨a1,a2⟩:=hone ⟨f.proc,k,l,vs⟩ rfl d3 d1 (by simp only[d4];exact hs2) d2 d5
   exact⟨a1,h2,a2,hch _ rfl,h5⟩
  | print l v=>
   rw[hq]at hd
   obtain⟨d1,d2,d3,d4,d5⟩:=hd
   obtain⟨a1,a2⟩:=hone ⟨f.proc,f.pc+1,l,f.vars⟩ rfl d5 d1 hs2 d2 hs4
   exact⟨a1,h2,a2,hch _ rfl,by simp;omega,h5.2.snoc d3⟩
  | call q r args n=>
   rw[hq]at hd
   obtain⟨c0,d5⟩:=hd
   obtain⟨c1,c2,c3,c4,c5,c6,c7,c8⟩:=callR_ok c0
   have hsz:(q.params.length:Int)≤q.locals∧q.locals≤64:=by unfold sizedP at c3;simpa using c3
   have hr:r.length≤128∧AllOK r:=by rw[c4]at hs1 hs3;simp at hs1;exact⟨by omega,hs3.left⟩
   obtain⟨a1,a2⟩:=hone ⟨f.proc,f.pc+1,r,f.vars⟩ rfl d5 hr.1 hs2 hr.2 hs4
   have hpl:(padded args q.locals).length≤64:=by rw[padded_length (by omega)];omega
   refine⟨fun g hg=>?_,by simp at h2⊢;omega,fun g hg=>?_,⟨fun pr' hp' hres=>?_,hch _ rfl⟩,h5⟩
   ·rcases List.mem_cons.1 hg with rfl | hg
    ·exact⟨q,c2,by simp⟩
    ·exact a1 g hg
   ·rcases List.mem_cons.1 hg with rfl | hg
    ·refine⟨by simp,hpl,fun v hv=>by simp at hv,fun v hv=>?_⟩
     rcases List.mem_append.1 hv with hv | hv
     ·rw[c4]at hs3;exact .inl (hs3.right v hv)
     ·exact .inr (List.eq_of_mem_replicate hv)
    ·exact a2 g hg
   ·rw[c2]at hp';cases hp';exact c8 hres
  | leave r g=>
   rw[hq]at hd
   cases fs with
   | nil=>exact⟨fun g hg=>by simp at hg,by simp,fun g hg=>by simp at hg,trivial,h5⟩
   | cons f0 fs'=>
    obtain⟨⟨pr0,hpr0,hpc0⟩,b1,b2,b3,b4⟩:=hrest f0 (by simp)
    have hst:(f0.stack++g).length≤128∧AllOK (f0.stack++g):=by
     rcases hd with rfl | ⟨v,rfl,hv,hne⟩
     ·simpa using⟨b1,b3⟩
     ·have:=h4.1 pr hpr hne
      exact⟨by simp;omega,b3.snoc hv⟩
    refine⟨fun x hx=>?_,by simp at h2⊢;omega,fun x hx=>?_,?_,h5⟩
    ·rcases List.mem_cons.1 hx with rfl | hx
     ·exact⟨pr0,hpr0,hpc0⟩
     ·exact(hrest x (by simp[hx])).1
    ·rcases List.mem_cons.1 hx with rfl | hx
     ·exact⟨hst.1,b2,hst.2,b4⟩
     ·exact(hrest x (by simp[hx])).2
    ·cases fs' with
     | nil=>trivial
     | cons g2 r2=>exact⟨h4.2.1,h4.2.2⟩
theorem Inv.bd {pg:Pg} {s:Mc} (h:Inv pg s) (hc:∀pr∈pg.procs,pr.code.length≤90000000000000∧OpS pr.code) (hs:s.steps≤100000000000000):Bd pg s:=
 ⟨h.procs,hc,h.frames,fun f hf=>by
  obtain⟨h1,h2,h3,h4⟩:=h.stack f hf
  exact⟨by omega,by omega,fun v hv=>by have:=vOK_size (h3 v hv);omega⟩,hs⟩
end
section
attribute [local irreducible] Tryz.prog
def madeB (s:Mc):Bool:=decide (0<s.frames.length) || s.ended
theorem ptrM:Tryz.prog.underlying 154=some (.pointer (Tryz.prog.pointee 154)):=by kernel_rfl
section
variable (G:Gh) (CA PA:Option Addr) (cc pc cn pn:Nat) (c3:Value) (mb:Nat)
theorem made_fn (s:Mc) (H:List Own) (hR:MRep CA PA cc pc cn pn c3 mb s H):
  Fn Tryz.prog 141 #[.pointer (some ⟨mb,0,none⟩)] G H fun e G' H'=>e= .returned (.bool (madeB s))∧G=G'∧H'=H:=by
 obtain⟨FA,fcap,OA,ocap,ox,fx,bs,Hf,hF,hfv,ho,rfl⟩:=hR
 have hlen:=hF.len
 have hl2:bs.reverse.length=s.frames.length:=by simp[hlen]
 rw[hl2]
 refine Fn.enter Tryz.func141 rfl rfl fun w0=>?_
 refine WC.seq ?_
 refine WC.region ?_
 refine zw.assign ?_
 refine WL.nil ?_
 refine WK.un ?_
 refine WC.seq ?_
 refine WC.region ?_
 refine zw.move ?_
 refine WL.pp (Gp.nePtrNil rfl ptrM) ?_
 refine zw.move ?_
 refine zw.move ?_
 refine zw.nil ?_
 refine zw.fa ?_
 refine zw.ld ?_
 refine zw.len ?_
 by_cases hf:0<s.frames.length
 ·
  refine WL.pp (Gp.gtI' rfl rfl (show decide ((0:Int)<(s.frames.length:Int))=true from decide_eq_true (by omega))) ?_
  refine zw.move ?_
  refine zw.skip ?_
  refine zw.skip ?_
  refine zw.skip ?_
  refine zw.skip ?_
  refine zw.pick ?_
  refine zw.pick ?_
  refine zw.assign ?_
  refine WL.nil ?_
  refine WK.un ?_
  refine WC.rt ?_
  exact QF.p1 (.inl rfl) rfl (.tmp rfl) (⟨by simp[madeB,hf],rfl,rfl⟩)
 ·
  refine WL.pp (Gp.gtI' rfl rfl (show decide ((0:Int)<(s.frames.length:Int))=false from decide_eq_false (by omega))) ?_
  refine zw.move ?_
  refine zw.move ?_
  refine zw.nil ?_
  refine zw.fa ?_
  refine zw.ld ?_
  refine zw.pick ?_
  refine zw.pick ?_
  refine zw.assign ?_
  refine WL.nil ?_
  refine WK.un ?_
  refine WC.rt ?_
  exact QF.p1 (.inl rfl) rfl (.tmp rfl) (⟨by simp[madeB,hf],rfl,rfl⟩)
end
end
section
attribute [local irreducible] Tryz.prog
def Live (s:Mc):Prop:=s.ended=false→s.frames≠ []
theorem Live.step {pg:Pg} {s:Mc} (h:Live s):Live (stepM pg s):=by
 unfold stepM
 split
 ·exact h
 ·split
  ·exact h
  ·split
   ·intro h';cases h'
   ·intro _ h';cases h'
   ·intro _ h';cases h'
   ·intro _ h';cases h'
   ·split
    ·intro h';cases h'
    ·intro _ h';cases h'
def runM (pg:Pg):Nat→Mc→Nat×Mc
 | 0,s=>(0,s)
 | n+1,s=>if s.ended then(0,s)else((runM pg n (stepM pg s)).1+1,(runM pg n (stepM pg s)).2)
theorem runM_ended {pg:Pg} {s:Mc} (h:s.ended=true):∀n,runM pg n s=(0,s)
 | 0=>rfl
 | n+1=>by simp[runM,h]
theorem stepM_steps1 {pg:Pg} {s:Mc} (hne:s.frames≠ []) (hp:∀f∈s.frames,∃pr,pg.procs[f.proc]? =some pr∧f.pc≤pr.code.length):(stepM pg s).steps=s.steps+1:=by
 obtain⟨frames,out,steps,en,val,ended⟩:=s
 cases frames with
 | nil=>exact absurd rfl hne
 | cons f fs=>
  obtain⟨pr,h1,_⟩:=hp f (by simp)
  simp only[stepM,h1]
  split<;>(try split)<;>rfl
section
variable (G:Gh) (pg:Pg) (CA PA:Option Addr) (cc pc:Nat) (hC:Sl Kd.val G CA pg.consts) (hP:Sl Kd.prc G PA pg.procs) (hcode:∀pr∈pg.procs,pr.code.length≤90000000000000∧OpS pr.code) (mb:Nat) (c3:Value)
include hC hP hcode
theorem Step_fn (s:Mc) (H:List Own) (hR:MRep CA PA cc pc pg.consts.length pg.procs.length c3 mb s H) (hI:Inv pg s) (hv:Live s) (n:Int) (hn:n≤1000000) (hst:s.steps+1000000≤100000000000000):
  Fn Tryz.prog 94 #[.pointer (some ⟨mb,0,none⟩), .int .i64 n] G H fun e G' H'=>e= .returned (.int .i64 (runM pg n.toNat s).1)∧G=G'∧MRep CA PA cc pc pg.consts.length pg.procs.length c3 mb (runM pg n.toNat s).2 H':=by
 have hm:madeB s=true:=by
  unfold madeB
  cases he:s.ended with
  | true=>simp
  | false=>have:=hv he;simp[List.length_pos_iff,this]
 refine Fn.enter Tryz.func94 rfl rfl fun w0=>?_
 refine WC.seq ?_
 refine WC.region ?_
 refine zw.assign ?_
 refine WL.nil ?_
 refine WK.un ?_
 refine WC.seq ?_
 refine WC.seq ?_
 refine WC.region ?_
 refine zw.move ?_
 refine WL.oo (OW.callK rfl (made_fn G CA PA cc pc pg.consts.length pg.procs.length c3 mb s H hR) rfl fun v' G' H' h hg=>?_)
 obtain⟨he,rfl,rfl⟩:=h
 cases he
 rw[hm]
 refine zw.not ?_
 refine WL.nil ?_
 refine WK.un ?_
 refine WC.cond_false rfl ?_
 refine WC.skip ?_
 refine WK.un ?_
 refine WC.seq ?_
 refine WC.region ?_
 refine zw.assign ?_
 refine WL.nil ?_
 refine WK.un ?_
 refine WC.seq ?_
 refine WC.block ?_  -- 0
 refine WC.loop (X:=Nat×Mc×List Own) (fun x=>[(5, .int .i64 x.1),(1, .int .i64 n),(0, .pointer (some ⟨mb,0,none⟩))]) (fun x=>G) (fun x=>x.2.2) (fun x=>n.toNat - x.1)
  (fun x=>x.1≤n.toNat∧MRep CA PA cc pc pg.consts.length pg.procs.length c3 mb x.2.1 x.2.2∧Inv pg x.2.1∧Live x.2.1∧x.2.1.steps+(n.toNat - x.1)≤100000000000000∧runM pg n.toNat s=(x.1+(runM pg (n.toNat - x.1) x.2.1).1,(runM pg (n.toNat - x.1) x.2.1).2))
  (0,s,H') ⟨by simp,hR,hI,hv,by simp only;omega,by simp⟩ (by exact⟨rfl,rfl,rfl,trivial⟩) rfl (by simp) fun x hx=>?_
 obtain⟨j,t,Ht⟩:=x
 obtain⟨hj,hRt,hIt,hvt,hst',hrun⟩:=hx
 simp only at hj hRt hIt hvt hst' hrun
 have hRt0:=hRt
 obtain⟨FA,fcap,OA,ocap,ox,fx,bs,Hf,hF,hfv,ho,rfl⟩:=hRt
 refine WC.seq ?_
 refine WC.seq ?_
 refine WC.region ?_
 refine zw.move ?_
 refine zw.move ?_
 by_cases hjn:(j:Int)<n
 rotate_left
 ·
  refine WL.pp (Gp.ltI' rfl rfl (show decide ((j:Int)<n)=false from decide_eq_false hjn)) ?_
  refine zw.move ?_
  refine zw.skip ?_
  refine zw.skip ?_
  refine zw.skip ?_
  refine zw.skip ?_
  refine zw.skip ?_
  refine zw.pick ?_
  refine WL.nil ?_
  refine WK.un ?_
  refine WC.cond_false rfl ?_
  refine WC.exit ?_
  refine WK.un ?_
  refine WC.seq ?_
  refine WC.region ?_
  refine zw.move ?_
  refine zw.assign ?_
  refine WL.nil ?_
  refine WK.un ?_
  have hj':n.toNat - j=0:=by omega
  rw[hj']at hrun
  refine WC.rt ?_
  exact QF.p1 (.inl rfl) rfl (.tmp rfl) (⟨by rw[hrun];simp[runM],rfl,by rw[hrun];exact hRt0⟩)
 refine WL.pp (Gp.ltI' rfl rfl (show decide ((j:Int)<n)=true from decide_eq_true hjn)) ?_
 refine zw.move ?_
 refine zw.move ?_
 refine zw.nil ?_
 refine zw.fa ?_
 refine zw.ld ?_
 cases hen:t.ended with
 | true=>
  refine zw.not ?_
  refine zw.pick ?_
  refine WL.nil ?_
  refine WK.un ?_
  refine WC.cond_false rfl ?_
  refine WC.exit ?_
  refine WK.un ?_
  refine WC.seq ?_
  refine WC.region ?_
  refine zw.move ?_
  refine zw.assign ?_
  refine WL.nil ?_
  refine WK.un ?_
  rw[runM_ended hen]at hrun
  rw[hen]at hRt0
  refine WC.rt ?_
  exact QF.p1 (.inl rfl) rfl (.tmp rfl) (⟨by rw[hrun];simp,rfl,by rw[hrun];exact hRt0⟩)
 | false=>
  refine zw.not ?_
  refine zw.pick ?_
  refine WL.nil ?_
  refine WK.un ?_
  refine WC.cond_true rfl ?_
  refine WC.skip ?_
  refine WK.un ?_
  refine WC.block ?_  -- 1
  refine WC.seq ?_
  refine WC.region ?_
  refine zw.move ?_
  have hne:=hvt hen
  rw[hen]at hRt0
  have hs1:=stepM_steps1 hne hIt.procs
  refine WL.oo (OW.callK rfl (stepM_fn G pg CA PA cc pc hC hP mb c3 t _ hRt0 (hIt.bd hcode (by omega)) hne) rfl fun v' G' H' h hg=>?_)
  obtain⟨he,rfl,hR'⟩:=h
  cases he
  refine WL.nil ?_
  refine WK.un ?_
  refine WC.region ?_
  refine zw.move ?_
  refine zw.add ?_
  refine zw.assign ?_
  refine WL.nil ?_
  refine WK.un ?_
  obtain⟨m,hm'⟩:∃m,n.toNat - j=m+1:=⟨n.toNat - j - 1,by omega⟩
  have hm2:n.toNat - (j+1)=m:=by omega
  have hrun':runM pg n.toNat s=(j+1+(runM pg (n.toNat - (j+1)) (stepM pg t)).1,(runM pg (n.toNat - (j+1)) (stepM pg t)).2):=by
   rw[hrun,hm',hm2,runM,hen]
   simp;omega
  refine WK.pk (H':=H') pkA ?_
  exact WK.again (j+1,stepM pg t,H') (show n.toNat - (j+1)<n.toNat - j by omega) ⟨show j+1≤n.toNat by omega,hR',hIt.step,hvt.step,by simp only;rw[hs1];omega,hrun'⟩ (by refine⟨?_,rfl,rfl,trivial⟩;show some _=some _;rw[wrap_small (by omega) (by omega)];rfl) rfl (List.Sublist.refl _)
end
end
section
attribute [local irreducible] Tryz.prog
structure PgB (pg:Pg):Prop where
 consts:pg.consts.length*40≤140737488355328
 procs:pg.procs.length*88≤140737488355328
 params:∀p∈pg.procs,p.params.length*8≤140737488355328
 code:∀p∈pg.procs,p.code.length*16≤140737488355328
 ops:∀p∈pg.procs,OpS p.code
theorem own_fn (G:Gh) (pg:Pg) (CA PA:Option Addr) (cc pc:Nat) (qv:Value) (hC:Sl Kd.val G CA pg.consts) (hP:Sl Kd.prc G PA pg.procs) (hB:PgB pg):
  Fn Tryz.prog 139 #[.agg #[.slice CA pg.consts.length cc, .slice PA pg.procs.length pc,qv]] G []
   fun e G' H'=>∃CA' PA' cc' pc',e= .returned (.agg #[.slice CA' pg.consts.length cc', .slice PA' pg.procs.length pc', .slice none 0 0])∧G.le G'∧Sl Kd.val G' CA' pg.consts∧Sl Kd.prc G' PA' pg.procs∧H'=[]:=by
 obtain⟨csC,hrC,hlC,h1C,hkC⟩:=Sl.rds (H:=[]) (by decide:0<Kd.val.n) hC
 obtain⟨csP,hrP,hlP,h1P,hkP⟩:=Sl.rds (H:=[]) (by decide:0<Kd.prc.n) hP
 refine Fn.enter Tryz.func139 rfl rfl fun w0=>?_
 refine WC.seq ?_
 refine WC.region ?_
 refine WL.oo (OW.box rfl rfl fun b5=>?_)
 refine WL.oo (OW.alloc rfl fun b6=>?_)
 refine WL.nil ?_
 refine WK.un ?_
 refine WC.join (X:=Option Addr×Nat×Own×Option Addr×Nat×Own×Nat×Nat) (fun x=>[(3, .pointer (some ⟨x.2.2.2.2.2.2.1,0,none⟩)),(2, .pointer (some ⟨x.2.2.2.2.2.2.2,0,none⟩))]) (fun x=>G)
  (fun x=>[x.2.2.1,x.2.2.2.2.2.1, .blk x.2.2.2.2.2.2.1 (.cells #[.slice x.1 pg.consts.length x.2.1, .slice x.2.2.2.1 pg.procs.length x.2.2.2.2.1, .slice none 0 0] 27 (0,0)), .blk x.2.2.2.2.2.2.2 (.cells #[.slice none 0 0, .slice none 0 0, .slice none 0 0] 27 (0,0))])
  (fun x=>Vec 52 4 x.1 pg.consts.length x.2.1 csC x.2.2.1∧Vec 47 6 x.2.2.2.1 pg.procs.length x.2.2.2.2.1 csP x.2.2.2.2.2.1) ?_ fun x hx=>?_
 ·refine WC.drawS (Hs:=[.blk b5 (.cells #[.slice CA pg.consts.length cc, .slice PA pg.procs.length pc,qv] 27 (0,0))]) mixed pkA ?_
  refine zb.fa 0 ?_
  refine zb.fa 3 ?_
  refine zb.ld 1 ?_
  refine zb.ld 4 ?_
  refine WB.two (i:=2) (j:=7) kr rfl rfl kr kr ?_ ?_
  ·refine OW.callR rfl (Pk.perm pkA) (clone_vals G [] CA pg.consts.length cc csC hrC hlC h1C hC.none_zero hB.consts) rfl (by intro e G' H' h;repeat (first | exact⟨_,h.1⟩ | (obtain⟨_,h⟩:=h))) fun v' G' H' h hg=>?_
   obtain⟨A1,cap1,x1,he,rfl,rfl,hx1⟩:=h
   cases he
   refine⟨fun w hw=>hw.pk pkA,?_⟩
   refine WB.two (i:=5) (j:=7) kr rfl rfl kr kr ?_ ?_
   ·refine OW.callR rfl (Pk.perm pkA) (clone_procs G [] PA pg.procs.length pc csP hrP hlP h1P hP.none_zero hB.procs) rfl (by intro e G' H' h;repeat (first | exact⟨_,h.1⟩ | (obtain⟨_,h⟩:=h))) fun v' G' H' h hg=>?_
    obtain⟨A2,cap2,x2,he,rfl,rfl,hx2⟩:=h
    cases he
    refine⟨fun w hw=>hw.pk pkA,?_⟩
    refine zb.build 6 ?_
    refine WB.oo 7 rfl (OW.alloc rfl fun b7=>?_)
    refine⟨fun w hw=>hw.pk pkA,?_⟩
    refine zb.st 8 ?_
    refine⟨fun w hw=>hw.pk pkA,?_⟩
    refine WB.done kr ?_
    refine WK.un ?_
    refine WK.pk (H':=[x1,x2, .blk b7 (.cells #[.slice A1 pg.consts.length cap1, .slice A2 pg.procs.length cap2, .slice none 0 0] 27 (0,0)), .blk b6 (.cells #[.slice none 0 0, .slice none 0 0, .slice none 0 0] 27 (0,0))]) pkA ?_
    exact WK.meet (A1,cap1,x1,A2,cap2,x2,b7,b6) ⟨hx1,hx2⟩ (by exact⟨rfl,rfl,trivial⟩) rfl (List.Sublist.refl _)
   ·refine OW.alloc rfl fun b7=>?_
    refine⟨fun w hw=>hw.pk pkA,?_⟩
    refine WB.oo 5 rfl (OW.callR rfl (Pk.perm pkA) (clone_procs G [] PA pg.procs.length pc csP hrP hlP h1P hP.none_zero hB.procs) rfl (by intro e G' H' h;repeat (first | exact⟨_,h.1⟩ | (obtain⟨_,h⟩:=h))) fun v' G' H' h hg=>?_)
    obtain⟨A2,cap2,x2,he,rfl,rfl,hx2⟩:=h
    cases he
    refine⟨fun w hw=>hw.pk pkA,?_⟩
    refine zb.build 6 ?_
    refine zb.st 8 ?_
    refine⟨fun w hw=>hw.pk pkA,?_⟩
    refine WB.done kr ?_
    refine WK.un ?_
    refine WK.pk (H':=[x1,x2, .blk b7 (.cells #[.slice A1 pg.consts.length cap1, .slice A2 pg.procs.length cap2, .slice none 0 0] 27 (0,0)), .blk b6 (.cells #[.slice none 0 0, .slice none 0 0, .slice none 0 0] 27 (0,0))]) pkA ?_
    exact WK.meet (A1,cap1,x1,A2,cap2,x2,b7,b6) ⟨hx1,hx2⟩ (by exact⟨rfl,rfl,trivial⟩) rfl (List.Sublist.refl _)
  ·refine OW.alloc rfl fun b7=>?_
   refine⟨fun w hw=>hw.pk pkA,?_⟩
   refine WB.oo 2 rfl (OW.callR rfl (Pk.perm pkA) (clone_vals G [] CA pg.consts.length cc csC hrC hlC h1C hC.none_zero hB.consts) rfl (by intro e G' H' h;repeat (first | exact⟨_,h.1⟩ | (obtain⟨_,h⟩:=h))) fun v' G' H' h hg=>?_)
   obtain⟨A1,cap1,x1,he,rfl,rfl,hx1⟩:=h
   cases he
   refine⟨fun w hw=>hw.pk pkA,?_⟩
   refine WB.oo 5 rfl (OW.callR rfl (Pk.perm pkA) (clone_procs G [] PA pg.procs.length pc csP hrP hlP h1P hP.none_zero hB.procs) rfl (by intro e G' H' h;repeat (first | exact⟨_,h.1⟩ | (obtain⟨_,h⟩:=h))) fun v' G' H' h hg=>?_)
   obtain⟨A2,cap2,x2,he,rfl,rfl,hx2⟩:=h
   cases he
   refine⟨fun w hw=>hw.pk pkA,?_⟩
   refine zb.build 6 ?_
   refine zb.st 8 ?_
   refine⟨fun w hw=>hw.pk pkA,?_⟩
   refine WB.done kr ?_
   refine WK.un ?_
   refine WK.pk (H':=[x1,x2, .blk b7 (.cells #[.slice A1 pg.consts.length cap1, .slice A2 pg.procs.length cap2, .slice none 0 0] 27 (0,0)), .blk b6 (.cells #[.slice none 0 0, .slice none 0 0, .slice none 0 0] 27 (0,0))]) pkA ?_
   exact WK.meet (A1,cap1,x1,A2,cap2,x2,b7,b6) ⟨hx1,hx2⟩ (by exact⟨rfl,rfl,trivial⟩) rfl (List.Sublist.refl _)
 obtain⟨A1,cap1,x1,A2,cap2,x2,bq,br⟩:=x
 obtain⟨hx1,hx2⟩:=hx
 simp only at hx1 hx2
 refine WC.frozenVec hx1 .here fun G1 hG1 hz1=>?_
 have hC1:Sl Kd.val G1 A1 pg.consts:=Sl.ofCs hz1 hlC (by decide) fun i x hx=>Kd.val.mono hG1 (hkC i x hx)
 refine WC.seq ?_
 refine WC.seq ?_
 refine WC.region ?_
 refine zw.fa ?_
 refine zw.ld ?_
 refine zw.len ?_
 refine zw.move ?_
 refine WL.nil ?_
 refine WK.un ?_
 refine WC.block ?_  -- 0
 have hmb:=hB.procs
 refine WC.loop (X:=Nat×Gh×Own) (fun x=>[(15, .int .i64 x.1),(14, .int .i64 pg.procs.length),(3, .pointer (some ⟨bq,0,none⟩)),(2, .pointer (some ⟨br,0,none⟩))]) (fun x=>x.2.1)
  (fun x=>[x.2.2, .blk bq (.cells #[.slice A1 pg.consts.length cap1, .slice A2 pg.procs.length cap2, .slice none 0 0] 27 (0,0)), .blk br (.cells #[.slice none 0 0, .slice none 0 0, .slice none 0 0] 27 (0,0))]) (fun x=>pg.procs.length - x.1)
  (fun x=>x.1≤pg.procs.length∧G1.le x.2.1∧∃cs,Vec 47 6 A2 pg.procs.length cap2 cs x.2.2∧∀i p,pg.procs[i]? =some p→Kd.prc.K x.2.1 p ((cs.drop (i*6)).take 6))
  (0,G1,x2) ⟨by simp,Gh.le_refl _,csP,hx2,fun i p hp=>Kd.prc.mono hG1 (hkP i p hp)⟩ (by exact⟨rfl,rfl,rfl,rfl,trivial⟩) rfl (List.Sublist.refl _) fun x hx=>?_
 obtain⟨j,Gj,xj⟩:=x
 obtain⟨hj,hGj,cs,hvj,hkj⟩:=hx
 simp only at hj hGj hvj hkj
 refine WC.seq ?_
 refine WC.region ?_
 refine zw.lt ?_
 refine WL.nil ?_
 refine WK.un ?_
 refine WC.seq ?_
 refine WC.cond rfl (fun hc8=>?_) (fun hc8=>?_)
 ·-- yes
  have hlt:j<pg.procs.length:=by have h:=of_decide_eq_true hc8;simp only at h;omega
  obtain⟨pr,hpr⟩:∃pr,pg.procs[j]? =some pr:=⟨_,List.getElem?_eq_getElem hlt⟩
  obtain⟨QA,qc,IA,ic,hes,hQ,hI⟩:=hkj j pr hpr
  obtain⟨hlv,⟨h1,h2,h3,h4⟩ | ⟨pb,c,rfl,rfl,hv1,hv2,hv3⟩⟩:=id hvj
  ·omega
  have hvv:=hvj
  obtain⟨csQ,hrQ,hlQ,h1Q,hkQ⟩:=Sl.rds (H:=[]) (by decide:0<(Kd.int .i64).n) hQ
  refine WC.skip ?_
  refine WK.un ?_
  refine WC.seq ?_
  refine WC.block ?_  -- 1
  refine WC.seq ?_
  refine WC.region ?_
  refine zw.move ?_
  refine zw.assign ?_
  refine WL.nil ?_
  refine WK.un ?_
  refine WC.seq ?_
  refine WC.drawS (Hs:=[.blk bq (.cells #[.slice A1 pg.consts.length cap1, .slice (some ⟨pb,0,none⟩) pg.procs.length cap2, .slice none 0 0] 27 (0,0))]) mixed pkA ?_
  refine zb.fa 0 ?_
  refine zb.move 2 ?_
  refine zb.fa 3 ?_
  refine zb.move 5 ?_
  refine zb.ld 1 ?_
  refine zb.ld 4 ?_
  refine zb.ix 6 ?_
  refine zb.fa 7 ?_
  refine WB.oo 8 rfl (OW.gv (Gv.load1 rfl atA (elem_cell (k:=2) hv3 hes rfl)) rfl ?_)
  refine⟨fun w hw=>hw.pk pkA,?_⟩
  refine WB.oo 9 rfl (OW.callK rfl (clone_types Gj [] QA pr.params.length _ csQ hrQ hlQ h1Q hQ.none_zero (hB.params pr (List.mem_of_getElem? hpr))) rfl fun v' G' H' h hg=>?_)
  obtain⟨QA1,qc1,y1,he,rfl,rfl,hy1⟩:=h
  cases he
  refine⟨fun w hw=>hw.pk pkA,?_⟩
  obtain⟨_,hfitQ,hputQ⟩:=Vec.put1 hvv (o:=j*6+2) (by omega) (.slice QA1 pr.params.length qc1)
  refine zb.ix 10 ?_
  refine zb.fa 11 ?_
  refine WB.oo 12 rfl (OW.store (n:=1) (c':=splice c (j*6+2) [.slice QA1 pr.params.length qc1]) rfl rfl atA rfl rfl rfl (Nat.ble_eq_true_of_le (by simp;omega)) (by simp;rfl) ?_ rfl)
  refine⟨fun w hw=>hw.pk pkA,?_⟩
  refine WB.done kr ?_
  refine WK.un ?_
  refine WC.frozenVec hy1 atA fun G2 hG2 hzQ=>?_
  have hQ2:Sl (Kd.int .i64) G2 QA1 pr.params:=Sl.ofCs hzQ hlQ (by decide) fun i x hx=>(Kd.int .i64).mono hG2 (hkQ i x hx)
  have hI2:Sl Kd.ins G2 IA pr.code:=hI.mono hG2
  obtain⟨csI,hrI,hlI,h1I,hkI⟩:=Sl.rds (H:=[]) (by decide:0<Kd.ins.n) hI2
  have hes2:((cs.set (j*6+2) (.slice QA1 pr.params.length qc1)).drop (j*6)).take 6=[.string pr.name, .bool pr.exp, .slice QA1 pr.params.length qc1, .int .i64 pr.locals, .int .i64 pr.result, .slice IA pr.code.length ic]:=by
   rw[set_elem (by omega),if_pos rfl,hes];rfl
  obtain⟨c2,hc2⟩:∃c2,c2=splice c (j*6+2) [.slice QA1 pr.params.length qc1]:=⟨_,rfl⟩
  rw[←hc2]at hputQ
  have hvv2:=hputQ
  obtain⟨hlv2,⟨h1,h2,h3,h4⟩ | ⟨pb2,c2',hpb,hxx,hv12,hv22,hv32⟩⟩:=id hputQ
  ·omega
  cases hxx
  refine WC.pk (H':=[.blk pb (.cells c2 47 (0,0)), .blk bq (.cells #[.slice A1 pg.consts.length cap1, .slice (some ⟨pb,0,none⟩) pg.procs.length cap2, .slice none 0 0] 27 (0,0)), .blk br (.cells #[.slice none 0 0, .slice none 0 0, .slice none 0 0] 27 (0,0))]) (by subst hc2;exact pkA) ?_
  refine WC.drawS (Hs:=[.blk bq (.cells #[.slice A1 pg.consts.length cap1, .slice (some ⟨pb,0,none⟩) pg.procs.length cap2, .slice none 0 0] 27 (0,0))]) mixed pkA ?_
  refine zb.fa 0 ?_
  refine zb.move 2 ?_
  refine zb.fa 3 ?_
  refine zb.move 5 ?_
  refine zb.ld 1 ?_
  refine zb.ld 4 ?_
  refine zb.ix 6 ?_
  refine zb.fa 7 ?_
  refine WB.oo 8 rfl (OW.gv (Gv.load1 rfl atA (elem_cell (k:=5) hv32 hes2 rfl)) rfl ?_)
  refine⟨fun w hw=>hw.pk pkA,?_⟩
  refine WB.oo 9 rfl (OW.callK rfl (clone_instrs G2 [] IA pr.code.length _ csI hrI hlI h1I hI2.none_zero (hB.code pr (List.mem_of_getElem? hpr))) rfl fun v' G' H' h hg=>?_)
  obtain⟨IA1,ic1,z1,he,rfl,rfl,hz1'⟩:=h
  cases he
  refine⟨fun w hw=>hw.pk pkA,?_⟩
  obtain⟨_,hfitI,hputI⟩:=Vec.put1 hvv2 (o:=j*6+5) (by omega) (.slice IA1 pr.code.length ic1)
  refine zb.ix 10 ?_
  refine zb.fa 11 ?_
  refine WB.oo 12 rfl (OW.store (n:=1) (c':=splice c2 (j*6+5) [.slice IA1 pr.code.length ic1]) rfl rfl atA rfl rfl rfl (Nat.ble_eq_true_of_le (by simp;omega)) (by simp;rfl) ?_ rfl)
  refine⟨fun w hw=>hw.pk pkA,?_⟩
  refine WB.done kr ?_
  refine WK.un ?_
  refine WC.frozenVec hz1' atA fun G3 hG3 hzI=>?_
  have hI3:Sl Kd.ins G3 IA1 pr.code:=Sl.ofCs hzI hlI (by decide) fun i x hx=>Kd.ins.mono hG3 (hkI i x hx)
  have hes3:(((cs.set (j*6+2) (.slice QA1 pr.params.length qc1)).set (j*6+5) (.slice IA1 pr.code.length ic1)).drop (j*6)).take 6=[.string pr.name, .bool pr.exp, .slice QA1 pr.params.length qc1, .int .i64 pr.locals, .int .i64 pr.result, .slice IA1 pr.code.length ic1]:=by
   rw[set_elem (by omega),if_pos rfl,hes2];rfl
  refine WC.region ?_
  refine zw.add ?_
  refine zw.move ?_
  refine WL.nil ?_
  refine WK.un ?_
  refine WK.pk (H':=[.blk pb (.cells (splice c2 (j*6+5) [.slice IA1 pr.code.length ic1]) 47 (0,0)), .blk bq (.cells #[.slice A1 pg.consts.length cap1, .slice (some ⟨pb,0,none⟩) pg.procs.length cap2, .slice none 0 0] 27 (0,0)), .blk br (.cells #[.slice none 0 0, .slice none 0 0, .slice none 0 0] 27 (0,0))]) pkA ?_
  exact WK.again (j+1,G3, .blk pb (.cells (splice c2 (j*6+5) [.slice IA1 pr.code.length ic1]) 47 (0,0))) (show pg.procs.length - (j+1)<pg.procs.length - j by omega)
   ⟨show j+1≤pg.procs.length by omega,Gh.le_trans hGj (Gh.le_trans hG2 hG3),_,hputI,fun i p hp=>by
    by_cases hij:i=j
    ·subst hij
     rw[hpr]at hp;cases hp
     exact⟨QA1,qc1,IA1,ic1,hes3,hQ2.mono hG3,hI3⟩
    ·rw[set_elem (by omega),if_neg hij,set_elem (by omega),if_neg hij]
     exact Kd.prc.mono (Gh.le_trans hG2 hG3) (hkj i p hp)⟩ (by refine⟨?_,rfl,rfl,rfl,trivial⟩;show some _=some _;rw[wrap_small (by omega) (by omega)];rfl) rfl (List.Sublist.refl _)
 ·-- no
  have hge:j=pg.procs.length:=by have h:=of_decide_eq_false hc8;simp only at h;omega
  refine WC.exit ?_
  refine WK.un ?_
  refine WC.frozenVec hvj .here fun G4 hG4 hz4=>?_
  have hP4:Sl Kd.prc G4 A2 pg.procs:=Sl.ofCs hz4 hvj.1 (by decide) fun i x hx=>Kd.prc.mono hG4 (hkj i x hx)
  refine WC.seq ?_
  refine WC.region ?_
  refine WL.vv (Gv.loadN rfl atA rfl rfl) ?_
  refine zw.st ?_
  refine WL.nil ?_
  refine WK.un ?_
  refine WC.rt ?_
  exact QF.p1 (.inl rfl) rfl (.cell rfl inferInstance inferInstance atA rfl rfl) (⟨A1,A2,cap1,cap2,rfl,Gh.le_trans hG1 (Gh.le_trans hGj hG4),hC1.mono (Gh.le_trans hGj hG4),hP4,rfl⟩)
end
section
attribute [local irreducible] Tryz.prog
def startR (pg:Pg) (n:Int) (args:List V):Option Pr:=if n<0 then none else match pg.procs[n.toNat]? with
 | none=>none
 | some q=>if sizedP q=false then none else if args.length≠q.params.length then none else if(args.all vOK&&decide (tys args=q.params))=true then some q else none
def startS (q:Pr) (n:Int) (args:List V):Mc:=⟨[⟨n.toNat,0,[],padded args q.locals⟩],[],0,0,V0,false⟩
def StartP (G:Gh) (pg:Pg) (n:Int) (args:List V) (Ha:List Own) (r:Option Pr):Ending→Gh→List Own→Prop:=fun e G' H'=>match r with
 | none=>e= .returned (.tuple #[.pointer none, .int .i64 1])∧G=G'∧H'=Ha
 | some q=>∃mb CA' PA' cc' pc' H1,e= .returned (.tuple #[.pointer (some ⟨mb,0,none⟩), .int .i64 0])∧G.le G'∧Sl Kd.val G' CA' pg.consts∧Sl Kd.prc G' PA' pg.procs∧
   MRep CA' PA' cc' pc' pg.consts.length pg.procs.length (.slice none 0 0) mb (startS q n args) H1∧H'=H1++Ha
theorem Start_fn (G:Gh) (pg:Pg) (CA PA:Option Addr) (cc pc:Nat) (qv:Value) (hC:Sl Kd.val G CA pg.consts) (hP:Sl Kd.prc G PA pg.procs) (hB:PgB pg) (n:Int) (AA:Option Addr) (ac:Nat) (args:List V) (Ha:List Own) (hr:Rds G Ha AA (vflat args)) (hal:args.length*40≤140737488355328):
  Fn Tryz.prog 93 #[.agg #[.slice CA pg.consts.length cc, .slice PA pg.procs.length pc,qv], .int .i64 n, .slice AA args.length ac] G Ha (StartP G pg n args Ha (startR pg n args)):=by
 refine Fn.enter Tryz.func93 rfl rfl fun w0=>?_
 refine WC.seq ?_
 refine WC.region ?_
 refine WL.oo (OW.box rfl rfl fun b9=>?_)
 refine zw.assign ?_
 refine zw.assign ?_
 refine WL.nil ?_
 refine WK.un ?_
 refine WC.seq ?_
 refine WC.seq ?_
 refine WC.region ?_
 refine zw.move ?_
 by_cases hn0:n<0
 ·
  refine WL.pp (Gp.ltI' rfl rfl (decide_eq_true hn0)) ?_
  refine zw.move ?_
  refine zw.skip ?_
  refine zw.skip ?_
  refine zw.skip ?_
  refine zw.skip ?_
  refine zw.skip ?_
  refine zw.pick ?_
  refine WL.nil ?_
  refine WK.un ?_
  refine WC.cond_true rfl ?_
  refine WC.seq ?_
  refine WC.region ?_
  refine zw.assign ?_
  refine zw.assign ?_
  refine WL.nil ?_
  refine WK.un ?_
  rw[show startR pg n args=none by rw[startR,if_pos hn0]]
  refine WC.rt ?_
  exact QF.p2 (.inl rfl) rfl (.tmp rfl) (.tmp rfl) (⟨rfl,rfl,rfl⟩)
 refine WL.pp (Gp.ltI' rfl rfl (decide_eq_false hn0)) ?_
 obtain⟨i,rfl⟩:=Int.eq_ofNat_of_zero_le (Int.not_lt.1 hn0)
 refine zw.move ?_
 refine zw.move ?_
 refine zw.fa ?_
 refine zw.ld ?_
 refine zw.len ?_
 cases hq:pg.procs[i]? with
 | none=>
  refine WL.pp (Gp.geI' rfl rfl (decide_eq_true (by have:=List.getElem?_eq_none_iff.1 hq;omega))) ?_
  refine zw.pick ?_
  refine WL.nil ?_
  refine WK.un ?_
  refine WC.cond_true rfl ?_
  refine WC.seq ?_
  refine WC.region ?_
  refine zw.assign ?_
  refine zw.assign ?_
  refine WL.nil ?_
  refine WK.un ?_
  rw[show startR pg (i:Int) args=none by rw[startR,if_neg hn0,Int.toNat_natCast,hq]]
  refine WC.rt ?_
  exact QF.p2 (.inl rfl) rfl (.tmp rfl) (.tmp rfl) (⟨rfl,rfl,rfl⟩)
 | some q=>
 have hil:=(List.getElem?_eq_some_iff.1 hq).1
 refine WL.pp (Gp.geI' rfl rfl (decide_eq_false (by omega))) ?_
 refine zw.pick ?_
 refine WL.nil ?_
 refine WK.un ?_
 refine WC.cond_false rfl ?_
 refine WC.skip ?_
 refine WK.un ?_
 obtain⟨pb,po,cs,hPA,⟨QA,qc,IA,ic,rfl,hQ,hI⟩,hcs⟩:=hP i q hq
 have hP':=hP
 subst hPA
 have hcR:startR pg (i:Int) args=if sizedP q=false then none else if args.length≠q.params.length then none else if(args.all vOK&&decide (tys args=q.params))=true then some q else none:=by rw[startR,if_neg hn0,Int.toNat_natCast,hq]
 refine WC.seq ?_
 refine WC.region ?_
 refine zw.fa ?_
 refine zw.ld ?_
 refine zw.move ?_
 refine zw.ix ?_
 refine WL.vv (Gv.loadGN rfl hcs rfl) ?_
 refine WL.oo (OW.alloc rfl fun b11=>?_)
 refine zw.st ?_
 refine WL.nil ?_
 refine WK.un ?_
 refine WC.seq ?_
 refine WC.seq ?_
 refine WC.region ?_
 refine WL.vv (Gv.loadN rfl .here rfl rfl) ?_
 refine WL.oo (OW.callR rfl (Hf:=[]) (List.Perm.refl _) (sized_fn G q.name q.exp QA q.params.length qc q.locals q.result (.slice IA q.code.length ic)) rfl (by rintro e G' H' ⟨h,_⟩;exact⟨_,h⟩) fun v' G' H' h hg=>?_)
 obtain⟨he,rfl,rfl⟩:=h
 cases he
 rw[show(decide ((q.params.length:Int)≤q.locals)&&decide (q.locals≤64))=sizedP q from rfl]
 cases hs:sizedP q with
 | false=>
  refine zw.not ?_
  refine zw.move ?_
  refine zw.skip ?_
  refine zw.skip ?_
  refine zw.skip ?_
  refine zw.skip ?_
  refine zw.skip ?_
  refine zw.skip ?_
  refine zw.pick ?_
  refine WL.nil ?_
  refine WK.un ?_
  refine WC.cond_true rfl ?_
  refine WC.seq ?_
  refine WC.region ?_
  refine zw.assign ?_
  refine zw.assign ?_
  refine WL.nil ?_
  refine WK.un ?_
  rw[hcR,if_pos hs]
  refine WC.rt ?_
  exact QF.p2 (.inl rfl) rfl (.tmp rfl) (.tmp rfl) (⟨rfl,rfl,rfl⟩)
 | true=>
 rw[if_neg (by rw[hs];decide)]at hcR
 have hs':(q.params.length:Int)≤q.locals∧q.locals≤64:=by unfold sizedP at hs;simpa using hs
 refine zw.not ?_
 refine zw.move ?_
 refine zw.move ?_
 refine zw.len ?_
 refine zw.fa ?_
 refine zw.ld ?_
 refine zw.len ?_
 by_cases hal':args.length≠q.params.length
 ·
  refine WL.pp (Gp.neI' rfl rfl (show((args.length:Int) != (q.params.length:Int))=true by simp;omega)) ?_
  refine zw.pick ?_
  refine WL.nil ?_
  refine WK.un ?_
  refine WC.cond_true rfl ?_
  refine WC.seq ?_
  refine WC.region ?_
  refine zw.assign ?_
  refine zw.assign ?_
  refine WL.nil ?_
  refine WK.un ?_
  rw[hcR,if_pos hal']
  refine WC.rt ?_
  exact QF.p2 (.inl rfl) rfl (.tmp rfl) (.tmp rfl) (⟨rfl,rfl,rfl⟩)
 rw[if_neg hal']at hcR
 have hal2:args.length=q.params.length:=Classical.not_not.1 hal'
 refine WL.pp (Gp.neI' rfl rfl (show((args.length:Int) != (q.params.length:Int))=false by simp;omega)) ?_
 refine zw.pick ?_
 refine WL.nil ?_
 refine WK.un ?_
 refine WC.cond_false rfl ?_
 refine WC.skip ?_
 refine WK.un ?_
 refine WC.seq ?_
 refine WC.seq ?_
 refine WC.region ?_
 refine zw.move ?_
 refine zw.len ?_
 refine zw.move ?_
 refine WL.nil ?_
 refine WK.un ?_
 refine WC.block ?_  -- 0
 refine WC.pk (H':= .blk b11 (.cells #[.string q.name, .bool q.exp, .slice QA q.params.length qc, .int .i64 q.locals, .int .i64 q.result, .slice IA q.code.length ic] 47 (0,0)):: .blk b9 (.cells #[.slice CA pg.consts.length cc, .slice (some ⟨pb,po,none⟩) pg.procs.length pc,qv] 27 (0,0))::Ha) pkA ?_
 refine WC.loop (X:=Nat) (fun j=>[(39, .int .i64 j),(38, .int .i64 args.length),(37, .slice AA args.length ac),(8, .pointer (some ⟨b11,0,none⟩)),(3, .pointer (some ⟨b9,0,none⟩)),(1, .int .i64 i),(2, .slice AA args.length ac)]) (fun j=>G)
  (fun j=> .blk b11 (.cells #[.string q.name, .bool q.exp, .slice QA q.params.length qc, .int .i64 q.locals, .int .i64 q.result, .slice IA q.code.length ic] 47 (0,0)):: .blk b9 (.cells #[.slice CA pg.consts.length cc, .slice (some ⟨pb,po,none⟩) pg.procs.length pc,qv] 27 (0,0))::Ha) (fun j=>args.length - j)
  (fun j=>j≤args.length∧∀k (u:V) t,k<j→args[k]? =some u→q.params[k]? =some t→vOK u=true∧u.t=t) 0 ⟨by omega,fun k u t h=>by omega⟩ (by exact⟨rfl,rfl,rfl,rfl,rfl,rfl,rfl,trivial⟩) rfl (List.Sublist.refl _) fun j hx=>?_
 obtain⟨hj,hall⟩:=hx
 refine WC.seq ?_
 refine WC.region ?_
 refine zw.lt ?_
 refine WL.nil ?_
 refine WK.un ?_
 refine WC.seq ?_
 refine WC.cond rfl (fun hc13=>?_) (fun hc13=>?_)
 ·-- yes
  have hlt:j<args.length:=by have h:=of_decide_eq_true hc13;omega
  obtain⟨u,hu⟩:∃u,args[j]? =some u:=⟨_,List.getElem?_eq_getElem hlt⟩
  obtain⟨t,ht⟩:∃t,q.params[j]? =some t:=⟨_,List.getElem?_eq_getElem (by omega)⟩
  obtain⟨qb,qo,cs,rfl,hK,hcsq⟩:=hQ j t ht
  obtain rfl:cs=[.int .i64 t]:=hK
  rcases hr with h0 | ⟨lb,lo,rfl,hread⟩
  ·have h:=congrArg List.length h0
   rw[vflat_length]at h;simp only[List.length_nil]at h;omega
  have hbad:¬(vOK u=true∧u.t=t)→startR pg (i:Int) args=none:=fun hno=>by
   rw[hcR,if_neg]
   intro h
   rw[Bool.and_eq_true,decide_eq_true_iff,List.all_eq_true]at h
   refine hno ⟨h.1 u (List.mem_of_getElem? hu),?_⟩
   have h1:=congrArg (fun l=>l[j]?) h.2
   simp only[tys,List.getElem?_map,hu,ht,Option.map_some,Option.some.injEq]at h1
   exact h1
  refine WC.skip ?_
  refine WK.un ?_
  refine WC.seq ?_
  refine WC.block ?_  -- 1
  refine WC.seq ?_
  refine WC.region ?_
  refine zw.move ?_
  refine zw.ix ?_
  refine WL.vv (Gv.loadRN rfl hread (by repeat (first | exact List.Sublist.refl _ | exact List.nil_sublist _ | apply List.Sublist.cons)) (vflat_elem args j u hu) rfl) ?_
  refine WL.oo (OW.alloc rfl fun b14=>?_)
  refine zw.assign ?_
  refine zw.st ?_
  refine WL.nil ?_
  refine WK.un ?_
  refine WC.seq ?_
  refine WC.draw mixed ?_
  refine WA.vv 0 rfl (Gv.loadN rfl .here rfl rfl) ?_
  refine WA.oo 1 rfl (OW.callR rfl (Hf:=[]) (List.Perm.refl _) (value_fnQ G u) rfl (by rintro e G' H' ⟨h,_⟩;exact⟨_,h⟩) fun v' G' H' h hg=>?_)
  obtain⟨he,rfl,rfl⟩:=h
  cases he
  cases hok:vOK u with
  | false=>
   refine za.not 2 ?_
   refine za.move 3 ?_
   refine za.skip 4 ?_
   refine za.skip 5 ?_
   refine za.skip 6 ?_
   refine za.skip 7 ?_
   refine za.skip 8 ?_
   refine za.skip 9 ?_
   refine za.skip 10 ?_
   refine za.skip 11 ?_
   refine za.pick 12 ?_
   refine WA.done kr ?_
   refine WK.un ?_
   refine WC.cond_true rfl ?_
   refine WC.seq ?_
   refine WC.region ?_
   refine zw.assign ?_
   refine zw.assign ?_
   refine WL.nil ?_
   refine WK.un ?_
   rw[hbad (fun h=>by rw[hok]at h;exact absurd h.1 (by decide))]
   refine WC.rt ?_
   exact QF.p2 (.inl rfl) rfl (.tmp rfl) (.tmp rfl) (⟨rfl,rfl,rfl⟩)
  | true=>
  refine za.not 2 ?_
  refine za.move 3 ?_
  refine za.fa 4 ?_
  refine za.ld 5 ?_
  refine za.fa 6 ?_
  refine za.ld 7 ?_
  refine za.move 8 ?_
  refine za.ix 9 ?_
  refine WA.vv 10 rfl (Gv.loadG0 rfl hcsq rfl) ?_
  by_cases htt:u.t=t
  rotate_left
  ·
   refine WA.pp 11 rfl (Gp.neI' rfl rfl (show(u.t != t)=true by simpa using htt)) ?_
   refine za.pick 12 ?_
   refine WA.done kr ?_
   refine WK.un ?_
   refine WC.cond_true rfl ?_
   refine WC.seq ?_
   refine WC.region ?_
   refine zw.assign ?_
   refine zw.assign ?_
   refine WL.nil ?_
   refine WK.un ?_
   rw[hbad (fun h=>htt h.2)]
   refine WC.rt ?_
   exact QF.p2 (.inl rfl) rfl (.tmp rfl) (.tmp rfl) (⟨rfl,rfl,rfl⟩)
  refine WA.pp 11 rfl (Gp.neI' rfl rfl (show(u.t != t)=false by simpa using htt)) ?_
  refine za.pick 12 ?_
  refine WA.done kr ?_
  refine WK.un ?_
  refine WC.cond_false rfl ?_
  refine WC.skip ?_
  refine WK.un ?_
  refine WC.region ?_
  refine zw.add ?_
  refine zw.move ?_
  refine WL.nil ?_
  refine WK.un ?_
  exact WK.again (j+1) (by omega) ⟨by omega,fun k u' t' hk hu' ht'=>by
   rcases Nat.lt_or_ge k j with h | h
   ·exact hall k u' t' h hu' ht'
   ·obtain rfl:k=j:=by omega
    rw[hu]at hu';rw[ht]at ht';cases hu';cases ht';exact⟨hok,htt⟩⟩ (by refine⟨?_,rfl,rfl,rfl,rfl,rfl,rfl,trivial⟩;show some _=some _;rw[wrap_small (by omega) (by omega)];rfl) rfl (by exact .cons _ (List.Sublist.refl _))
 ·-- no
  have hge:j=args.length:=by have h:=of_decide_eq_false hc13;omega
  have hty:tys args=q.params:=by
   apply List.ext_getElem?
   intro k
   rcases Nat.lt_or_ge k args.length with hk' | hk'
   ·obtain⟨u,hu⟩:∃u,args[k]? =some u:=⟨_,List.getElem?_eq_getElem hk'⟩
    obtain⟨t,ht⟩:∃t,q.params[k]? =some t:=⟨_,List.getElem?_eq_getElem (by omega)⟩
    rw[tys,List.getElem?_map,hu,ht,Option.map_some,(hall k u t (by omega) hu ht).2]
   ·rw[List.getElem?_eq_none (by simpa [tys]using hk'),List.getElem?_eq_none (by omega)]
  have hok:args.all vOK=true:=by
   rw[List.all_eq_true]
   intro u hu
   obtain⟨k,hk,rfl⟩:=List.getElem_of_mem hu
   obtain⟨t,ht⟩:∃t,q.params[k]? =some t:=⟨_,List.getElem?_eq_getElem (by omega)⟩
   exact(hall k _ t (by omega) (List.getElem?_eq_getElem hk) ht).1
  rw[hcR,if_pos (by rw[hok,hty];simp)]
  refine WC.exit ?_
  refine WK.un ?_
  refine WC.seq ?_
  refine WC.region ?_
  refine WL.vv (Gv.loadN rfl atA rfl rfl) ?_
  refine WL.oo (OW.callK rfl (own_fn G pg CA (some ⟨pb,po,none⟩) cc pc qv hC hP hB) rfl fun v' G' H' h hg=>?_)
  obtain⟨CA',PA',cc',pc',he,hg2,hC2,hP2,rfl⟩:=h
  cases he
  refine zw.build ?_
  refine WL.oo (OW.box rfl rfl fun b16=>?_)
  refine zw.assign ?_
  refine WL.nil ?_
  refine WK.un ?_
  refine WC.seq ?_
  refine WC.nothing ?_
  refine WC.nothing ?_
  refine WC.region ?_
  refine zw.move ?_
  refine zw.move ?_
  refine zw.move ?_
  refine WL.oo (OW.callK rfl (enter_fn G' b16 (.slice CA' pg.consts.length cc') (.slice none 0 0) PA' pg.procs.length pc' pg.procs none 0 0 V0 none 0 0 0 false [] (.spare 0 0 0) i q hq rfl hP2 ⟨by simp[ptrs], .inl ⟨rfl,rfl,rfl,rfl⟩⟩ (by simp) AA ac args Ha (hr.le hg2) (by omega) hs'.2) rfl fun v' G' H' h hg=>?_)
  obtain⟨FA',fcap',b',VA,x',y,he,rfl,rfl,hx',hy'⟩:=h
  cases he
  refine WL.nil ?_
  refine WK.un ?_
  refine WC.seq ?_
  refine WC.region ?_
  refine zw.move ?_
  refine zw.assign ?_
  refine zw.assign ?_
  refine WL.nil ?_
  refine WK.un ?_
  refine WC.ret ?_
  refine WK.un ?_
  refine WK.swap ?_
  exact QF.p2 (.inl rfl) rfl (.tmp rfl) (.tmp rfl) (⟨b16,CA',PA',cc',pc',[mcB b16 (.slice CA' pg.consts.length cc') (.slice PA' pg.procs.length pc') (.slice none 0 0) FA' 1 fcap' 0 V0 none 0 0 0 false, .spare 0 0 0,x',frB b' none 0 0 i 0 VA (padded args q.locals).length (padded args q.locals).length, .spare 0 0 0,y],rfl,hg2,hC2,hP2,⟨FA',fcap',none,0, .spare 0 0 0,x',[b'],[frB b' none 0 0 i 0 VA (padded args q.locals).length (padded args q.locals).length, .spare 0 0 0,y], .cons ⟨by simp[vflat], .inl ⟨rfl,rfl,rfl,rfl⟩⟩ hy' .nil,hx',⟨by simp[startS,vflat], .inl ⟨rfl,rfl,rfl,rfl⟩⟩,rfl⟩,rfl⟩) pkA
end
section
attribute [local irreducible] Tryz.prog
theorem WL.swap {P:Program} {Q:Exit→Act→World→Prop} {ops:Array Oper} {rest:List Oper} {cx:Cx} {L:List (Nat×Value)} {G:Gh} {H F:List Own} (h:WL P ops Q rest cx L G (F++H)):WL P ops Q rest cx L G (H++F):=fun a w st=>h a w (st.perm List.perm_append_comm)
theorem VVec.none_zero {A:Option Addr} {cap:Nat} {l:List V} {x:Own} (h:VVec A cap l x) (hA:A=none):l.length=0:=by
 rcases h with⟨_,⟨_,h,_⟩ | ⟨b,c,h,_⟩⟩
 ·exact h
 ·rw[h]at hA;cases hA
section
variable (G:Gh) (CA PA:Option Addr) (cc pc cn pn:Nat) (c3:Value) (mb:Nat)
theorem Outcome_fn (s:Mc) (H:List Own) (hR:MRep CA PA cc pc cn pn c3 mb s H) (hm:madeB s=true) (hb:s.out.length*40≤140737488355328):
  Fn Tryz.prog 95 #[.pointer (some ⟨mb,0,none⟩)] G H fun e G' H'=>∃A' cap' x',e= .returned (.agg #[.int .i64 s.en, .int .i64 s.val.t, .int .i64 s.val.i, .bool s.val.b, .string s.val.s, .slice A' s.out.length cap', .int .i64 s.steps])∧G=G'∧VVec A' cap' s.out x'∧H'=x'::H:=by
 have hR0:=hR
 obtain⟨FA,fcap,OA,ocap,ox,fx,bs,Hf,hF,hfv,ho,rfl⟩:=hR
 refine Fn.enter Tryz.func95 rfl rfl fun w0=>?_
 refine WC.seq ?_
 refine WC.region ?_
 refine WL.oo (OW.alloc rfl fun b3=>?_)
 refine WL.nil ?_
 refine WK.un ?_
 refine WC.seq ?_
 refine WC.seq ?_
 refine WC.region ?_
 refine zw.move ?_
 refine WL.oo (OW.callR rfl (perm_at .here |>.trans (List.perm_append_comm (l₁:=[_]))) (made_fn G CA PA cc pc cn pn c3 mb s _ hR0) rfl (by intro e G' H' h;repeat (first | exact⟨_,h.1⟩ | (obtain⟨_,h⟩:=h))) fun v' G' H' h hg=>?_)
 obtain⟨he,rfl,rfl⟩:=h
 cases he
 refine WL.swap ?_
 rw[hm]
 refine zw.not ?_
 refine WL.nil ?_
 refine WK.un ?_
 refine WC.cond_false rfl ?_
 refine WC.skip ?_
 refine WK.un ?_
 refine WC.seq ?_
 refine WC.region ?_
 refine zw.move ?_
 refine zw.nil ?_
 refine zw.fa ?_
 refine WL.vv (Gv.loadN rfl atA rfl rfl) ?_
 refine WL.oo (OW.alloc rfl fun b5=>?_)
 refine zw.st ?_
 refine WL.nil ?_
 refine WK.un ?_
 refine WC.seq ?_
 refine WC.region ?_
 refine zw.fa ?_
 refine zw.ld ?_
 refine WL.oo (OW.callK rfl (clone_vals G [ox] OA s.out.length ocap (vflat s.out) (ho.rds .here) (vflat_length _) (vflat_one _) ho.none_zero hb) rfl fun v' G' H' h hg=>?_)
 obtain⟨A',cap',x',he,rfl,rfl,hx'⟩:=h
 cases he
 refine zw.fa ?_
 refine zw.st ?_
 refine WL.nil ?_
 refine WK.un ?_
 refine WC.seq ?_
 refine WC.region ?_
 refine zw.ld ?_
 refine zw.st ?_
 refine WL.nil ?_
 refine WK.un ?_
 refine WC.rt ?_
 exact QF.p1 (.inl rfl) rfl (.cell rfl inferInstance inferInstance atA rfl rfl) (⟨A',cap',x',rfl,rfl,hx',rfl⟩)
end
end
section
attribute [local irreducible] Tryz.prog
structure Oc where
 en:Int
 val:V
 out:List V
 steps:Int
def Oc0:Oc:=⟨0,V0,[],0⟩
def ocV (o:Oc) (A:Option Addr) (cap:Nat):Value:= .agg #[.int .i64 o.en, .int .i64 o.val.t, .int .i64 o.val.i, .bool o.val.b, .string o.val.s, .slice A o.out.length cap, .int .i64 o.steps]
def Mc.oc (s:Mc):Oc:=⟨s.en,s.val,s.out,s.steps⟩
def runR (pg:Pg) (n fuel:Int) (args:List V):Oc:=match startR pg n args with
 | none=>Oc0
 | some q=>let s:=(runM pg fuel.toNat (startS q n args)).2
  if s.ended then s.oc else { s.oc with en:=5 }
theorem PgB.codeB {pg:Pg} (h:PgB pg):∀pr∈pg.procs,pr.code.length≤90000000000000∧OpS pr.code:=fun pr hp=>⟨by have:=h.code pr hp;omega,h.ops pr hp⟩
theorem startR_some {pg:Pg} {n:Int} {args:List V} {q:Pr} (h:startR pg n args=some q):0≤n∧pg.procs[n.toNat]? =some q∧sizedP q=true∧args.length=q.params.length∧AllOK args:=by
 unfold startR at h
 split at h
 ·cases h
 ·rename_i hn
  split at h
  ·cases h
  ·rename_i q' hq
   split at h
   ·cases h
   ·rename_i hs
    split at h
    ·cases h
    ·rename_i hl
     split at h
     ·rename_i ha
      cases h
      rw[Bool.and_eq_true,List.all_eq_true]at ha
      exact⟨by omega,hq,by simpa using hs,Classical.not_not.1 hl,ha.1⟩
     ·cases h
theorem startS_inv {pg:Pg} {n:Int} {args:List V} {q:Pr} (h:startR pg n args=some q):Inv pg (startS q n args)∧Live (startS q n args):=by
 obtain⟨h1,h2,h3,h4,h5⟩:=startR_some h
 have hsz:(q.params.length:Int)≤q.locals∧q.locals≤64:=by unfold sizedP at h3;simpa using h3
 have hpl:(padded args q.locals).length≤64:=by rw[padded_length (by omega)];omega
 refine⟨⟨fun f hf=>?_,by simp[startS],fun f hf=>?_,trivial,by simp[startS],fun v hv=>by simp[startS]at hv⟩,fun _ h=>by cases h⟩
 ·simp only[startS,List.mem_singleton]at hf
  subst hf
  exact⟨q,h2,by simp⟩
 ·simp only[startS,List.mem_singleton]at hf
  subst hf
  refine⟨by simp,hpl,fun v hv=>by simp at hv,fun v hv=>?_⟩
  rcases List.mem_append.1 hv with hv | hv
  ·exact .inl (h5 v hv)
  ·exact .inr (List.eq_of_mem_replicate hv)
theorem Inv.run {pg:Pg} :∀(n:Nat) (s:Mc),Inv pg s→Live s→Inv pg (runM pg n s).2∧Live (runM pg n s).2
 | 0,s,h,hl=>⟨h,hl⟩
 | n+1,s,h,hl=>by
  unfold runM
  split
  ·exact⟨h,hl⟩
  ·exact Inv.run n _ h.step hl.step
theorem Live.made {s:Mc} (h:Live s):madeB s=true:=by
 unfold madeB
 cases he:s.ended with
 | true=>simp
 | false=>have:=h he;simp[List.length_pos_iff,this]
theorem Run_fn (G:Gh) (pg:Pg) (CA PA:Option Addr) (cc pc:Nat) (qv:Value) (hC:Sl Kd.val G CA pg.consts) (hP:Sl Kd.prc G PA pg.procs) (hB:PgB pg) (n fuel:Int) (hfu:fuel≤1000000) (AA:Option Addr) (ac:Nat) (args:List V) (Ha:List Own) (hr:Rds G Ha AA (vflat args)) (hal:args.length*40≤140737488355328):
  Fn Tryz.prog 44 #[.agg #[.slice CA pg.consts.length cc, .slice PA pg.procs.length pc,qv], .int .i64 n, .int .i64 fuel, .slice AA args.length ac] G Ha
   fun e G' H'=>∃A' cap' x',e= .returned (ocV (runR pg n fuel args) A' cap')∧G.le G'∧VVec A' cap' (runR pg n fuel args).out x'∧H'=x'::Ha:=by
 refine Fn.enter Tryz.func44 rfl rfl fun w0=>?_
 refine WC.seq ?_
 refine WC.region ?_
 refine WL.oo (OW.box rfl rfl fun b17=>?_)
 refine WL.oo (OW.alloc rfl fun b18=>?_)
 refine WL.nil ?_
 refine WK.un ?_
 refine WC.seq ?_
 refine WC.region ?_
 refine WL.vv (Gv.loadN rfl atA rfl rfl) ?_
 refine zw.move ?_
 refine zw.move ?_
 cases hs:startR pg n args with
 | none=>
  refine WL.oo (OW.callR rfl (Pk.perm pkA) ((Start_fn G pg CA PA cc pc qv hC hP hB n AA ac args Ha hr hal).mono fun e G' H' h=>(by rw[hs]at h;exact h)) rfl (by intro e G' H' h;repeat (first | exact⟨_,h.1⟩ | (obtain⟨_,h⟩:=h))) fun v' G' H' h hg=>?_)
  obtain⟨he,rfl,rfl⟩:=h
  cases he
  refine WL.swap ?_
  refine zw.move ?_
  refine zw.ext ?_
  refine zw.ext ?_
  refine zw.assign ?_
  refine zw.assign ?_
  refine WL.nil ?_
  refine WK.un ?_
  refine WC.seq ?_
  refine WC.seq ?_
  refine WC.region ?_
  refine zw.move ?_
  refine zw.ne ?_
  refine WL.nil ?_
  refine WK.un ?_
  refine WC.cond_true rfl ?_
  refine WC.seq ?_
  refine WC.region ?_
  refine zw.build ?_
  refine zw.st ?_
  refine WL.nil ?_
  refine WK.un ?_
  refine WC.nothing ?_
  rw[show runR pg n fuel args=Oc0 by rw[runR,hs]]
  refine WC.rt ?_
  exact QF.p1 (.inl rfl) rfl (.cell rfl inferInstance inferInstance atA rfl rfl) (⟨none,0, .spare 0 0 0,rfl,Gh.le_refl _,⟨by simp[vflat,Oc0], .inl ⟨rfl,rfl,rfl,rfl⟩⟩,rfl⟩)
 | some q=>
  obtain⟨hI,hL⟩:=startS_inv hs
  have hIr:=Inv.run fuel.toNat _ hI hL
  refine WL.oo (OW.callR rfl (Pk.perm pkA) ((Start_fn G pg CA PA cc pc qv hC hP hB n AA ac args Ha hr hal).mono fun e G' H' h=>(by rw[hs]at h;exact h)) rfl (by rintro e G' H' ⟨_,_,_,_,_,_,h,_⟩;exact⟨_,h⟩) fun v' G' H' h hg=>?_)
  obtain⟨mb,CA',PA',cc',pc',H1,he,hg1,hC1,hP1,hR,rfl⟩:=h
  cases he
  refine WL.swap ?_
  refine zw.move ?_
  refine zw.ext ?_
  refine zw.ext ?_
  refine zw.assign ?_
  refine zw.assign ?_
  refine WL.nil ?_
  refine WK.un ?_
  refine WC.seq ?_
  refine WC.seq ?_
  refine WC.region ?_
  refine zw.move ?_
  refine zw.ne ?_
  refine WL.nil ?_
  refine WK.un ?_
  refine WC.cond_false rfl ?_
  refine WC.skip ?_
  refine WK.un ?_
  refine WC.seq ?_
  refine WC.region ?_
  refine zw.move ?_
  refine zw.move ?_
  refine WL.oo (OW.callK rfl (Step_fn G' pg CA' PA' cc' pc' hC1 hP1 hB.codeB mb (.slice none 0 0) (startS q n args) H1 hR hI hL fuel hfu (by simp[startS])) rfl fun v' G' H' h hg=>?_)
  obtain⟨he,rfl,hR2⟩:=h
  cases he
  refine WL.swap ?_
  refine WL.nil ?_
  refine WK.un ?_
  obtain⟨t,ht⟩:∃t,t=(runM pg fuel.toNat (startS q n args)).2:=⟨_,rfl⟩
  rw[←ht]at hIr hR2
  have hrun:runR pg n fuel args=if t.ended then t.oc else { t.oc with en:=5 } :=by rw[runR,hs,ht]
  have hout:(runR pg n fuel args).out=t.out:=by rw[hrun];split<;>rfl
  rw[hrun]
  obtain⟨FA,fcap,OA,ocap,ox,fx,bs,Hf,hF,hfv,ho,rfl⟩:=id hR2
  refine WC.seq ?_
  refine WC.region ?_
  refine zw.move ?_
  refine WL.oo (OW.callK rfl (Outcome_fn G' CA' PA' cc' pc' pg.consts.length pg.procs.length (.slice none 0 0) mb _ _ hR2 hIr.2.made (by have:=hIr.1.out.1;omega)) rfl fun v' G' H' h hg=>?_)
  obtain⟨A',cap',x',he,rfl,hx',rfl⟩:=h
  cases he
  refine WL.oo (OW.alloc rfl fun b20=>?_)
  refine zw.st ?_
  refine WL.nil ?_
  refine WK.un ?_
  refine WC.front (H':=[.blk b20 (.cells #[.int .i64 t.en, .int .i64 t.val.t, .int .i64 t.val.i, .bool t.val.b, .string t.val.s, .slice A' t.out.length cap', .int .i64 t.steps] 65 (0,0)), .blk b18 (.cells #[.int .i64 0, .int .i64 0, .int .i64 0, .bool false, .string ⟨#[]⟩, .slice none 0 0, .int .i64 0] 65 (0,0)),mcB mb (.slice CA' pg.consts.length cc') (.slice PA' pg.procs.length pc') (.slice none 0 0) FA bs.reverse.length fcap t.en t.val OA t.out.length ocap t.steps t.ended,x']) pkA ?_
  refine WC.seq ?_
  refine WC.seq ?_
  refine WC.region ?_
  refine zw.move ?_
  refine zw.nil ?_
  refine zw.fa ?_
  refine zw.ld ?_
  cases hen:t.ended with
  | true=>
   refine zw.not ?_
   refine WL.nil ?_
   refine WK.un ?_
   refine WC.cond_false rfl ?_
   refine WC.skip ?_
   refine WK.un ?_
   refine WC.seq ?_
   refine WC.region ?_
   refine WL.vv (Gv.loadN rfl atA rfl rfl) ?_
   refine zw.st ?_
   refine WL.nil ?_
   refine WK.un ?_
   refine WC.rt ?_
   exact QF.p1 (.inl rfl) rfl (.cell rfl inferInstance inferInstance atA rfl rfl) (⟨A',cap',x',rfl,hg1,hx',rfl⟩)
  | false=>
   refine zw.not ?_
   refine WL.nil ?_
   refine WK.un ?_
   refine WC.cond_true rfl ?_
   refine WC.region ?_
   refine zw.fa ?_
   refine zw.st ?_
   refine WL.nil ?_
   refine WK.un ?_
   refine WC.seq ?_
   refine WC.region ?_
   refine WL.vv (Gv.loadN rfl atA rfl rfl) ?_
   refine zw.st ?_
   refine WL.nil ?_
   refine WK.un ?_
   refine WC.rt ?_
   exact QF.p1 (.inl rfl) rfl (.cell rfl inferInstance inferInstance atA rfl rfl) (⟨A',cap',x',rfl,hg1,hx',rfl⟩)
end
section
structure Good (l:List Ob):Prop where
 hv:∀o∈l,(objAns o).2.2=0
 hp:(l.map (·.path)).Nodup
 hm:missL l=[]
def pgL (l:List Ob):Pg:=⟨l.flatMap (·.consts),joinP (allPr l) l 0 0⟩
def relN (l l':List Ob) (n n':Nat):Prop:=∃(k j:Nat) (o:Ob) (p:Pr) (k':Nat),l[k]? =some o∧o.procs[j]? =some p∧l'[k']? =some o∧n=sumP (l.take k)+j∧n'=sumP (l'.take k')+j
def relDR (l l':List Ob):DR→DR→Prop
 | .call q r a n, .call q' r' a' n'=>q.locals=q'.locals∧r=r'∧a=a'∧relN l l' n.toNat n'.toNat
 | d,d'=>d=d'
def relF (l l':List Ob) (f f':Fr):Prop:=f.pc=f'.pc∧f.stack=f'.stack∧f.vars=f'.vars∧relN l l' f.proc f'.proc
inductive relFs (l l':List Ob):List Fr→List Fr→Prop where
 | nil:relFs l l' [] []
 | cons {f f':Fr} {fs fs':List Fr} (h:relF l l' f f') (t:relFs l l' fs fs'):relFs l l' (f::fs) (f'::fs')
structure relM (l l':List Ob) (s s':Mc):Prop where
 frames:relFs l l' s.frames s'.frames
 out:s.out=s'.out
 steps:s.steps=s'.steps
 en:s.en=s'.en
 val:s.val=s'.val
 ended:s.ended=s'.ended
section
variable {l l':List Ob} (g:Good l) (g':Good l') (inc:∀o∈l,o∈l')
include g g' inc
end
end
section
open Go.MapKept
def p2L:Pr:=⟨⟨#[109,97,105,110]⟩,true,[],0,1,[(7,0),(10,0)]⟩
theorem miss_12:missL [o1,o2]=[]:=by decide+kernel
theorem miss_2:missL [o2]=[n2]:=by kernel_rfl
theorem join_12:joinP (allPr [o1,o2]) [o1,o2] 0 0=[p1,p2L]:=by kernel_rfl
theorem pts_12:(joinT' [o1,o2] 0).length=2:=by decide+kernel
theorem link_12:linkE [o1,o2]=0:=by
 unfold linkE
 have h1:errL [o1,o2]=0:=errL_zero.2 fun o ho=>by
  rcases List.mem_cons.1 ho with rfl | ho
  ·rw[ans_1]
  ·obtain rfl:=List.mem_singleton.1 ho
   rw[ans_2]
 rw[h1,if_neg (by decide),if_neg (by decide+kernel),miss_12,if_neg (by simp),if_neg (by decide+kernel)]
theorem link_2:linkE [o2]=221:=by
 unfold linkE
 have h1:errL [o2]=0:=errL_zero.2 fun o ho=>by
  obtain rfl:=List.mem_singleton.1 ho
  rw[ans_2]
 rw[h1,if_neg (by decide),if_neg (by decide+kernel),miss_2,if_pos (by simp)]
theorem run_12:(runR ⟨[⟨1,7,false,⟨#[]⟩⟩],[p1,p2L]⟩ 1 9 []).val.i=7:=by kernel_rfl
theorem lim_1:OLim o1:=⟨by decide,by decide,by decide,by decide,fun q h=>(by cases h),fun q h=>by obtain rfl:=List.mem_singleton.1 h;decide⟩
theorem lim_2:OLim o2:=⟨by decide,by decide,by decide,by decide,fun q h=>by(obtain rfl:=List.mem_singleton.1 h;decide),fun q h=>by obtain rfl:=List.mem_singleton.1 h;decide⟩
theorem llim_2:LLim [o2] where
 len:=by decide
 sumP:=by decide
 sumN:=by decide
 sumC:=by decide
 lim o ho:=by obtain rfl:=List.mem_singleton.1 ho;exact lim_2
 pp o ho p hp:=by obtain rfl:=List.mem_singleton.1 ho;obtain rfl:=List.mem_singleton.1 hp;decide
 np o ho p hp:=by obtain rfl:=List.mem_singleton.1 ho;obtain rfl:=List.mem_singleton.1 hp;decide
theorem llim_12:LLim [o1,o2] where
 len:=by decide
 sumP:=by decide
 sumN:=by decide
 sumC:=by decide
 lim o ho:=by
  rcases List.mem_cons.1 ho with rfl | ho
  ·exact lim_1
  ·obtain rfl:=List.mem_singleton.1 ho;exact lim_2
 pp o ho p hp:=by
  rcases List.mem_cons.1 ho with rfl | ho
  ·obtain rfl:=List.mem_singleton.1 hp;decide
  ·exact llim_2.pp o ho p hp
 np o ho p hp:=by
  rcases List.mem_cons.1 ho with rfl | ho
  ·cases hp
  ·exact llim_2.np o ho p hp
theorem uintL_pos (n:Nat):1≤(uintL n).length:=by
 rw[uintL];split<;>simp
theorem bytes_1:bytesO o1=objI o1:=by rw[bytesO,ans_1];rfl
theorem objI_1:3<(objI o1).length∧(objI o1).length≤1000:=by
 have h10:∀n:Nat,n<18446744073709551616→(uintL n).length≤10:=fun n h=>uintL_len10 h
 have hc:∀l:List Int,l=(bytesR p1.code).1→l.length≤100:=fun l e=>by
  subst e
  unfold bytesR
  split
  ·unfold encP
   rw[List.length_append]
   have:=h10 p1.code.length (by decide)
   have h2:=flat_le (l:=p1.code) (k:=p1.code.length) fun j i hj hi=>by
    have:∀i∈p1.code,mayI i=true:=by decide+kernel
    exact this i (List.mem_of_getElem? hi)
   have h3:p1.code.length=2:=rfl
   omega
  ·simp
 have hcc:=hc _ rfl
 have hu:=uI_len
 have hz:=h10 (zzN 7) (by decide)
 have h1:=uintL_pos o1.path.size
 have h2:=h10 o1.path.size (by decide)
 have h3:=h10 p1.name.size (by decide)
 have a1:=hu o1.consts.length
 have a2:=hu o1.needs.length
 have a3:=hu o1.procs.length
 have a4:=hu p1.params.length
 have a5:=hu p1.locals
 have e1:(objI o1).length=3+((uintL o1.path.size).length+1)+((uI o1.consts.length).length+(1+(uintL (zzN 7)).length))+(uI o1.needs.length).length+((uI o1.procs.length).length+((uintL p1.name.size).length+1+(uI p1.params.length).length+0+1+1+(uI p1.locals).length+(bytesR p1.code).1.length)):=by
  have v1:o1.consts.flatMap valI=kindI 1++uintL (zzN 7):=by simp[o1,valI]
  have v2:o1.procs.flatMap procI=procI p1:=by simp[o1]
  have v3:p1.params=[]:=rfl
  simp only[objI,valsI,procsI,v1,v2,procI,headI,txtI,List.length_append,strI_length]
  simp only[v3]
  rfl
 omega
end
section
open Go.MapKept
attribute [local irreducible] Tryz.prog joinP joinT' allPr objI bytesO runR linkE
section
variable {L:List (Nat×Value)} {d:Option Tmp} {ty:TypeId} {pos:String} {af:Array Edge} {gu:Option (Nat×Bool)}
theorem Gp.ocVal {x:Operand} {o:Oc} {A:Option Addr} {c:Nat} (hx:ev L x=some (ocV o A c)):Gp Tryz.prog L ⟨d, .field 65 x 1,ty,pos,af,gu⟩ (.agg #[.int .i64 o.val.t, .int .i64 o.val.i, .bool o.val.b, .string o.val.s]):=fun a st w=>by
 have a0:=fun w=>(inferInstance:Agg Tryz.prog 52 true).h w
 have i0:=fun w=>(inferInstance:Inf Tryz.prog 3 1 8 (.int .i64 0)).sizeOf (w:=w)
 have i1:=fun w=>(inferInstance:Inf Tryz.prog 52 4 _ _).sizeOf (w:=w)
 simp[execOp,st.eval hx,ocV,Instr.field,part,asAgg,run_underlying Tryz.underlying65,a0,i0,i1,Result.andThen]
theorem Gp.valI {x:Operand} {v:V} (hx:ev L x=some (.agg #[.int .i64 v.t, .int .i64 v.i, .bool v.b, .string v.s])):Gp Tryz.prog L ⟨d, .field 52 x 1,ty,pos,af,gu⟩ (.int .i64 v.i):=fun a st w=>by
 have a0:=fun w=>(inferInstance:Agg Tryz.prog 2 false).h w
 simp[execOp,st.eval hx,Instr.field,part,asAgg,run_underlying Tryz.underlying52,a0,Result.andThen]
end
theorem Run_12 (G:Gh) (CA PA:Option Addr) (cc pc:Nat) (qv:Value) (hC:Sl Kd.val G CA (pgL [o1,o2]).consts) (hP:Sl Kd.prc G PA [p1,p2L]):
  Fn Tryz.prog 44 #[.agg #[.slice CA 1 cc, .slice PA 2 pc,qv], .int .i64 1, .int .i64 9, .slice none 0 0] G []
   fun e G' H'=>∃o A' cap' x',o.val.i=7∧e= .returned (ocV o A' cap')∧G.le G'∧VVec A' cap' o.out x'∧H'=[x']:=by
 have hB:PgB ⟨[⟨1,7,false,⟨#[]⟩⟩],[p1,p2L]⟩:=⟨by decide,by decide,by decide,by decide,by unfold OpS;decide⟩
 refine Fn.mono (Run_fn G ⟨[⟨1,7,false,⟨#[]⟩⟩],[p1,p2L]⟩ CA PA cc pc qv hC hP hB 1 9 (by decide) none 0 [] [] (Rds.nil _ _ _) (by simp)) fun e G' H' h=>?_
 obtain⟨A',cap',x',h1,h2,h3,h4⟩:=h
 exact⟨_,A',cap',x',run_12,h1,h2,h3,h4⟩
theorem link12_fn (G:Gh) (hE:Env G) (A:Option Addr) (cap:Nat) (hS:Sl Kd.ob G A [o1,o2]):
  Fn Tryz.prog 12 #[.slice A 2 cap] G [] fun e G' H'=>∃LA lc MA mc QA qc y1 y2 y3,e= .returned (.tuple #[.agg #[.slice LA 1 lc, .slice MA 2 mc, .slice QA 2 qc], .int .i64 0])∧G.le G'∧
   KVec Kd.val 52 G' LA lc (pgL [o1,o2]).consts y1∧KVec Kd.prc 47 G' MA mc [p1,p2L] y2∧H'=[y1,y2,y3]:=by
 refine Fn.mono (Link_fn G hE A cap [o1,o2] hS llim_12) fun e G' H' h=>?_
 obtain⟨hg,⟨hne,_⟩ | ⟨_,LA,lc,MA,mc,QA,qc,y1,y2,y3,he,hk1,hk2,hk3,rfl⟩⟩:=h
 ·exact absurd link_12 hne
 rw[join_12]at he hk2
 rw[pts_12]at he
 exact⟨LA,lc,MA,mc,QA,qc,y1,y2,y3,he,hg,hk1,hk2,rfl⟩
theorem link2_fn (G:Gh) (hE:Env G) (A:Option Addr) (cap:Nat) (hS:Sl Kd.ob G A [o2]):
  Fn Tryz.prog 12 #[.slice A 1 cap] G [] fun e G' H'=>e= .returned (.tuple #[.agg #[.slice none 0 0, .slice none 0 0, .slice none 0 0], .int .i64 221])∧G.le G'∧H'=[]:=by
 refine Fn.mono (Link_fn G hE A cap [o2] hS llim_2) fun e G' H' h=>?_
 obtain⟨hg,⟨_,he,rfl⟩ | ⟨hz,_⟩⟩:=h
 ·rw[link_2]at he
  exact⟨he,hg,rfl⟩
 ·rw[link_2]at hz;exact absurd hz (by decide)
theorem bytes1_fn (G:Gh) (hE:Env G) (CA PA:Option Addr) (cc nc pc:Nat) (hO:ORep G o1 CA none PA):
  Fn Tryz.prog 27 #[.agg (obC o1 CA none PA cc nc pc)] G [] fun e G' H'=>∃A' n cap' x',(3<n∧n≤1000)∧e= .returned (.tuple #[.slice A' n cap', .int .i64 0])∧G.le G'∧H'=[x']:=by
 refine Fn.mono (objBytes_fn G hE o1 CA none PA cc nc pc hO lim_1 (fun v hv=>by obtain rfl:=List.mem_singleton.1 hv;decide) (by decide) (by decide) (by decide) (fun p hp=>by obtain rfl:=List.mem_singleton.1 hp;decide) (by have:=objI_1.2;omega)) fun e G' H' h=>?_
 obtain⟨A',cap',x',he,hg,_,rfl⟩:=h
 rw[ans_1,bytes_1]at he
 exact⟨A',_,cap',x',objI_1,he,hg,rfl⟩
set_option maxRecDepth 20000 in
set_option maxHeartbeats 4000000 in
theorem awakeL (G:Gh) (hE:Env G):Fn Tryz.prog 15 #[] G [] fun e G' H'=>e= .returned (.bool true)∧G.le G'∧H'=[]:=by
 refine Fn.enter Tryz.func15 rfl rfl fun w0=>?_
 refine gom ?_
 refine WL.oo (OW.callK rfl (lawOne_fn G) rfl fun v' G' H' h hg=>?_)
 obtain⟨CA,PA,he,hg1,hO1,rfl⟩:=h
 cases he
 obtain⟨G1,rfl⟩:∃G1,G1=G':=⟨_,rfl⟩
 refine WL.oo (OW.callK rfl (lawTwo_fn G1) rfl fun v' G' H' h hg=>?_)
 obtain⟨NA,PB,he,hg2,hO2,rfl⟩:=h
 cases he
 obtain⟨G2,rfl⟩:∃G2,G2=G':=⟨_,rfl⟩
 refine WL.op kr (OW.buildSlice rfl kr kr (by rfl) rfl fun b10=>?_)
 refine WL.freezeC (cs:=[.string o1.path, .slice CA 1 1, .slice none 0 0, .slice PA 1 1]++[.string o2.path, .slice none 0 0, .slice NA 1 1, .slice PB 1 1]) .here rfl fun G3 hg3 h3=>?_
 have hS:Sl Kd.ob G3 (some ⟨b10,0,none⟩) [o1,o2]:=KFl.sl (k:=Kd.ob) (l:=[o1]++[o2]) (by decide)
  ((KFl.one (k:=Kd.ob) (x:=o1) ⟨CA,1,none,0,PA,1,rfl,hO1.mono (Gh.le_trans hg2 hg3)⟩).append (KFl.one (k:=Kd.ob) (x:=o2) ⟨none,0,NA,1,PB,1,rfl,hO2.mono hg3⟩)) (.inr ⟨b10,rfl,h3⟩)
 have hg13:=Gh.le_trans hg1 (Gh.le_trans hg2 hg3)
 refine WL.oo (OW.callK rfl (link12_fn G3 (hE.mono hg13) (some ⟨b10,0,none⟩) 2 hS) rfl fun v' G' H' h hg=>?_)
 obtain⟨G4,rfl⟩:∃G4,G4=G':=⟨_,rfl⟩
 obtain⟨LA,lc,MA,mc,QA,qc,y1,y2,y3,he,hg4,hk1,hk2,rfl⟩:=h
 cases he
 refine WL.freezeK (by decide) hk1 .here fun G5 hg5 hC=>?_
 refine WL.freezeK (by decide) (hk2.mono hg5) .here fun G6 hg6 hP=>?_
 have hC6:=hC.mono hg6
 have hg16:=Gh.le_trans hg13 (Gh.le_trans hg4 (Gh.le_trans hg5 hg6))
 refine gom ?_
 refine WL.oo (OW.alloc rfl fun b1=>?_)
 refine gom ?_
 refine WL.oo (OW.callK rfl (lawTwo_fn G6) rfl fun v' G' H' h hg=>?_)
 obtain⟨ND,PD,he,hg7,hO3,rfl⟩:=h
 cases he
 obtain⟨G7,rfl⟩:∃G7,G7=G':=⟨_,rfl⟩
 refine WL.op kr (OW.buildSlice rfl kr kr (by rfl) rfl fun b16=>?_)
 refine WL.freezeC (cs:=[.string o2.path, .slice none 0 0, .slice ND 1 1, .slice PD 1 1]) .here rfl fun G8 hg8 h8=>?_
 have hS2:Sl Kd.ob G8 (some ⟨b16,0,none⟩) [o2]:=KFl.sl (k:=Kd.ob) (l:=[o2]) (by decide) (KFl.one (k:=Kd.ob) (x:=o2) ⟨none,0,ND,1,PD,1,rfl,hO3.mono hg8⟩) (.inr ⟨b16,rfl,h8⟩)
 have hg18:=Gh.le_trans hg16 (Gh.le_trans hg7 hg8)
 refine WL.oo (OW.callK rfl (link2_fn G8 (hE.mono hg18) (some ⟨b16,0,none⟩) 1 hS2) rfl fun v' G' H' h hg=>?_)
 obtain⟨he,hg9,rfl⟩:=h
 cases he
 obtain⟨G9,rfl⟩:∃G9,G9=G':=⟨_,rfl⟩
 have hg19:=Gh.le_trans hg18 hg9
 refine gom ?_
 refine WL.oo (OW.alloc rfl fun b3=>?_)
 refine gom ?_
 refine WL.oo (OW.callK rfl (lawOne_fn _) rfl fun v' G' H' h hg=>?_)
 obtain⟨CE,PE,he,hg10,hO4,rfl⟩:=h
 cases he
 obtain⟨G10,rfl⟩:∃G10,G10=G':=⟨_,rfl⟩
 have hg20:=Gh.le_trans hg19 hg10
 refine WL.oo (OW.callK rfl (bytes1_fn _ (hE.mono hg20) CE PE 1 0 1 hO4) rfl fun v' G' H' h hg=>?_)
 obtain⟨BA,bn,bc,z1,hbn,he,hg11,rfl⟩:=h
 cases he
 obtain⟨G11,rfl⟩:∃G11,G11=G':=⟨_,rfl⟩
 have hg21:=Gh.le_trans hg20 hg11
 have hg611:G6.le G11:=Gh.le_trans hg7 (Gh.le_trans hg8 (Gh.le_trans hg9 (Gh.le_trans hg10 hg11)))
 have hC11:=hC6.mono hg611
 have hP11:=hP.mono hg611
 have hPP:=hP11
 obtain⟨mb,mo,pcs,rfl,hpk,hpc⟩:=hP11 1 p2L rfl
 obtain⟨PX,px,CX,cx',rfl,_,hcode⟩:=hpk
 obtain⟨ib,io,ics,rfl,hik,hic⟩:=hcode 0 (7,0) rfl
 obtain rfl:ics=[.int .i64 7, .int .i64 0]:=hik
 have e3:decide ((3:Int)<(bn:Int))=true:=decide_eq_true (by omega)
 have x0:(0:Int)≤1:=by decide
 have x1:(1:Int)<((2:Nat):Int):=by decide
 have x2:(0:Int)≤0:=by decide
 have x3:(0:Int)<((p2L.code.length:Nat):Int):=by decide
 refine gom ?_
 refine WL.pp (Gp.eqIns rfl rfl) ?_
 refine gom ?_
 refine WL.oo (OW.callK rfl (Run_12 G11 LA (some ⟨mb,mo,none⟩) lc mc _ hC11 hPP) rfl fun v' G' H' h hg=>?_)
 obtain⟨o,RA,rc,z2,ho,he,hg12,hv,rfl⟩:=h
 cases he
 refine gom ?_
 refine WL.pp (Gp.ocVal rfl) ?_
 refine WL.pp (Gp.valI rfl) ?_
 rw[ho]
 refine gom ?_
 refine WC.rt ?_
 exact QF.p1 (.inl rfl) rfl (.tmp rfl) (⟨rfl,Gh.le_trans hg21 hg12,rfl⟩)
end
section
open Go.MapKept
attribute [local irreducible] Tryz.prog
def ptR (l:List Pt) (a b:ByteArray):Int×Int:=match l.find? (fun p=>p.path==a&&p.name==b)with
 | some p=>(p.proc,0)
 | none=>(0,8)
section
variable (G:Gh) (A:Option Addr) (l:List Pt) (cap:Nat) (hl:Sl Kd.pnt G A l) (hn:l.length≤100000000000000) (a b:ByteArray)
include hl hn
end
end
section
theorem lists_dec (a b:ByteArray):(a.toList==b.toList)=decide (a=b):=by
 by_cases h:a=b
 ·subst h;simp
 ·rw[lists_ne h,decide_eq_false h]
section
variable {L:List (Nat×Value)} {d:Option Tmp} {ty:TypeId} {pos:String} {af:Array Edge} {gu:Option (Nat×Bool)}
theorem Gp.neVal {x y:Operand} {t':TypeId} {v u:V} (hx:ev L x=some (.agg #[.int .i64 v.t, .int .i64 v.i, .bool v.b, .string v.s])) (hy:ev L y=some (.agg #[.int .i64 u.t, .int .i64 u.i, .bool u.b, .string u.s])):
  Gp Tryz.prog L ⟨d, .binOp .neq 52 x y t',ty,pos,af,gu⟩ (.bool (!decide (v=u))):=fun g st w=>by
 have h1:Tryz.prog.eqGuardType Tryz.prog.depth 52=false:=by kernel_rfl
 have h2:Tryz.prog.underlying 52=some (.struct (Tryz.prog.fieldsOf 52)):=by kernel_rfl
 have h3:Tryz.prog.stoodInHeld 52=false:=by kernel_rfl
 have key:(Op.eqFields 9999 #[.int .i64 v.t, .int .i64 v.i, .bool v.b, .string v.s] #[.int .i64 u.t, .int .i64 u.i, .bool u.b, .string u.s] (Tryz.prog.fieldsOf 52).toList).run Tryz.prog w= .ok (decide (v=u)) w:=by
  obtain⟨a,b,c,s⟩:=v
  obtain⟨a',b',c',s'⟩:=u
  have a0:=fun w=>(inferInstance:Agg Tryz.prog 44 false).h w
  have a1:=fun w=>(inferInstance:Agg Tryz.prog 2 false).h w
  have a2:=fun w=>(inferInstance:Agg Tryz.prog 4 false).h w
  have a3:=fun w=>(inferInstance:Agg Tryz.prog 9 false).h w
  have u0:Tryz.prog.underlying 44=some (.int .i64):=Und.h
  have u1:Tryz.prog.underlying 2=some (.int .i64):=Und.h
  have u2:Tryz.prog.underlying 4=some .bool:=Und.h
  have u3:Tryz.prog.underlying 9=some .string:=Und.h
  simp only[Program.fieldsOf,Tryz.underlying52]
  simp only[Op.eqFields,part,Sem.run_bind,a0,a1,a2,a3,Result.andThen_ok,Sem.run_ite]
  simp[run_equalIn_int _ _ _ _ _ _ _ u0,run_equalIn_int _ _ _ _ _ _ _ u1,run_equalIn_bool _ _ _ _ _ u2,run_equalIn_string _ _ _ _ _ u3,lists_dec]
  by_cases q0:a=a'<;>by_cases q1:b=b'<;>by_cases q2:c=c'<;>by_cases q3:s=s'<;>simp[q0,q1,q2,q3]
 simp only[execOp,Sem.run_bind,st.eval hx,st.eval hy,run_eqGuard_agg w .neq _ x y _ _ h1,Result.andThen_ok,run_neq_struct,run_equalIn_agg w 9999 _ _ _ h2 h3,key]
 rfl
theorem Gp.nePnt {x y:Operand} {t':TypeId} {v u:Pt} (hx:ev L x=some (.agg #[.string v.path, .string v.name, .int .i64 v.proc])) (hy:ev L y=some (.agg #[.string u.path, .string u.name, .int .i64 u.proc])):
  Gp Tryz.prog L ⟨d, .binOp .neq 54 x y t',ty,pos,af,gu⟩ (.bool (!decide ((v.path,v.name,v.proc)=(u.path,u.name,u.proc)))):=fun g st w=>by
 have h1:Tryz.prog.eqGuardType Tryz.prog.depth 54=false:=by kernel_rfl
 have h2:Tryz.prog.underlying 54=some (.struct (Tryz.prog.fieldsOf 54)):=by kernel_rfl
 have h3:Tryz.prog.stoodInHeld 54=false:=by kernel_rfl
 have key:(Op.eqFields 9999 #[.string v.path, .string v.name, .int .i64 v.proc] #[.string u.path, .string u.name, .int .i64 u.proc] (Tryz.prog.fieldsOf 54).toList).run Tryz.prog w= .ok (decide ((v.path,v.name,v.proc)=(u.path,u.name,u.proc))) w:=by
  obtain⟨a,b,c⟩:=v
  obtain⟨a',b',c'⟩:=u
  have a0:=fun w=>(inferInstance:Agg Tryz.prog 9 false).h w
  have a2:=fun w=>(inferInstance:Agg Tryz.prog 3 false).h w
  have u0:Tryz.prog.underlying 9=some .string:=Und.h
  have u2:Tryz.prog.underlying 3=some (.int .i64):=Und.h
  simp only[Program.fieldsOf,Tryz.underlying54]
  simp only[Op.eqFields,part,Sem.run_bind,a0,a2,Result.andThen_ok,Sem.run_ite]
  simp[run_equalIn_string _ _ _ _ _ u0,run_equalIn_int _ _ _ _ _ _ _ u2,lists_dec]
  by_cases q0:a=a'<;>by_cases q1:b=b'<;>by_cases q2:c=c'<;>simp[q0,q1,q2]
 simp only[execOp,Sem.run_bind,st.eval hx,st.eval hy,run_eqGuard_agg w .neq _ x y _ _ h1,Result.andThen_ok,run_neq_struct,run_equalIn_agg w 9999 _ _ _ h2 h3,key]
 rfl
end
def eqL {α:Type} (f:α→α→Bool) (a b:List α):Bool:=decide (a.length=b.length)&&(List.range a.length).all fun i=>match a[i]?,b[i]? with
 | some x,some y=>f x y
 | _,_=>true
theorem eqL_len {α:Type} {f:α→α→Bool} {a b:List α} (h:a.length≠b.length):eqL f a b=false:=by unfold eqL;rw[decide_eq_false h];rfl
theorem eqL_false {α:Type} {f:α→α→Bool} {a b:List α} {i:Nat} {x y:α} (hx:a[i]? =some x) (hy:b[i]? =some y) (h:f x y=false):eqL f a b=false:=by
 cases hr:eqL f a b with
 | false=>rfl
 | true=>
  unfold eqL at hr
  rw[Bool.and_eq_true]at hr
  have:=List.all_eq_true.1 hr.2 i (by simpa using(List.getElem?_eq_some_iff.1 hx).1)
  rw[hx,hy]at this
  dsimp only at this
  rw[h]at this
  cases this
theorem eqL_true {α:Type} {f:α→α→Bool} {a b:List α} (hl:a.length=b.length) (h:∀(i:Nat) x y,i<a.length→a[i]? =some x→b[i]? =some y→f x y=true):eqL f a b=true:=by
 unfold eqL
 rw[decide_eq_true hl,Bool.true_and]
 refine List.all_eq_true.2 fun i hi=>?_
 cases hx:a[i]? with
 | none=>rfl
 | some x=>cases hy:b[i]? with
  | none=>rfl
  | some y=>exact h i x y (List.getElem?_eq_some_iff.1 hx).1 hx hy
theorem eqL_refl {α:Type} {f:α→α→Bool} (hf:∀x,f x x=true) (a:List α):eqL f a a=true:=eqL_true rfl fun i x y _ hx hy=>by rw[hx]at hy;cases hy;exact hf x
theorem eqL_dec {α:Type} [DecidableEq α] {f:α→α→Bool} (hf:∀x y,f x y=decide (x=y)) (a b:List α):eqL f a b=decide (a=b):=by
 by_cases h:a=b
 ·subst h;rw[eqL_refl fun x=>by rw[hf];simp];simp
 ·rw[decide_eq_false h]
  cases hr:eqL f a b with
  | false=>rfl
  | true=>
   exfalso
   unfold eqL at hr
   rw[Bool.and_eq_true]at hr
   have hl:=of_decide_eq_true hr.1
   refine h (List.ext_getElem hl fun i h1 h2=>?_)
   have:=List.all_eq_true.1 hr.2 i (by simpa using h1)
   rw[List.getElem?_eq_getElem h1,List.getElem?_eq_getElem h2]at this
   dsimp only at this
   rw[hf]at this
   exact of_decide_eq_true this
def sameP (a b:Pr):Bool:=a.name==b.name&&(a.exp==b.exp&&(a.locals==b.locals&&(a.result==b.result&&(a.params==b.params&&decide (a.code=b.code)))))
def sameOb (a b:Ob):Bool:=a.path==b.path&&(decide (a.consts=b.consts)&&(eqL sameN a.needs b.needs&&eqL sameP a.procs b.procs))
theorem sameP_refl (a:Pr):sameP a a=true:=by unfold sameP;simp[bb_refl]
end
section
open Go.MapKept
attribute [local irreducible] Tryz.prog
theorem eq_step {α:Type} {f:α→α→Bool} {a b:List α} {i:Nat} {x y:α} (h:∀(j:Nat) x y,j<i→a[j]? =some x→b[j]? =some y→f x y=true) (hx:a[i]? =some x) (hy:b[i]? =some y) (hf:f x y=true):∀(j:Nat) x y,j<i+1→a[j]? =some x→b[j]? =some y→f x y=true:=fun j x' y' hj hx' hy'=>by
 rcases Nat.lt_or_ge j i with h1 | h1
 ·exact h j x' y' h1 hx' hy'
 ·obtain rfl:j=i:=by omega
  rw[hx]at hx';rw[hy]at hy';cases hx';cases hy';exact hf
def dV (x y:V):Bool:=decide (x=y)
def dI (x y:Int×Int):Bool:=decide (x=y)
def dT (x y:Int):Bool:=x==y
def dPt (x y:Pt):Bool:=decide ((x.path,x.name,x.proc)=(y.path,y.name,y.proc))
theorem rsameT_fn (G:Gh) (A B:Option Addr) (l m:List Int) (ca cb:Nat) (ha:Sl (Kd.int .i64) G A l) (hb:Sl (Kd.int .i64) G B m) (hl:l.length≤100000000000000):
  Fn Tryz.prog 102 #[.slice A l.length ca, .slice B m.length cb] G [] fun e G' H'=>e= .returned (.bool (eqL dT l m))∧G=G'∧H'=[]:=by
 refine Fn.enter Tryz.func102 rfl rfl fun w0=>?_
 by_cases hne:l.length=m.length
 rotate_left
 ·have e1:((l.length:Int) != (m.length:Int))=true:=by rw[bne_iff_ne];omega
  rw[eqL_len hne]
  refine gom ?_
  refine WC.rt ?_
  exact QF.p1 (.inl rfl) rfl (.tmp rfl) (⟨rfl,rfl,rfl⟩)
 have e1:((l.length:Int) != (m.length:Int))=false:=by rw[hne];simp
 refine gom ?_
 refine WC.loop (X:=Nat) (fun i=>[(5, .int .i64 i),(0, .slice A l.length ca),(1, .slice B m.length cb)]) (fun _=>G) (fun _=>[]) (fun i=>l.length - i) (fun i=>i≤l.length∧∀(j:Nat) x y,j<i→l[j]? =some x→m[j]? =some y→dT x y=true) 0 ⟨Nat.zero_le _,fun j x y h=>absurd h (Nat.not_lt_zero _)⟩ (by exact⟨rfl,rfl,rfl,trivial⟩) rfl (List.Sublist.refl _) fun i hx=>?_
 obtain⟨hi,hall⟩:=hx
 by_cases hlt:i<l.length
 rotate_left
 ·have e2:decide ((i:Int)<(l.length:Int))=false:=decide_eq_false (by omega)
  rw[eqL_true hne fun j x y hj=>hall j x y (by omega)]
  refine gom ?_
  refine WC.rt ?_
  exact QF.p1 (.inl rfl) rfl (.tmp rfl) (⟨rfl,rfl,rfl⟩)
 have e2:decide ((i:Int)<(l.length:Int))=true:=decide_eq_true (by omega)
 obtain⟨x,hx⟩:∃x,l[i]? =some x:=⟨_,List.getElem?_eq_getElem hlt⟩
 obtain⟨y,hy⟩:∃y,m[i]? =some y:=⟨_,List.getElem?_eq_getElem (by omega)⟩
 obtain⟨ab,ao,cs1,rfl,hk1,hca⟩:=ha i x hx
 obtain⟨bb,bo,cs2,rfl,hk2,hcb⟩:=hb i y hy
 obtain rfl:cs1=[.int .i64 x]:=hk1
 obtain rfl:cs2=[.int .i64 y]:=hk2
 have x0:(0:Int)≤i:=by omega
 have x2:(i:Int)<(l.length:Int):=by omega
 have x3:(i:Int)<(m.length:Int):=by omega
 have x4:=wrapS i (by omega)
 cases hf:dT x y with
 | true=>
  have e3:(x != y)=false:=by rw[bne,show(x==y)=true from hf];rfl
  refine gom ?_
  exact WK.again (i+1) (by omega) ⟨by omega,eq_step hall hx hy hf⟩ (by exact⟨rfl,rfl,rfl,trivial⟩) rfl (List.Sublist.refl _)
 | false=>
  have e3:(x != y)=true:=by rw[bne,show(x==y)=false from hf];rfl
  rw[eqL_false hx hy hf]
  refine gom ?_
  refine WC.rt ?_
  exact QF.p1 (.inl rfl) rfl (.tmp rfl) (⟨rfl,rfl,rfl⟩)
theorem rsameV_fn (G:Gh) (A B:Option Addr) (l m:List V) (ca cb:Nat) (ha:Sl Kd.val G A l) (hb:Sl Kd.val G B m) (hl:l.length≤100000000000000):
  Fn Tryz.prog 49 #[.slice A l.length ca, .slice B m.length cb] G [] fun e G' H'=>e= .returned (.bool (eqL dV l m))∧G=G'∧H'=[]:=by
 refine Fn.enter Tryz.func49 rfl rfl fun w0=>?_
 by_cases hne:l.length=m.length
 rotate_left
 ·have e1:((l.length:Int) != (m.length:Int))=true:=by rw[bne_iff_ne];omega
  rw[eqL_len hne]
  refine gom ?_
  refine WC.rt ?_
  exact QF.p1 (.inl rfl) rfl (.tmp rfl) (⟨rfl,rfl,rfl⟩)
 have e1:((l.length:Int) != (m.length:Int))=false:=by rw[hne];simp
 refine gom ?_
 refine WC.loop (X:=Nat) (fun i=>[(5, .int .i64 i),(0, .slice A l.length ca),(1, .slice B m.length cb)]) (fun _=>G) (fun _=>[]) (fun i=>l.length - i) (fun i=>i≤l.length∧∀(j:Nat) x y,j<i→l[j]? =some x→m[j]? =some y→dV x y=true) 0 ⟨Nat.zero_le _,fun j x y h=>absurd h (Nat.not_lt_zero _)⟩ (by exact⟨rfl,rfl,rfl,trivial⟩) rfl (List.Sublist.refl _) fun i hx=>?_
 obtain⟨hi,hall⟩:=hx
 by_cases hlt:i<l.length
 rotate_left
 ·have e2:decide ((i:Int)<(l.length:Int))=false:=decide_eq_false (by omega)
  rw[eqL_true hne fun j x y hj=>hall j x y (by omega)]
  refine gom ?_
  refine WC.rt ?_
  exact QF.p1 (.inl rfl) rfl (.tmp rfl) (⟨rfl,rfl,rfl⟩)
 have e2:decide ((i:Int)<(l.length:Int))=true:=decide_eq_true (by omega)
 obtain⟨x,hx⟩:∃x,l[i]? =some x:=⟨_,List.getElem?_eq_getElem hlt⟩
 obtain⟨y,hy⟩:∃y,m[i]? =some y:=⟨_,List.getElem?_eq_getElem (by omega)⟩
 obtain⟨ab,ao,cs1,rfl,hk1,hca⟩:=ha i x hx
 obtain⟨bb,bo,cs2,rfl,hk2,hcb⟩:=hb i y hy
 obtain rfl:cs1=[.int .i64 x.t, .int .i64 x.i, .bool x.b, .string x.s]:=hk1
 obtain rfl:cs2=[.int .i64 y.t, .int .i64 y.i, .bool y.b, .string y.s]:=hk2
 have x0:(0:Int)≤i:=by omega
 have x2:(i:Int)<(l.length:Int):=by omega
 have x3:(i:Int)<(m.length:Int):=by omega
 have x4:=wrapS i (by omega)
 cases hf:dV x y with
 | true=>
  have e3:(!decide (x=y))=false:=by rw[show decide (x=y)=true from hf];rfl
  refine gom ?_
  refine WQ.tp (Gp.neVal rfl rfl) kr kr rfl ?_
  rw[e3]
  refine gom ?_
  exact WK.again (i+1) (by omega) ⟨by omega,eq_step hall hx hy hf⟩ (by exact⟨rfl,rfl,rfl,trivial⟩) rfl (List.Sublist.refl _)
 | false=>
  have e3:(!decide (x=y))=true:=by rw[show decide (x=y)=false from hf];rfl
  rw[eqL_false hx hy hf]
  refine gom ?_
  refine WQ.tp (Gp.neVal rfl rfl) kr kr rfl ?_
  rw[e3]
  refine gom ?_
  refine WC.rt ?_
  exact QF.p1 (.inl rfl) rfl (.tmp rfl) (⟨rfl,rfl,rfl⟩)
theorem eqT_eq (l m:List Int):eqL dT l m=(l==m):=by rw[eqL_dec (fun x y=>by unfold dT;rw[Bool.eq_iff_iff];simp)];rw[Bool.eq_iff_iff];simp
theorem eqI_eq (l m:List (Int×Int)):eqL dI l m=decide (l=m):=eqL_dec (fun x y=>rfl) l m
theorem eqV_eq (l m:List V):eqL dV l m=decide (l=m):=eqL_dec (fun x y=>rfl) l m
end
section
open Go.MapKept
attribute [local irreducible] Tryz.prog sameN sameP eqL
theorem rsameNeed_fn (G:Gh) (a b:Nd) (QA RA:Option Addr) (qc rc:Nat) (hQ:Sl (Kd.int .i64) G QA a.params) (hR:Sl (Kd.int .i64) G RA b.params) (hl:a.params.length≤100000000000000):
  Fn Tryz.prog 56 #[.agg (ndC a QA qc), .agg (ndC b RA rc)] G [] fun e G' H'=>e= .returned (.bool (sameN a b))∧G=G'∧H'=[]:=by
 refine Fn.enter Tryz.func56 rfl rfl fun w0=>?_
 refine WC.seq ?_
 refine WC.region ?_
 refine WL.oo (OW.box rfl rfl fun b2=>?_)
 refine WL.oo (OW.box rfl rfl fun b3=>?_)
 refine gom ?_
 cases h1:(a.path==b.path)with
 | false=>
  rw[show sameN a b=false by unfold sameN;rw[h1];rfl]
  refine gom ?_
  refine WC.rt ?_
  exact QF.p1 (.inl rfl) rfl (.tmp rfl) (⟨rfl,rfl,rfl⟩)
 | true=>
 refine gom ?_
 cases h2:(a.name==b.name)with
 | false=>
  rw[show sameN a b=false by unfold sameN;rw[h1,h2];rfl]
  refine gom ?_
  refine WC.rt ?_
  exact QF.p1 (.inl rfl) rfl (.tmp rfl) (⟨rfl,rfl,rfl⟩)
 | true=>
 cases h3:(a.result==b.result)with
 | false=>
  rw[show sameN a b=false by unfold sameN;rw[h1,h2,h3];rfl]
  refine gom ?_
  refine WC.rt ?_
  exact QF.p1 (.inl rfl) rfl (.tmp rfl) (⟨rfl,rfl,rfl⟩)
 | true=>
 rw[show sameN a b=(a.params==b.params) by unfold sameN;rw[h1,h2,h3];rfl]
 refine gom ?_
 refine WL.oo (OW.callK rfl (rsameT_fn G QA RA a.params b.params qc rc hQ hR hl) rfl fun v' G' H' h hg=>?_)
 obtain⟨he,rfl,rfl⟩:=h
 cases he
 rw[←eqT_eq]
 refine gom ?_
 refine WC.rt ?_
 exact QF.p1 (.inl rfl) rfl (.tmp rfl) (⟨rfl,rfl,rfl⟩)
set_option maxRecDepth 20000 in
set_option maxHeartbeats 2000000 in
theorem rsameP_fn (G:Gh) (A B:Option Addr) (l m:List Pr) (ca cb:Nat) (ha:Sl Kd.prc G A l) (hb:Sl Kd.prc G B m) (hl:l.length≤100000000000000) (hs:∀x∈l,x.params.length≤100000000000000∧x.code.length≤100000000000000):
  Fn Tryz.prog 50 #[.slice A l.length ca, .slice B m.length cb] G [] fun e G' H'=>e= .returned (.bool (eqL sameP l m))∧G=G'∧H'=[]:=by
 refine Fn.enter Tryz.func50 rfl rfl fun w0=>?_
 by_cases hne:l.length=m.length
 rotate_left
 ·have e1:((l.length:Int) != (m.length:Int))=true:=by rw[bne_iff_ne];omega
  rw[eqL_len hne]
  refine go ?_
  refine WC.rt ?_
  exact QF.p1 (.inl rfl) rfl (.tmp rfl) (⟨rfl,rfl,rfl⟩)
 have e1:((l.length:Int) != (m.length:Int))=false:=by rw[hne];simp
 refine go ?_
 refine WC.loop (X:=Nat) (fun i=>[(0, .slice A l.length ca),(1, .slice B m.length cb),(5, .int .i64 i)]) (fun _=>G) (fun _=>[]) (fun i=>l.length - i) (fun i=>i≤l.length∧∀(j:Nat) x y,j<i→l[j]? =some x→m[j]? =some y→sameP x y=true) 0 ⟨Nat.zero_le _,fun j x y h=>absurd h (Nat.not_lt_zero _)⟩ (by exact⟨rfl,rfl,rfl,trivial⟩) rfl (List.Sublist.refl _) fun i hx=>?_
 obtain⟨hi,hall⟩:=hx
 by_cases hlt:i<l.length
 rotate_left
 ·have e2:decide ((i:Int)<(l.length:Int))=false:=decide_eq_false (by omega)
  rw[eqL_true hne fun j x y hj=>hall j x y (by omega)]
  refine go ?_
  refine WC.rt ?_
  exact QF.p1 (.inl rfl) rfl (.tmp rfl) (⟨rfl,rfl,rfl⟩)
 have e2:decide ((i:Int)<(l.length:Int))=true:=decide_eq_true (by omega)
 obtain⟨x,hx⟩:∃x,l[i]? =some x:=⟨_,List.getElem?_eq_getElem hlt⟩
 obtain⟨y,hy⟩:∃y,m[i]? =some y:=⟨_,List.getElem?_eq_getElem (by omega)⟩
 obtain⟨ab,ao,cs1,rfl,hk1,hca⟩:=ha i x hx
 obtain⟨bb,bo,cs2,rfl,hk2,hcb⟩:=hb i y hy
 obtain⟨PA,pc,CA,cc,rfl,hP,hC⟩:=hk1
 obtain⟨QA,qc,DA,dc,rfl,hQ,hD⟩:=hk2
 obtain⟨hxp,hxc⟩:=hs x (List.mem_of_getElem? hx)
 have x0:(0:Int)≤i:=by omega
 have x2:(i:Int)<(l.length:Int):=by omega
 have x3:(i:Int)<(m.length:Int):=by omega
 have x4:=wrapS i (by omega)
 refine go ?_
 refine WC.joinG (X:=Nat×Nat) (fun t=>[(0, .slice (some ⟨ab,ao,none⟩) l.length ca),(1, .slice (some ⟨bb,bo,none⟩) m.length cb),(5, .int .i64 i),(6, .pointer (some ⟨t.1,0,none⟩)),(7, .pointer (some ⟨t.2,0,none⟩))]) (fun _=>G) (fun t=>[prB t.1 x PA pc CA cc,prB t.2 y QA qc DA dc]) (fun _=>True) ?_ fun t _=>?_
 ·refine WC.drawB mixed ?_
  refine zb.move 0 ?_
  refine zb.move 1 ?_
  refine zb.ix 2 ?_
  refine WB.vv 3 rfl (Gv.loadGN rfl hca rfl) ?_
  refine zb.move 4 ?_
  refine zb.move 5 ?_
  refine zb.ix 6 ?_
  refine WB.vv 7 rfl (Gv.loadGN rfl hcb rfl) ?_
  refine WB.two (i:=8) (j:=9) kr rfl rfl kr kr (OW.alloc rfl fun b6=>?_) (OW.alloc rfl fun b7=>?_)
  ·refine⟨fun w hw=>hw.pk pkA,?_⟩
   refine WB.oo 9 rfl (OW.alloc rfl fun b7=>?_)
   refine⟨fun w hw=>hw.pk pkA,?_⟩
   refine zb.st 10 ?_
   refine⟨fun w hw=>hw.pk pkA,?_⟩
   refine zb.st 11 ?_
   refine⟨fun w hw=>hw.pk pkA,?_⟩
   refine WB.done kr ?_
   refine WK.un ?_
   refine WK.pick [prB b6 x PA pc CA cc,prB b7 y QA qc DA dc] ?_
   exact WK.meet (b6,b7) trivial (by exact⟨rfl,rfl,rfl,rfl,rfl,trivial⟩) rfl (List.Sublist.refl _)
  ·refine⟨fun w hw=>hw.pk pkA,?_⟩
   refine WB.oo 8 rfl (OW.alloc rfl fun b6=>?_)
   refine⟨fun w hw=>hw.pk pkA,?_⟩
   refine zb.st 10 ?_
   refine⟨fun w hw=>hw.pk pkA,?_⟩
   refine zb.st 11 ?_
   refine⟨fun w hw=>hw.pk pkA,?_⟩
   refine WB.done kr ?_
   refine WK.un ?_
   refine WK.pick [prB b6 x PA pc CA cc,prB b7 y QA qc DA dc] ?_
   exact WK.meet (b6,b7) trivial (by exact⟨rfl,rfl,rfl,rfl,rfl,trivial⟩) rfl (List.Sublist.refl _)
 obtain⟨b6,b7⟩:=t
 dsimp only
 refine gom ?_
 cases h1:(x.name==y.name)with
 | false=>
  have hf:sameP x y=false:=by unfold sameP;rw[h1];rfl
  rw[eqL_false hx hy hf]
  refine gom ?_
  refine WC.rt ?_
  exact QF.p1 (.inl rfl) rfl (.tmp rfl) (⟨rfl,rfl,rfl⟩)
 | true=>
 refine gom ?_
 cases h2:(x.exp==y.exp)with
 | false=>
  have hf:sameP x y=false:=by unfold sameP;rw[h1,h2];rfl
  rw[eqL_false hx hy hf]
  refine gom ?_
  refine WC.rt ?_
  exact QF.p1 (.inl rfl) rfl (.tmp rfl) (⟨rfl,rfl,rfl⟩)
 | true=>
 cases h3:(x.locals==y.locals)with
 | false=>
  have nh3:(x.locals != y.locals)=true:=by rw[bne,h3];rfl
  have hf:sameP x y=false:=by unfold sameP;rw[h1,h2,h3];rfl
  rw[eqL_false hx hy hf]
  refine gom ?_
  refine WC.rt ?_
  exact QF.p1 (.inl rfl) rfl (.tmp rfl) (⟨rfl,rfl,rfl⟩)
 | true=>
 have nh3:(x.locals != y.locals)=false:=by rw[bne,h3];rfl
 cases h4:(x.result==y.result)with
 | false=>
  have nh4:(x.result != y.result)=true:=by rw[bne,h4];rfl
  have hf:sameP x y=false:=by unfold sameP;rw[h1,h2,h3,h4];rfl
  rw[eqL_false hx hy hf]
  refine gom ?_
  refine WC.rt ?_
  exact QF.p1 (.inl rfl) rfl (.tmp rfl) (⟨rfl,rfl,rfl⟩)
 | true=>
 have nh4:(x.result != y.result)=false:=by rw[bne,h4];rfl
 refine gom ?_
 refine WL.oo (OW.callK rfl (rsameT_fn G PA QA x.params y.params pc qc hP hQ hxp) rfl fun v' G' H' h hg=>?_)
 obtain⟨he,rfl,rfl⟩:=h
 cases he
 cases h5:eqL dT x.params y.params with
 | false=>
  have hf:sameP x y=false:=by unfold sameP;rw[h1,h2,h3,h4,←eqT_eq,h5];rfl
  rw[eqL_false hx hy hf]
  refine gom ?_
  refine WC.rt ?_
  exact QF.p1 (.inl rfl) rfl (.tmp rfl) (⟨rfl,rfl,rfl⟩)
 | true=>
 have hsx:sameP x y=eqL dI x.code y.code:=by unfold sameP;rw[h1,h2,h3,h4,←eqT_eq,h5,eqI_eq];rfl
 by_cases hce:x.code.length=y.code.length
 rotate_left
 ·have e6:((x.code.length:Int) != (y.code.length:Int))=true:=by rw[bne_iff_ne];omega
  have hf:sameP x y=false:=by rw[hsx,eqL_len hce]
  rw[eqL_false hx hy hf]
  refine gom ?_
  refine WC.rt ?_
  exact QF.p1 (.inl rfl) rfl (.tmp rfl) (⟨rfl,rfl,rfl⟩)
 have e6:((x.code.length:Int) != (y.code.length:Int))=false:=by rw[hce];simp
 refine gom ?_
 refine WC.loop (X:=Nat) (fun k=>[(0, .slice (some ⟨ab,ao,none⟩) l.length ca),(1, .slice (some ⟨bb,bo,none⟩) m.length cb),(5, .int .i64 i),(6, .pointer (some ⟨b6,0,none⟩)),(7, .pointer (some ⟨b7,0,none⟩)),(8, .int .i64 k)]) (fun _=>G) (fun _=>[prB b6 x PA pc CA cc,prB b7 y QA qc DA dc]) (fun k=>x.code.length - k) (fun k=>k≤x.code.length∧∀(j:Nat) u v,j<k→x.code[j]? =some u→y.code[j]? =some v→dI u v=true) 0 ⟨Nat.zero_le _,fun j x y h=>absurd h (Nat.not_lt_zero _)⟩ (by exact⟨rfl,rfl,rfl,rfl,rfl,rfl,trivial⟩) rfl (List.Sublist.refl _) fun k hk=>?_
 obtain⟨hk,hkal⟩:=hk
 by_cases hkl:k<x.code.length
 rotate_left
 ·have e7:decide ((k:Int)<(x.code.length:Int))=false:=decide_eq_false (by omega)
  have hf:sameP x y=true:=by rw[hsx];exact eqL_true hce fun j u v hj=>hkal j u v (by omega)
  refine gom ?_
  exact WK.again (i+1) (by omega) ⟨by omega,eq_step hall hx hy hf⟩ (by exact⟨rfl,rfl,rfl,trivial⟩) rfl (List.nil_sublist _)
 have e7:decide ((k:Int)<(x.code.length:Int))=true:=decide_eq_true (by omega)
 obtain⟨u,hu⟩:∃u,x.code[k]? =some u:=⟨_,List.getElem?_eq_getElem hkl⟩
 obtain⟨v,hv⟩:∃v,y.code[k]? =some v:=⟨_,List.getElem?_eq_getElem (by omega)⟩
 obtain⟨ub,uo,us,rfl,hku,huc⟩:=hC k u hu
 obtain⟨vb,vo,vs,rfl,hkv,hvc⟩:=hD k v hv
 obtain rfl:us=[.int .i64 u.1, .int .i64 u.2]:=hku
 obtain rfl:vs=[.int .i64 v.1, .int .i64 v.2]:=hkv
 have y0:(0:Int)≤k:=by omega
 have y2:(k:Int)<(x.code.length:Int):=by omega
 have y3:(k:Int)<(y.code.length:Int):=by omega
 have y4:=wrapS k (by omega)
 cases hf:dI u v with
 | true=>
  have e3:(!decide ((u.1,u.2)=(v.1,v.2)))=false:=by rw[show decide ((u.1,u.2)=(v.1,v.2))=true from hf];rfl
  refine gom ?_
  refine WQ.tp (Gp.neIns rfl rfl) kr kr rfl ?_
  rw[e3]
  refine gom ?_
  exact WK.again (k+1) (by omega) ⟨by omega,eq_step hkal hu hv hf⟩ (by exact⟨rfl,rfl,rfl,rfl,rfl,rfl,trivial⟩) rfl (List.Sublist.refl _)
 | false=>
  have e3:(!decide ((u.1,u.2)=(v.1,v.2)))=true:=by rw[show decide ((u.1,u.2)=(v.1,v.2))=false from hf];rfl
  have hf':sameP x y=false:=by rw[hsx];exact eqL_false hu hv hf
  rw[eqL_false hx hy hf']
  refine gom ?_
  refine WQ.tp (Gp.neIns rfl rfl) kr kr rfl ?_
  rw[e3]
  refine gom ?_
  refine WC.rt ?_
  exact QF.p1 (.inl rfl) rfl (.tmp rfl) (⟨rfl,rfl,rfl⟩)
end
section
open Go.MapKept
theorem metA_none1 {l:List Ob} {n:Nd} (h:pathJ l n.path=none):metA l n=(-1, -1):=by unfold metA metI;rw[h];rfl
theorem metA_none2 {l:List Ob} {n:Nd} {i:Nat} {o:Ob} (h:pathJ l n.path=some i) (ho:l[i]? =some o) (hm:metJ n o.procs=none):metA l n=(-1, -1):=by unfold metA metI;rw[h,Option.bind_some,ho,Option.bind_some,hm];rfl
theorem metA_some {l:List Ob} {n:Nd} {i k:Nat} {o:Ob} (h:pathJ l n.path=some i) (ho:l[i]? =some o) (hm:metJ n o.procs=some k):metA l n=((i:Int),(k:Int)):=by unfold metA metI;rw[h,Option.bind_some,ho,Option.bind_some,hm];rfl
attribute [local irreducible] Tryz.prog sameN sameP eqL metA metL missL fitX
set_option maxRecDepth 20000 in
set_option maxHeartbeats 4000000 in
theorem rmetN_fn (G:Gh) (A:Option Addr) (cap:Nat) (l:List Ob) (hl:Sl Kd.ob G A l) (hL:LLim l) (n:Nd) (QA:Option Addr) (qc:Nat) (hQ:Sl (Kd.int .i64) G QA n.params):
  Fn Tryz.prog 101 #[.slice A l.length cap, .agg (ndC n QA qc)] G [] fun e G' H'=>e= .returned (.tuple #[.int .i64 (metA l n).1, .int .i64 (metA l n).2])∧G=G'∧H'=[]:=by
 have hlen:=hL.len
 refine Fn.enter Tryz.func101 rfl rfl fun w0=>?_
 refine WC.seq ?_
 refine WC.region ?_
 refine WL.oo (OW.box rfl rfl fun b3=>?_)
 refine gom ?_
 refine WC.loop (X:=Nat) (fun i=>[(0, .slice A l.length cap),(3, .pointer (some ⟨b3,0,none⟩)),(6, .int .i64 i)]) (fun _=>G) (fun _=>[.blk b3 (.cells (ndC n QA qc) 56 (0,0))]) (fun i=>l.length - i) (fun i=>i≤l.length∧∀(j:Nat) y,j<i→l[j]? =some y→y.path≠n.path) 0 ⟨Nat.zero_le _,fun j y hj=>absurd hj (Nat.not_lt_zero _)⟩ (by exact⟨rfl,rfl,rfl,trivial⟩) rfl (List.Sublist.refl _) fun i hx=>?_
 obtain⟨hi,hno⟩:=hx
 have x2:=wrapS i (by omega)
 by_cases hlt:i<l.length
 rotate_left
 ·have e2:decide ((i:Int)<(l.length:Int))=false:=decide_eq_false (by omega)
  rw[metA_none1 (pathJ_none fun j y hy=>hno j y (by have:=(List.getElem?_eq_some_iff.1 hy).1;omega) hy)]
  refine gom ?_
  refine WC.rt ?_
  exact QF.p2 (.inl rfl) rfl (.tmp rfl) (.tmp rfl) (⟨rfl,rfl,rfl⟩)
 have e2:decide ((i:Int)<(l.length:Int))=true:=decide_eq_true (by omega)
 obtain⟨o,ho⟩:∃o,l[i]? =some o:=⟨_,List.getElem?_eq_getElem hlt⟩
 have x0:(0:Int)≤(i:Int):=by omega
 have x1:(i:Int)<(l.length:Int):=by omega
 obtain⟨ab,ao,ocs,rfl,hks,hcs⟩:=hl i o ho
 obtain⟨OA,oc,NA,nc,RA,rc,rfl,hO⟩:=hks
 have hopl:=(hL.lim o (List.mem_of_getElem? ho)).pl
 refine go ?_
 refine WC.draw mixed ?_
 refine za.move 0 ?_
 refine za.move 1 ?_
 refine za.ix 2 ?_
 refine za.fa 3 ?_
 refine WA.vv 4 rfl (Gv.loadG1 (i:=0) rfl hcs rfl) ?_
 refine za.fa 5 ?_
 refine za.ld 6 ?_
 refine za.ne 7 ?_
 refine WA.done kr ?_
 refine WK.un ?_
 cases hpq:(o.path==n.path)with
 | false=>
  have hne:(o.path != n.path)=true:=by unfold bne;rw[hpq];rfl
  first | rw[hne] | skip
  refine gom ?_
  exact WK.again (i+1) (by omega) ⟨by omega,fun j y hj hy=>by
   rcases Nat.lt_or_ge j i with h | h
   ·exact hno j y h hy
   ·obtain rfl:j=i:=by omega
    rw[ho]at hy;cases hy
    exact fun e=>by rw[bb_iff.2 e]at hpq;cases hpq⟩ (by exact⟨rfl,rfl,rfl,trivial⟩) rfl (List.Sublist.refl _)
 | true=>
 have hne:(o.path != n.path)=false:=by unfold bne;rw[hpq];rfl
 have hpj:=pathJ_at hno ho (bb_iff.1 hpq)
 first | rw[hne] | skip
 refine gom ?_
 refine WC.loop (X:=Nat) (fun k=>[(0, .slice (some ⟨ab,ao,none⟩) l.length cap),(3, .pointer (some ⟨b3,0,none⟩)),(6, .int .i64 i),(7, .int .i64 k)]) (fun _=>G) (fun _=>[.blk b3 (.cells (ndC n QA qc) 56 (0,0))]) (fun k=>o.procs.length - k) (fun k=>k≤o.procs.length∧∀(j:Nat) y,j<k→o.procs[j]? =some y→fitX n y=false) 0 ⟨Nat.zero_le _,fun j y hj=>absurd hj (Nat.not_lt_zero _)⟩ (by exact⟨rfl,rfl,rfl,rfl,trivial⟩) rfl (List.Sublist.refl _) fun k hx=>?_
 obtain⟨hk,hnf⟩:=hx
 have y2:=wrapS k (by omega)
 by_cases hkl:k<o.procs.length
 rotate_left
 ·have e3:decide ((k:Int)<(o.procs.length:Int))=false:=decide_eq_false (by omega)
  rw[metA_none2 hpj ho (metJ_none fun j y hy=>hnf j y (by have:=(List.getElem?_eq_some_iff.1 hy).1;omega) hy)]
  refine gom ?_
  refine WC.rt ?_
  exact QF.p2 (.inl rfl) rfl (.tmp rfl) (.tmp rfl) (⟨rfl,rfl,rfl⟩)
 have e3:decide ((k:Int)<(o.procs.length:Int))=true:=decide_eq_true (by omega)
 obtain⟨p,hp⟩:∃p,o.procs[k]? =some p:=⟨_,List.getElem?_eq_getElem hkl⟩
 have z0:(0:Int)≤(k:Int):=by omega
 have z1:(k:Int)<(o.procs.length:Int):=by omega
 obtain⟨pb,po,pcs,rfl,hpk,hpc⟩:=hO.procs k p hp
 obtain⟨WA',wc,IA,ic,rfl,hW,hI⟩:=hpk
 have hpl:=(hL.pp o (List.mem_of_getElem? ho) p (List.mem_of_getElem? hp)).1
 have hnx:∀ {b:Bool},fitX n p=b→b=false→∀(j:Nat) y,j<k+1→o.procs[j]? =some y→fitX n y=false:=fun hb hb' j y hj hy=>by
  rcases Nat.lt_or_ge j k with h | h
  ·exact hnf j y h hy
  ·obtain rfl:j=k:=by omega
   rw[hp]at hy;cases hy
   exact hb.trans hb'
 refine gom ?_
 refine WL.oo (OW.alloc rfl fun b8=>?_)
 refine gom ?_
 cases h1:p.exp with
 | false=>
  have hf:fitX n p=false:=by unfold fitX;rw[h1];rfl
  refine gom ?_
  exact WK.again (k+1) (by omega) ⟨by omega,hnx hf rfl⟩ (by exact⟨rfl,rfl,rfl,rfl,trivial⟩) rfl (by exact(by repeat (first | exact List.Sublist.refl _ | exact List.nil_sublist _ | apply List.Sublist.cons)))
 | true=>
 refine gom ?_
 cases h2:(p.name==n.name)with
 | false=>
  have hf:fitX n p=false:=by unfold fitX;rw[h1,h2];rfl
  refine gom ?_
  exact WK.again (k+1) (by omega) ⟨by omega,hnx hf rfl⟩ (by exact⟨rfl,rfl,rfl,rfl,trivial⟩) rfl (by exact(by repeat (first | exact List.Sublist.refl _ | exact List.nil_sublist _ | apply List.Sublist.cons)))
 | true=>
 refine gom ?_
 cases h3:(p.result==n.result)with
 | false=>
  have hf:fitX n p=false:=by unfold fitX;rw[h1,h2,h3];rfl
  refine gom ?_
  exact WK.again (k+1) (by omega) ⟨by omega,hnx hf rfl⟩ (by exact⟨rfl,rfl,rfl,rfl,trivial⟩) rfl (by exact(by repeat (first | exact List.Sublist.refl _ | exact List.nil_sublist _ | apply List.Sublist.cons)))
 | true=>
 have hf:fitX n p=(p.params==n.params):=by unfold fitX;rw[h1,h2,h3];rfl
 refine gom ?_
 refine WL.oo (OW.callK rfl (rsameT_fn G WA' QA p.params n.params wc qc hW hQ (by omega)) rfl fun v' G' H' h hg=>?_)
 obtain⟨he,rfl,rfl⟩:=h
 rw[eqT_eq,←hf]at he
 cases he
 cases hfx:fitX n p with
 | false=>
  refine gom ?_
  exact WK.again (k+1) (by omega) ⟨by omega,hnx hfx rfl⟩ (by exact⟨rfl,rfl,rfl,rfl,trivial⟩) rfl (by exact(by repeat (first | exact List.Sublist.refl _ | exact List.nil_sublist _ | apply List.Sublist.cons)))
 | true=>
 rw[metA_some hpj ho (metJ_at hnf hp hfx)]
 refine gom ?_
 refine WC.rt ?_
 exact QF.p2 (.inl rfl) rfl (.tmp rfl) (.tmp rfl) (⟨rfl,rfl,rfl⟩)
end
end Go.Proofs.YtcnlkfocbbkdhaaGreatDoor.Gb
