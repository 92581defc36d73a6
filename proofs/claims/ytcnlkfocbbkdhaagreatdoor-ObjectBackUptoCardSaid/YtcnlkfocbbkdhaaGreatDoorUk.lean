/- An object's file read, walked. A program's file read, walked. Arguments of a bounded bulk, opened with the sum of all that they hold: lists of objects. How many bytes objects and programs have; ObjectBytes: walked. What is written is bytes (no program in sight). Values and points, compared. Objects compared, by the program and by the document: walked. Objects and programs compared, by the program and by the document; ObjectSames: walked. Objects and programs compared, by the program and by the document: walked. ObjectBack: walked. ObjectOrder: its arguments opened. ObjectBytes: its arguments opened. Rows of bytes of bounded bulk, opened. -/
import Derived.Test.YtcnlkfocbbkdhaaGreatDoorUj
set_option linter.unusedVariables false
set_option linter.unusedSimpArgs false
set_option linter.unusedSectionVars false
namespace Go.Proofs.YtcnlkfocbbkdhaaGreatDoor.Gb
open Go Go.Proofs
section
open Go.MapKept
theorem rd_end {α:Type} {enc:α→List Int} {ok:α→Prop} {bs m:List Int} {b:Bool} {k k':Nat} {f f':Int×Int} {a:α} (hb:BegP bs m b k f) (h:Rd enc ok bs k f a k' f'):
  (b=true→endF bs.length k' f'=(0,0)→ok a∧bs=m++enc a)∧(∀a',ok a'→bs=m++enc a'→b=true∧endF bs.length k' f'=(0,0)∧a'=a):=by
 obtain⟨hk,hb⟩:=hb
 rcases hb with⟨rfl,rfl,hbs⟩ | ⟨rfl,hno⟩
 ·constructor
  ·intro _ he
   obtain⟨hf,hle⟩:f'=(0,0)∧¬k'<bs.length:=by
    unfold endF at he
    split at he
    ·rename_i hh;exact absurd (congrArg Prod.fst he) (by dsimp only;decide)
    ·rename_i hh;exact⟨he,fun hl=>hh ⟨he,hl⟩⟩
   obtain⟨_,h2,h3⟩:=h.sound hf
   rw[List.drop_eq_nil_of_le (by omega:bs.length≤k'),List.append_nil]at h3
   exact⟨h2,by rw[←h3];exact hbs⟩
  ·intro a' ho he
   have hd:bs.drop k=enc a'++[]:=by rw[List.append_nil];rw[hbs]at he;exact List.append_cancel_left he
   obtain⟨h1,h2,h3⟩:=h.rest rfl ho hd
   have hlen:bs.length≤k':=by
    have:=congrArg List.length h3
    rw[List.length_drop,List.length_nil]at this;omega
   refine⟨rfl,?_,h2⟩
   rw[h1];unfold endF;rw[if_neg (fun hh=>by omega)]
 ·exact⟨fun e=>(by cases e),fun a' _ he=>absurd he (hno _)⟩
attribute [local irreducible] Tryz.prog
attribute [local irreducible] numL cntR byteR txtI encZ encT enV enI enP encH enN encN endF objAns
theorem noneF_fn (G:Gh):Fn Tryz.prog 78 #[] G [] fun e G' H'=>e= .returned (.agg #[.int .i64 220, .int .i64 0])∧G=G'∧H'=[]:=by
 refine Fn.enter Tryz.func78 rfl rfl fun w0=>?_
 refine WC.seq ?_
 refine WC.region ?_
 refine WL.oo (OW.alloc rfl fun b0=>?_)
 refine gom ?_
 refine WC.rt ?_
 exact QF.p1 (.inl rfl) rfl (.cell rfl inferInstance inferInstance atA rfl rfl) (⟨rfl,rfl,rfl⟩)
section
variable (G:Gh) (b:Nat) (BA:Option Addr) (bs:List Int) (bc k:Nat) (f:Int×Int) (hB:Sl (Kd.int .u8) G BA bs) (hbs:∀c∈bs,0≤c∧c<256) (hk:k≤bs.length) (hn:bs.length≤140737488351232) (hbc:bs.length≤bc)
include hB hbs hk hn hbc
theorem vals3_fn (most:Nat) (hm:most≤1000000000):Fn Tryz.prog 72 #[rvA b, .int .i64 (most:Int)] G [rdB b BA bs.length bc k f] fun e G' H'=>∃A' vs cap k' f',e= .returned (.slice A' vs.length cap)∧G.le G'∧vs.length≤most∧Sl Kd.val G' A' vs∧Rd (encN enV) (okN most okVl) bs k f vs k' f'∧H'=[rdB b BA bs.length bc k' f']:=by
 refine Fn.freezeK (k:=Kd.val) (by decide) (vals2_fn G b BA bs bc k f hB hbs hk hn hbc most hm) fun e G' H' h=>?_
 obtain⟨A',vs,cap,x',k',f',he,rfl,hl,hv,hr,rfl⟩:=h
 exact⟨_,_,_,_,x',0,hv, .here,fun G'' hg hv'=>⟨A',vs,cap,k',f',he,hg,hl,hv',hr,rfl⟩⟩
theorem procs3_fn (most:Nat) (hm:most≤1000000000):Fn Tryz.prog 76 #[rvA b, .int .i64 (most:Int)] G [rdB b BA bs.length bc k f] fun e G' H'=>∃A' vs cap k' f',e= .returned (.slice A' vs.length cap)∧G.le G'∧(vs.length≤most∧∀p∈vs,prLm p)∧Sl Kd.prc G' A' vs∧Rd (encN enP) (okN most okPr) bs k f vs k' f'∧H'=[rdB b BA bs.length bc k' f']:=by
 refine Fn.freezeK (k:=Kd.prc) (by decide) (procs2_fn G b BA bs bc k f hB hbs hk hn hbc most hm) fun e G' H' h=>?_
 obtain⟨A',vs,cap,x',k',f',he,hg,hl,hv,hr,rfl⟩:=h
 exact⟨_,_,_,_,x',0,hv, .here,fun G'' hg' hv'=>⟨A',vs,cap,k',f',he,Gh.le_trans hg hg',hl,hv',hr,rfl⟩⟩
end
def ndLm (q:Nd):Prop:=q.params.length≤64∧(q.path.size:Int)≤4096∧(q.name.size:Int)≤32
structure RJ1 where
 b6:Nat
 s:ByteArray
 vs:List V
 A:Option Addr
 c:Nat
 k:Nat
 f:Int×Int
 G:Gh
structure RJ2 where
 i:Nat
 ns:List Nd
 A:Option Addr
 c:Nat
 o:Own
 k:Nat
 f:Int×Int
 G:Gh
theorem OLim.zero:OLim ⟨⟨#[]⟩,[],[],[]⟩:=⟨by decide,by decide,by decide,by decide,fun q h=>(by cases h),fun q h=>(by cases h)⟩
def zOb:Array Value:= #[.string ⟨#[]⟩, .slice none 0 0, .slice none 0 0, .slice none 0 0]
set_option maxRecDepth 20000 in
set_option maxHeartbeats 8000000 in
theorem objRead_fn (G:Gh) (hE:Env G) (A:Option Addr) (bs:List Int) (cap:Nat) (hA:Sl (Kd.int .u8) G A bs) (hbs:∀c∈bs,0≤c∧c<256) (hl:bs.length≤140737488351232):
  Fn Tryz.prog 31 #[.slice A bs.length cap] G [] fun e G' H'=>∃o CA NA PA cc nc pc w,e= .returned (.tuple #[.agg (obC o CA NA PA cc nc pc), .agg #[.int .i64 w, .int .i64 0]])∧G.le G'∧ORep G' o CA NA PA∧OLim o∧((w=0∧(objAns o).2.2=0∧okO o∧bs=magI++encO o∧∀o',okO o'→bs=magI++encO o'→o'=o)∨(w=220∧∀o',okO o'→(objAns o').2.2=0→bs≠magI++encO o'))∧H'=[]:=by
 refine Fn.enter Tryz.func31 rfl rfl fun w0=>?_
 refine WC.seq ?_
 refine WC.region ?_
 refine WL.oo (OW.alloc rfl fun b2=>?_)
 refine WL.oo (OW.alloc rfl fun b3=>?_)
 refine gom ?_
 refine WL.oo (OW.callK rfl (begin_fn G A bs cap hA hbs hl ⟨#[116,79,49]⟩ rfl) rfl fun v' G' H' h hg=>?_)
 obtain⟨rb,RA,rc,ok,k0,f0,he,hg1,hrc,hR,hbeg,rfl⟩:=h
 cases he
 obtain⟨G1,rfl⟩:∃G1,G1=G':=⟨_,rfl⟩
 have hk0:=hbeg.1
 refine gom ?_
 refine WL.oo (OW.alloc rfl fun b4=>?_)
 refine go ?_
 refine WC.joinG (X:=RJ1) (fun t=>[(2, .pointer (some ⟨b2,0,none⟩)),(3, .pointer (some ⟨b3,0,none⟩)),(4, .pointer (some ⟨b4,0,none⟩)),(5, .bool ok),(6, .pointer (some ⟨t.b6,0,none⟩))]) (fun t=>t.G) (fun t=>[rdB rb RA bs.length rc t.k t.f, .blk t.b6 (.cells #[.string t.s, .slice t.A t.vs.length t.c, .slice none 0 0, .slice none 0 0] 38 (0,0)),bxB b4 rb, .blk b3 (.cells #[.int .i64 0, .int .i64 0] 77 (0,0)), .blk b2 (.cells zOb 38 (0,0))])
  (fun t=>G1.le t.G∧(t.s.size:Int)≤4096∧t.vs.length≤4096∧Sl Kd.val t.G t.A t.vs∧∃k1 f1,Rd txtI (okT 4096) bs k0 f0 t.s k1 f1∧Rd (encN enV) (okN 4096 okVl) bs k1 f1 t.vs t.k t.f) ?_ fun t ht=>?_
 ·refine WC.pick [rdB rb RA bs.length rc k0 f0,bxB b4 rb, .blk b3 (.cells #[.int .i64 0, .int .i64 0] 77 (0,0)), .blk b2 (.cells zOb 38 (0,0))] ?_
  refine WC.drawS (Hs:=[bxB b4 rb]) mixed pkA ?_
  refine zb.fa 0 ?_
  refine zb.ld 1 ?_
  refine zb.ld 3 ?_
  refine WB.two (i:=2) (j:=6) kr rfl rfl kr kr (OW.callK rfl (rText2_fn G1 rb RA bs rc k0 f0 hR hbs hk0 hl hrc 4096 (by decide) (by decide)) rfl fun v' G' H' h hg=>?_) (OW.alloc rfl fun b6=>?_)
  ·obtain⟨s,k1,f1,he,rfl,hsz,hr1,rfl⟩:=h
   cases he
   refine⟨fun w hw=>hw.pk pkA,?_⟩
   refine WB.two (i:=4) (j:=6) kr rfl rfl kr kr (OW.callK rfl (vals3_fn G1 rb RA bs rc k1 f1 hR hbs hr1.le hl hrc 4096 (by decide)) rfl fun v' G' H' h hg=>?_) (OW.alloc rfl fun b6=>?_)
   ·obtain⟨VA,vs,vc,k2,f2,he,hg2,hvl,hV,hr2,rfl⟩:=h
    cases he
    obtain⟨G2,rfl⟩:∃G2,G2=G':=⟨_,rfl⟩
    refine⟨fun w hw=>(hw.pk pkA).le hg2,?_⟩
    refine zb.build 5 ?_
    refine WB.oo 6 rfl (OW.alloc rfl fun b6=>?_)
    refine⟨fun w hw=>(hw.pk pkA).le hg2,?_⟩
    refine zb.st 7 ?_
    refine⟨fun w hw=>(hw.pk pkA).le hg2,?_⟩
    refine WB.done kr ?_
    refine WK.un ?_
    refine WK.pick [rdB rb RA bs.length rc k2 f2, .blk b6 (.cells #[.string s, .slice VA vs.length vc, .slice none 0 0, .slice none 0 0] 38 (0,0)),bxB b4 rb, .blk b3 (.cells #[.int .i64 0, .int .i64 0] 77 (0,0)), .blk b2 (.cells zOb 38 (0,0))] ?_
    exact WK.meet ⟨b6,s,vs,VA,vc,k2,f2,G2⟩ ⟨hg2,hsz,hvl,hV,k1,f1,hr1,hr2⟩ (by exact⟨rfl,rfl,rfl,rfl,rfl,trivial⟩) rfl (List.Sublist.refl _)
   ·refine⟨fun w hw=>hw.pk pkA,?_⟩
    refine WB.oo 4 rfl (OW.callK rfl (vals3_fn G1 rb RA bs rc k1 f1 hR hbs hr1.le hl hrc 4096 (by decide)) rfl fun v' G' H' h hg=>?_)
    obtain⟨VA,vs,vc,k2,f2,he,hg2,hvl,hV,hr2,rfl⟩:=h
    cases he
    obtain⟨G2,rfl⟩:∃G2,G2=G':=⟨_,rfl⟩
    refine⟨fun w hw=>(hw.pk pkA).le hg2,?_⟩
    refine zb.build 5 ?_
    refine zb.st 7 ?_
    refine⟨fun w hw=>(hw.pk pkA).le hg2,?_⟩
    refine WB.done kr ?_
    refine WK.un ?_
    refine WK.pick [rdB rb RA bs.length rc k2 f2, .blk b6 (.cells #[.string s, .slice VA vs.length vc, .slice none 0 0, .slice none 0 0] 38 (0,0)),bxB b4 rb, .blk b3 (.cells #[.int .i64 0, .int .i64 0] 77 (0,0)), .blk b2 (.cells zOb 38 (0,0))] ?_
    exact WK.meet ⟨b6,s,vs,VA,vc,k2,f2,G2⟩ ⟨hg2,hsz,hvl,hV,k1,f1,hr1,hr2⟩ (by exact⟨rfl,rfl,rfl,rfl,rfl,trivial⟩) rfl (List.Sublist.refl _)
  ·refine⟨fun w hw=>hw.pk pkA,?_⟩
   refine WB.oo 2 rfl (OW.callK rfl (rText2_fn G1 rb RA bs rc k0 f0 hR hbs hk0 hl hrc 4096 (by decide) (by decide)) rfl fun v' G' H' h hg=>?_)
   obtain⟨s,k1,f1,he,rfl,hsz,hr1,rfl⟩:=h
   cases he
   refine⟨fun w hw=>hw.pk pkA,?_⟩
   refine WB.oo 4 rfl (OW.callK rfl (vals3_fn G1 rb RA bs rc k1 f1 hR hbs hr1.le hl hrc 4096 (by decide)) rfl fun v' G' H' h hg=>?_)
   obtain⟨VA,vs,vc,k2,f2,he,hg2,hvl,hV,hr2,rfl⟩:=h
   cases he
   obtain⟨G2,rfl⟩:∃G2,G2=G':=⟨_,rfl⟩
   refine⟨fun w hw=>(hw.pk pkA).le hg2,?_⟩
   refine zb.build 5 ?_
   refine zb.st 7 ?_
   refine⟨fun w hw=>(hw.pk pkA).le hg2,?_⟩
   refine WB.done kr ?_
   refine WK.un ?_
   refine WK.pick [rdB rb RA bs.length rc k2 f2, .blk b6 (.cells #[.string s, .slice VA vs.length vc, .slice none 0 0, .slice none 0 0] 38 (0,0)),bxB b4 rb, .blk b3 (.cells #[.int .i64 0, .int .i64 0] 77 (0,0)), .blk b2 (.cells zOb 38 (0,0))] ?_
   exact WK.meet ⟨b6,s,vs,VA,vc,k2,f2,G2⟩ ⟨hg2,hsz,hvl,hV,k1,f1,hr1,hr2⟩ (by exact⟨rfl,rfl,rfl,rfl,rfl,trivial⟩) rfl (List.Sublist.refl _)
 obtain⟨b6,s,vs,VA,vc,k2,f2,G2⟩:=t
 obtain⟨hg2,hsz,hvl,hV,k1,f1,hr1,hr2⟩:=ht
 dsimp only at hg2 hsz hvl hV hr2
 dsimp only
 have hg02:=Gh.le_trans hg1 hg2
 have hR2:=hR.mono hg2
 refine gom ?_
 refine WL.oo (OW.callK rfl (cnt2_fn G2 rb RA bs rc k2 f2 hR2 hbs hr2.le hl 4096 (by decide)) rfl fun v' G' H' h hg=>?_)
 obtain⟨n,k3,f3,he,rfl,hnm,hn0,hr3,rfl⟩:=h
 cases he
 refine zw.move ?_
 refine WL.nil ?_
 refine WK.un ?_
 refine WC.joinG (X:=RJ2) (fun t=>[(2, .pointer (some ⟨b2,0,none⟩)),(3, .pointer (some ⟨b3,0,none⟩)),(4, .pointer (some ⟨b4,0,none⟩)),(5, .bool ok),(6, .pointer (some ⟨b6,0,none⟩))]) (fun t=>t.G) (fun t=>[rdB rb RA bs.length rc t.k t.f, .blk b6 (.cells #[.string s, .slice VA vs.length vc, .slice t.A t.ns.length t.c, .slice none 0 0] 38 (0,0)),bxB b4 rb, .blk b3 (.cells #[.int .i64 0, .int .i64 0] 77 (0,0)), .blk b2 (.cells zOb 38 (0,0))])
  (fun t=>G2.le t.G∧(t.ns.length≤4096∧∀q∈t.ns,ndLm q)∧Sl Kd.ned t.G t.A t.ns∧Rd (encN enN) (okN 4096 okNd) bs k2 f2 t.ns t.k t.f) ?_ fun t ht=>?_
 ·
  refine gom ?_
  refine WC.nothing ?_
  refine WC.loop (X:=RJ2) (fun t=>[(2, .pointer (some ⟨b2,0,none⟩)),(3, .pointer (some ⟨b3,0,none⟩)),(4, .pointer (some ⟨b4,0,none⟩)),(5, .bool ok),(6, .pointer (some ⟨b6,0,none⟩)),(22, .int .i64 (n:Int)),(23, .int .i64 (t.i:Int))]) (fun t=>t.G) (fun t=>[t.o,rdB rb RA bs.length rc t.k t.f, .blk b6 (.cells #[.string s, .slice VA vs.length vc, .slice t.A t.ns.length t.c, .slice none 0 0] 38 (0,0)),bxB b4 rb, .blk b3 (.cells #[.int .i64 0, .int .i64 0] 77 (0,0)), .blk b2 (.cells zOb 38 (0,0))]) (fun t=>n - t.i)
   (fun t=>t.i≤n∧t.ns.length=t.i∧G2.le t.G∧(∀q∈t.ns,ndLm q)∧Rd (encL enN) (fun l=>l.length=t.i∧∀a∈l,okNd a) bs k3 f3 t.ns t.k t.f∧KVec Kd.ned 56 t.G t.A t.c t.ns t.o)
   ⟨0,[],none,0, .spare 0 0 0,k3,f3,G2⟩ ⟨Nat.zero_le _,rfl,Gh.le_refl _,fun q hq=>(by cases hq),rd_nil hr3.le f3,KVec.nil⟩ (by exact⟨rfl,rfl,rfl,rfl,rfl,rfl,rfl,trivial⟩) rfl (List.Sublist.refl _) fun x hx=>?_
  obtain⟨i,ns,NA,nc,o1,k4,f4,G3⟩:=x
  obtain⟨hi,hnl,hg3,hnb,hr4,hv⟩:=hx
  dsimp only at hi hnl hg3 hnb hr4 hv
  have x2:=wrapS i (by omega)
  by_cases hlt:i<n
  rotate_left
  ·have e2:decide ((i:Int)<(n:Int))=false:=decide_eq_false (by omega)
   obtain rfl:i=n:=by omega
   refine gom ?_
   refine WK.freezeK (by decide) hv atA fun G7 hg7 hS=>?_
   refine WK.pick [rdB rb RA bs.length rc k4 f4, .blk b6 (.cells #[.string s, .slice VA vs.length vc, .slice NA ns.length nc, .slice none 0 0] 38 (0,0)),bxB b4 rb, .blk b3 (.cells #[.int .i64 0, .int .i64 0] 77 (0,0)), .blk b2 (.cells zOb 38 (0,0))] ?_
   exact WK.meet ⟨0,ns,NA,nc,o1,k4,f4,G7⟩ ⟨Gh.le_trans hg3 hg7,⟨by dsimp only;omega,hnb⟩,hS,Rd.list hr3 hr4⟩ (by exact⟨rfl,rfl,rfl,rfl,rfl,trivial⟩) rfl (List.Sublist.refl _)
  have e2:decide ((i:Int)<(n:Int))=true:=decide_eq_true (by omega)
  have hR3:=hR2.mono hg3
  refine gom ?_
  refine WL.oo (OW.callK rfl (rText2_fn G3 rb RA bs rc k4 f4 hR3 hbs hr4.le hl hrc 4096 (by decide) (by decide)) rfl fun v' G' H' h hg=>?_)
  obtain⟨np,k5,f5,he,rfl,hnp,hr5,rfl⟩:=h
  cases he
  refine zw.build ?_
  refine WL.oo (OW.alloc rfl fun b7=>?_)
  refine gom ?_
  refine WL.oo (OW.callK rfl (head2_fn G3 rb RA bs rc k5 f5 hR3 hbs hr5.le hl hrc) rfl fun v' G' H' h hg=>?_)
  obtain⟨nm,PA,ps,pc,r,k6,f6,he,hg4,hnm2,hpl,hPs,hr6,rfl⟩:=h
  cases he
  obtain⟨G4,rfl⟩:∃G4,G4=G':=⟨_,rfl⟩
  have hrn:=rd_need hr5 hr6
  refine gom ?_
  refine WL.oo (OW.callK rfl (bad_fn G4 rb RA bs.length rc k6 f6) rfl fun v' G' H' h hg=>?_)
  obtain⟨he,rfl,rfl⟩:=h
  cases he
  have hv4:=hv.mono hg4
  have hg24:=Gh.le_trans hg3 hg4
  by_cases hbad:f6=(0,0)
  rotate_left
  ·rw[decide_eq_false hbad]
   refine gom ?_
   refine WK.freezeK (by decide) hv4 atA fun G7 hg7 hS=>?_
   refine WK.pick [rdB rb RA bs.length rc k6 f6, .blk b6 (.cells #[.string s, .slice VA vs.length vc, .slice NA ns.length nc, .slice none 0 0] 38 (0,0)),bxB b4 rb, .blk b3 (.cells #[.int .i64 0, .int .i64 0] 77 (0,0)), .blk b2 (.cells zOb 38 (0,0))] ?_
   exact WK.meet ⟨0,ns,NA,nc,o1,k6,f6,G7⟩ ⟨Gh.le_trans hg24 hg7,⟨by dsimp only;omega,hnb⟩,hS,Rd.list hr3 ((hr4.snoc hrn).stop hlt hbad)⟩ (by exact⟨rfl,rfl,rfl,rfl,rfl,trivial⟩) rfl (List.Sublist.refl _)
  rw[decide_eq_true hbad]
  refine gom ?_
  refine WL.op kr (OW.buildSlice rfl kr kr (by rfl) rfl fun b43=>?_)
  refine WL.oo (OW.append1 (k:=Kd.ned) (u:=(⟨np,nm,ps,r⟩:Nd)) rfl rfl kr rfl hv4 atA atA rfl ⟨PA,pc,rfl,hPs⟩ (by dsimp only;omega) (by dsimp only;omega) rfl fun A8 c8 o8 hv8=>?_)
  refine gom ?_
  refine WK.pick [o8,rdB rb RA bs.length rc k6 f6, .blk b6 (.cells #[.string s, .slice VA vs.length vc, .slice A8 (ns++[(⟨np,nm,ps,r⟩:Nd)]).length c8, .slice none 0 0] 38 (0,0)),bxB b4 rb, .blk b3 (.cells #[.int .i64 0, .int .i64 0] 77 (0,0)), .blk b2 (.cells zOb 38 (0,0))] ?_
  exact WK.again ⟨i+1,ns++[⟨np,nm,ps,r⟩],A8,c8,o8,k6,f6,G4⟩ (by dsimp only;omega) ⟨by dsimp only;omega,by rw[List.length_append,hnl];rfl,hg24,fun q hq=>by
   rcases List.mem_append.1 hq with hq | hq
   ·exact hnb q hq
   ·obtain rfl:=List.mem_singleton.1 hq;exact⟨hpl,hnp,hnm2⟩,hr4.snoc hrn,hv8⟩ (by exact⟨rfl,rfl,rfl,rfl,rfl,rfl,rfl,trivial⟩) rfl (List.Sublist.refl _)
 obtain⟨i9,ns,NA,nc,o9,k5,f5,G3⟩:=t
 obtain⟨hg3,⟨hnl,hnb⟩,hN,hr4⟩:=ht
 dsimp only at hg3 hnl hnb hN hr4
 dsimp only
 have hg03:=Gh.le_trans hg02 hg3
 refine gom ?_
 refine WL.oo (OW.callK rfl (procs3_fn G3 rb RA bs rc k5 f5 (hR2.mono hg3) hbs hr4.le hl hrc 128 (by decide)) rfl fun v' G' H' h hg=>?_)
 obtain⟨PA,ps,pc,k6,f6,he,hg4,⟨hpl,hpb⟩,hP,hr6,rfl⟩:=h
 cases he
 obtain⟨G4,rfl⟩:∃G4,G4=G':=⟨_,rfl⟩
 have hg04:=Gh.le_trans hg03 hg4
 have hro:=rd_obj hr1 hr2 hr4 hr6
 obtain⟨hsound,hfull⟩:=rd_end hbeg hro
 have hO:ORep G4 ⟨s,vs,ns,ps⟩ VA NA PA:=⟨hV.mono (Gh.le_trans hg3 hg4),hN.mono hg4,hP⟩
 have hLo:OLim ⟨s,vs,ns,ps⟩:=⟨by dsimp only;omega,by dsimp only;omega,by dsimp only;omega,by dsimp only;omega,fun q hq=>by have:=hnb q hq;unfold ndLm at this;omega,fun q hq=>by have:=hpb q hq;unfold prLm at this;omega⟩
 refine gom ?_
 refine WL.oo (OW.callK rfl (Object_fn G4 (hE.mono hg04) ⟨s,vs,ns,ps⟩ VA NA PA vc nc pc hO hLo) rfl fun v' G' H' h hg=>?_)
 obtain⟨he,hg5,rfl⟩:=h
 cases he
 obtain⟨G5,rfl⟩:∃G5,G5=G':=⟨_,rfl⟩
 have hg05:=Gh.le_trans hg04 hg5
 have hO5:=hO.mono hg5
 generalize hoa:(objAns ⟨s,vs,ns,ps⟩).2.2=oa at hg5⊢
 refine zw.move ?_
 refine zw.ext ?_
 refine zw.ext ?_
 refine WL.oo (OW.alloc rfl fun b8=>?_)
 have hmg:strI ⟨#[116,79,49]⟩=magI:=by rfl
 rw[hmg]at hsound hfull
 cases ok with
 | false=>
  refine gom ?_
  refine WL.oo (OW.callK rfl (noneF_fn G5) rfl fun v' G' H' h hg=>?_)
  obtain⟨he,rfl,rfl⟩:=h
  cases he
  refine gom ?_
  refine WC.rt ?_
  exact QF.p2 (.inl rfl) rfl (.cell rfl inferInstance inferInstance atA rfl rfl) (.cell rfl inferInstance inferInstance atA rfl rfl) (⟨⟨⟨#[]⟩,[],[],[]⟩,none,none,none,0,0,0,220,rfl,hg05,⟨Sl.nil _ _ _,Sl.nil _ _ _,Sl.nil _ _ _⟩,OLim.zero, .inr ⟨rfl,fun o' ho _ he=>(by cases (hfull o' ho he).1)⟩,rfl⟩)
 | true=>
 refine gom ?_
 refine WL.oo (OW.callK rfl (rend_fn G5 rb RA bs.length rc k6 f6 hro.le (by omega)) rfl fun v' G' H' h hg=>?_)
 obtain⟨he,rfl,rfl⟩:=h
 cases he
 generalize endF bs.length k6 f6=q at hsound hfull⊢
 obtain⟨q1,q2⟩:=q
 refine gom ?_
 refine WL.pp (Gp.neFault rfl rfl) ?_
 by_cases hq:(q1,q2)=((0:Int),(0:Int))
 rotate_left
 ·rw[decide_eq_false hq]
  refine gom ?_
  refine WL.oo (OW.callK rfl (noneF_fn G5) rfl fun v' G' H' h hg=>?_)
  obtain⟨he,rfl,rfl⟩:=h
  cases he
  refine gom ?_
  refine WC.rt ?_
  exact QF.p2 (.inl rfl) rfl (.cell rfl inferInstance inferInstance atA rfl rfl) (.cell rfl inferInstance inferInstance atA rfl rfl) (⟨⟨⟨#[]⟩,[],[],[]⟩,none,none,none,0,0,0,220,rfl,hg05,⟨Sl.nil _ _ _,Sl.nil _ _ _,Sl.nil _ _ _⟩,OLim.zero, .inr ⟨rfl,fun o' ho _ he=>absurd (hfull o' ho he).2.1 hq⟩,rfl⟩)
 rw[decide_eq_true hq]
 by_cases hz:oa=0
 rotate_left
 ·have e5:(oa != 0)=true:=by rw[bne_iff_ne];exact hz
  refine gom ?_
  refine WL.oo (OW.callK rfl (noneF_fn G5) rfl fun v' G' H' h hg=>?_)
  obtain⟨he,rfl,rfl⟩:=h
  cases he
  refine gom ?_
  refine WC.rt ?_
  exact QF.p2 (.inl rfl) rfl (.cell rfl inferInstance inferInstance atA rfl rfl) (.cell rfl inferInstance inferInstance atA rfl rfl) (⟨⟨⟨#[]⟩,[],[],[]⟩,none,none,none,0,0,0,220,rfl,hg05,⟨Sl.nil _ _ _,Sl.nil _ _ _,Sl.nil _ _ _⟩,OLim.zero, .inr ⟨rfl,fun o' ho ha he=>(by have:=(hfull o' ho he).2.2;rw[this,hoa]at ha;exact hz ha)⟩,rfl⟩)
 subst hz
 obtain⟨hok,hbs2⟩:=hsound rfl hq
 refine gom ?_
 refine WC.rt ?_
 exact QF.p2 (.inl rfl) rfl (.cell rfl inferInstance inferInstance atA rfl rfl) (.cell rfl inferInstance inferInstance atA rfl rfl) (⟨⟨s,vs,ns,ps⟩,VA,NA,PA,vc,nc,pc,0,rfl,hg05,hO5,hLo, .inl ⟨rfl,hoa,hok,hbs2,fun o' ho he=>(hfull o' ho he).2.2⟩,rfl⟩)
end
section
open Go.MapKept
attribute [local irreducible] Tryz.prog
attribute [local irreducible] numL cntR byteR txtI encZ encT enV enI enP encH enT encN endF progAns
theorem count3_fn (G:Gh) (b:Nat) (BA:Option Addr) (bs:List Int) (bc k:Nat) (f:Int×Int) (most:Nat) (hB:Sl (Kd.int .u8) G BA bs) (hbs:∀c∈bs,0≤c∧c<256) (hk:k≤bs.length) (hn:bs.length≤140737488351232) (hm:most≤1000000000000):
  Fn Tryz.prog 79 #[.pointer (some ⟨b,0,none⟩), .int .i64 (most:Int)] G [rdB b BA bs.length bc k f] fun e G' H'=>∃n k' f',e= .returned (.int .i64 ((n:Nat):Int))∧G=G'∧n≤most∧Rd encU (fun n=>n≤most) bs k f n k' f'∧H'=[rdB b BA bs.length bc k' f']:=by
 refine Fn.mono (count_fn G b BA bs bc k f most hB hbs hk hn (by omega) (by omega)) fun e G' H' h=>?_
 obtain⟨he,rfl,rfl⟩:=h
 subst he
 have hr:=rd_uint hbs hk f most (by omega)
 obtain⟨h1,h2,h3,_,h5⟩:=cntR_le (bs:=bs) (most:=(most:Int)) (k:=k) (f:=f) hbs hk (by omega)
 generalize cntR bs most k f=q at hr h1 h2 h3 h5⊢
 obtain⟨q1,q2,q3⟩:=q
 dsimp only at hr h1 h2 h3 h5⊢
 obtain⟨n,rfl⟩:∃n:Nat,q1=(n:Int):=⟨q1.toNat,by omega⟩
 rw[Int.toNat_natCast]at hr
 exact⟨n,q2,q3,rfl,rfl,by omega,hr,rfl⟩
def ptLm (x:Pt):Prop:=(x.path.size:Int)≤4096
structure RP1 where
 b6:Nat
 vs:List V
 A:Option Addr
 c:Nat
 ps:List Pr
 PA:Option Addr
 pc:Nat
 k:Nat
 f:Int×Int
 G:Gh
structure RP2 where
 i:Nat
 ts:List Pt
 A:Option Addr
 c:Nat
 o:Own
 k:Nat
 f:Int×Int
 G:Gh
structure RP3 where
 b7:Nat
 p:ByteArray
 s:ByteArray
 n:Nat
 k:Nat
 f:Int×Int
def zPg:Array Value:= #[.slice none 0 0, .slice none 0 0, .slice none 0 0]
theorem GLim.zero:GLim [] [] []:=⟨by decide,by decide,by decide,fun q h=>(by cases h),fun q h=>(by cases h)⟩
set_option maxRecDepth 20000 in
set_option maxHeartbeats 8000000 in
theorem pgRead_fn (G:Gh) (hE:Env G) (A:Option Addr) (bs:List Int) (cap:Nat) (hA:Sl (Kd.int .u8) G A bs) (hbs:∀c∈bs,0≤c∧c<256) (hl:bs.length≤140737488351232):
  Fn Tryz.prog 32 #[.slice A bs.length cap] G [] fun e G' H'=>∃cs prs pts CA PA QA cc pc qc w,e= .returned (.tuple #[.agg #[.slice CA (cs:List V).length cc, .slice PA (prs:List Pr).length pc, .slice QA (pts:List Pt).length qc], .agg #[.int .i64 w, .int .i64 0]])∧G.le G'∧Sl Kd.val G' CA cs∧Sl Kd.prc G' PA prs∧Sl Kd.pnt G' QA pts∧GLim cs prs pts∧
   ((w=0∧(progAns cs prs pts).2.2=0∧okG ⟨cs,prs,pts⟩∧bs=magP++encG ⟨cs,prs,pts⟩∧∀x,okG x→bs=magP++encG x→x=⟨cs,prs,pts⟩)∨(w=220∧∀x,okG x→(progAns x.cs x.prs x.pts).2.2=0→bs≠magP++encG x))∧H'=[]:=by
 refine Fn.enter Tryz.func32 rfl rfl fun w0=>?_
 refine WC.seq ?_
 refine WC.region ?_
 refine WL.oo (OW.alloc rfl fun b2=>?_)
 refine WL.oo (OW.alloc rfl fun b3=>?_)
 refine gom ?_
 refine WL.oo (OW.callK rfl (begin_fn G A bs cap hA hbs hl ⟨#[116,80,49]⟩ rfl) rfl fun v' G' H' h hg=>?_)
 obtain⟨rb,RA,rc,ok,k0,f0,he,hg1,hrc,hR,hbeg,rfl⟩:=h
 cases he
 obtain⟨G1,rfl⟩:∃G1,G1=G':=⟨_,rfl⟩
 have hk0:=hbeg.1
 refine gom ?_
 refine WL.oo (OW.alloc rfl fun b4=>?_)
 refine go ?_
 refine WC.joinG (X:=RP1) (fun t=>[(2, .pointer (some ⟨b2,0,none⟩)),(3, .pointer (some ⟨b3,0,none⟩)),(4, .pointer (some ⟨b4,0,none⟩)),(5, .bool ok),(6, .pointer (some ⟨t.b6,0,none⟩))]) (fun t=>t.G) (fun t=>[rdB rb RA bs.length rc t.k t.f, .blk t.b6 (.cells #[.slice t.A t.vs.length t.c, .slice t.PA t.ps.length t.pc, .slice none 0 0] 27 (0,0)),bxB b4 rb, .blk b3 (.cells #[.int .i64 0, .int .i64 0] 77 (0,0)), .blk b2 (.cells zPg 27 (0,0))])
  (fun t=>G1.le t.G∧t.vs.length≤65536∧(t.ps.length≤4096∧∀p∈t.ps,prLm p)∧Sl Kd.val t.G t.A t.vs∧Sl Kd.prc t.G t.PA t.ps∧∃k1 f1,Rd (encN enV) (okN 65536 okVl) bs k0 f0 t.vs k1 f1∧Rd (encN enP) (okN 4096 okPr) bs k1 f1 t.ps t.k t.f) ?_ fun t ht=>?_
 ·refine WC.pick [rdB rb RA bs.length rc k0 f0,bxB b4 rb, .blk b3 (.cells #[.int .i64 0, .int .i64 0] 77 (0,0)), .blk b2 (.cells zPg 27 (0,0))] ?_
  refine WC.drawS (Hs:=[bxB b4 rb]) mixed pkA ?_
  refine zb.ld 0 ?_
  refine zb.ld 2 ?_
  refine WB.two (i:=1) (j:=5) kr rfl rfl kr kr (OW.callK rfl (vals3_fn G1 rb RA bs rc k0 f0 hR hbs hk0 hl hrc 65536 (by decide)) rfl fun v' G' H' h hg=>?_) (OW.alloc rfl fun b6=>?_)
  ·obtain⟨VA,vs,vc,k1,f1,he,hg2,hvl,hV,hr1,rfl⟩:=h
   cases he
   obtain⟨G2,rfl⟩:∃G2,G2=G':=⟨_,rfl⟩
   refine⟨fun w hw=>(hw.pk pkA).le hg2,?_⟩
   refine WB.two (i:=3) (j:=5) kr rfl rfl kr kr (OW.callK rfl (procs3_fn G2 rb RA bs rc k1 f1 (hR.mono hg2) hbs hr1.le hl hrc 4096 (by decide)) rfl fun v' G' H' h hg=>?_) (OW.alloc rfl fun b6=>?_)
   ·obtain⟨PA,ps,pc,k2,f2,he,hg3,hpl,hP,hr2,rfl⟩:=h
    cases he
    obtain⟨G3,rfl⟩:∃G3,G3=G':=⟨_,rfl⟩
    have hg13:=Gh.le_trans hg2 hg3
    refine⟨fun w hw=>(hw.pk pkA).le hg13,?_⟩
    refine zb.build 4 ?_
    refine WB.oo 5 rfl (OW.alloc rfl fun b6=>?_)
    refine⟨fun w hw=>(hw.pk pkA).le hg13,?_⟩
    refine zb.st 6 ?_
    refine⟨fun w hw=>(hw.pk pkA).le hg13,?_⟩
    refine WB.done kr ?_
    refine WK.un ?_
    refine WK.pick [rdB rb RA bs.length rc k2 f2, .blk b6 (.cells #[.slice VA vs.length vc, .slice PA ps.length pc, .slice none 0 0] 27 (0,0)),bxB b4 rb, .blk b3 (.cells #[.int .i64 0, .int .i64 0] 77 (0,0)), .blk b2 (.cells zPg 27 (0,0))] ?_
    exact WK.meet ⟨b6,vs,VA,vc,ps,PA,pc,k2,f2,G3⟩ ⟨hg13,hvl,hpl,hV.mono hg3,hP,k1,f1,hr1,hr2⟩ (by exact⟨rfl,rfl,rfl,rfl,rfl,trivial⟩) rfl (List.Sublist.refl _)
   ·refine⟨fun w hw=>(hw.pk pkA).le hg2,?_⟩
    refine WB.oo 3 rfl (OW.callK rfl (procs3_fn G2 rb RA bs rc k1 f1 (hR.mono hg2) hbs hr1.le hl hrc 4096 (by decide)) rfl fun v' G' H' h hg=>?_)
    obtain⟨PA,ps,pc,k2,f2,he,hg3,hpl,hP,hr2,rfl⟩:=h
    cases he
    obtain⟨G3,rfl⟩:∃G3,G3=G':=⟨_,rfl⟩
    have hg13:=Gh.le_trans hg2 hg3
    refine⟨fun w hw=>(hw.pk pkA).le hg13,?_⟩
    refine zb.build 4 ?_
    refine zb.st 6 ?_
    refine⟨fun w hw=>(hw.pk pkA).le hg13,?_⟩
    refine WB.done kr ?_
    refine WK.un ?_
    refine WK.pick [rdB rb RA bs.length rc k2 f2, .blk b6 (.cells #[.slice VA vs.length vc, .slice PA ps.length pc, .slice none 0 0] 27 (0,0)),bxB b4 rb, .blk b3 (.cells #[.int .i64 0, .int .i64 0] 77 (0,0)), .blk b2 (.cells zPg 27 (0,0))] ?_
    exact WK.meet ⟨b6,vs,VA,vc,ps,PA,pc,k2,f2,G3⟩ ⟨hg13,hvl,hpl,hV.mono hg3,hP,k1,f1,hr1,hr2⟩ (by exact⟨rfl,rfl,rfl,rfl,rfl,trivial⟩) rfl (List.Sublist.refl _)
  ·refine⟨fun w hw=>hw.pk pkA,?_⟩
   refine WB.oo 1 rfl (OW.callK rfl (vals3_fn G1 rb RA bs rc k0 f0 hR hbs hk0 hl hrc 65536 (by decide)) rfl fun v' G' H' h hg=>?_)
   obtain⟨VA,vs,vc,k1,f1,he,hg2,hvl,hV,hr1,rfl⟩:=h
   cases he
   obtain⟨G2,rfl⟩:∃G2,G2=G':=⟨_,rfl⟩
   refine⟨fun w hw=>(hw.pk pkA).le hg2,?_⟩
   refine WB.oo 3 rfl (OW.callK rfl (procs3_fn G2 rb RA bs rc k1 f1 (hR.mono hg2) hbs hr1.le hl hrc 4096 (by decide)) rfl fun v' G' H' h hg=>?_)
   obtain⟨PA,ps,pc,k2,f2,he,hg3,hpl,hP,hr2,rfl⟩:=h
   cases he
   obtain⟨G3,rfl⟩:∃G3,G3=G':=⟨_,rfl⟩
   have hg13:=Gh.le_trans hg2 hg3
   refine⟨fun w hw=>(hw.pk pkA).le hg13,?_⟩
   refine zb.build 4 ?_
   refine zb.st 6 ?_
   refine⟨fun w hw=>(hw.pk pkA).le hg13,?_⟩
   refine WB.done kr ?_
   refine WK.un ?_
   refine WK.pick [rdB rb RA bs.length rc k2 f2, .blk b6 (.cells #[.slice VA vs.length vc, .slice PA ps.length pc, .slice none 0 0] 27 (0,0)),bxB b4 rb, .blk b3 (.cells #[.int .i64 0, .int .i64 0] 77 (0,0)), .blk b2 (.cells zPg 27 (0,0))] ?_
   exact WK.meet ⟨b6,vs,VA,vc,ps,PA,pc,k2,f2,G3⟩ ⟨hg13,hvl,hpl,hV.mono hg3,hP,k1,f1,hr1,hr2⟩ (by exact⟨rfl,rfl,rfl,rfl,rfl,trivial⟩) rfl (List.Sublist.refl _)
 obtain⟨b6,vs,VA,vc,ps,PA,pc,k2,f2,G2⟩:=t
 obtain⟨hg2,hvl,⟨hpl,hpb⟩,hV,hP,k1,f1,hr1,hr2⟩:=ht
 dsimp only at hg2 hvl hpl hpb hV hP hr2
 dsimp only
 have hg02:=Gh.le_trans hg1 hg2
 have hR2:=hR.mono hg2
 refine gom ?_
 refine WL.oo (OW.callK rfl (cnt2_fn G2 rb RA bs rc k2 f2 hR2 hbs hr2.le hl 1073741824 (by decide)) rfl fun v' G' H' h hg=>?_)
 obtain⟨n,k3,f3,he,rfl,hnm,hn0,hr3,rfl⟩:=h
 cases he
 refine zw.move ?_
 refine WL.nil ?_
 refine WK.un ?_
 refine WC.joinG (X:=RP2) (fun t=>[(2, .pointer (some ⟨b2,0,none⟩)),(3, .pointer (some ⟨b3,0,none⟩)),(4, .pointer (some ⟨b4,0,none⟩)),(5, .bool ok),(6, .pointer (some ⟨b6,0,none⟩))]) (fun t=>t.G) (fun t=>[rdB rb RA bs.length rc t.k t.f, .blk b6 (.cells #[.slice VA vs.length vc, .slice PA ps.length pc, .slice t.A t.ts.length t.c] 27 (0,0)),bxB b4 rb, .blk b3 (.cells #[.int .i64 0, .int .i64 0] 77 (0,0)), .blk b2 (.cells zPg 27 (0,0))])
  (fun t=>G2.le t.G∧(t.ts.length≤1073741824∧∀q∈t.ts,ptLm q)∧Sl Kd.pnt t.G t.A t.ts∧Rd (encN enT) (okN 1073741824 okPt) bs k2 f2 t.ts t.k t.f) ?_ fun t ht=>?_
 ·
  refine gom ?_
  refine WC.nothing ?_
  refine WC.loop (X:=RP2) (fun t=>[(2, .pointer (some ⟨b2,0,none⟩)),(3, .pointer (some ⟨b3,0,none⟩)),(4, .pointer (some ⟨b4,0,none⟩)),(5, .bool ok),(6, .pointer (some ⟨b6,0,none⟩)),(21, .int .i64 (n:Int)),(22, .int .i64 (t.i:Int))]) (fun t=>t.G) (fun t=>[t.o,rdB rb RA bs.length rc t.k t.f, .blk b6 (.cells #[.slice VA vs.length vc, .slice PA ps.length pc, .slice t.A t.ts.length t.c] 27 (0,0)),bxB b4 rb, .blk b3 (.cells #[.int .i64 0, .int .i64 0] 77 (0,0)), .blk b2 (.cells zPg 27 (0,0))]) (fun t=>n - t.i)
   (fun t=>t.i≤n∧t.ts.length=t.i∧G2.le t.G∧(∀q∈t.ts,ptLm q)∧Rd (encL enT) (fun l=>l.length=t.i∧∀a∈l,okPt a) bs k3 f3 t.ts t.k t.f∧KVec Kd.pnt 54 t.G t.A t.c t.ts t.o)
   ⟨0,[],none,0, .spare 0 0 0,k3,f3,G2⟩ ⟨Nat.zero_le _,rfl,Gh.le_refl _,fun q hq=>(by cases hq),rd_nil hr3.le f3,KVec.nil⟩ (by exact⟨rfl,rfl,rfl,rfl,rfl,rfl,rfl,trivial⟩) rfl (List.Sublist.refl _) fun x hx=>?_
  obtain⟨i,ts,TA,tc,o1,k4,f4,G3⟩:=x
  obtain⟨hi,hnl,hg3,hnb,hr4,hv⟩:=hx
  dsimp only at hi hnl hg3 hnb hr4 hv
  have x2:=wrapS i (by omega)
  by_cases hlt:i<n
  rotate_left
  ·have e2:decide ((i:Int)<(n:Int))=false:=decide_eq_false (by omega)
   obtain rfl:i=n:=by omega
   refine gom ?_
   refine WK.freezeK (by decide) hv atA fun G7 hg7 hS=>?_
   refine WK.pick [rdB rb RA bs.length rc k4 f4, .blk b6 (.cells #[.slice VA vs.length vc, .slice PA ps.length pc, .slice TA ts.length tc] 27 (0,0)),bxB b4 rb, .blk b3 (.cells #[.int .i64 0, .int .i64 0] 77 (0,0)), .blk b2 (.cells zPg 27 (0,0))] ?_
   exact WK.meet ⟨0,ts,TA,tc,o1,k4,f4,G7⟩ ⟨Gh.le_trans hg3 hg7,⟨by dsimp only;omega,hnb⟩,hS,Rd.list hr3 hr4⟩ (by exact⟨rfl,rfl,rfl,rfl,rfl,trivial⟩) rfl (List.Sublist.refl _)
  have e2:decide ((i:Int)<(n:Int))=true:=decide_eq_true (by omega)
  have hR3:=hR2.mono hg3
  refine go ?_
  refine WC.joinG (X:=RP3) (fun t=>[(2, .pointer (some ⟨b2,0,none⟩)),(3, .pointer (some ⟨b3,0,none⟩)),(4, .pointer (some ⟨b4,0,none⟩)),(5, .bool ok),(6, .pointer (some ⟨b6,0,none⟩)),(21, .int .i64 (n:Int)),(22, .int .i64 (i:Int)),(7, .pointer (some ⟨t.b7,0,none⟩))]) (fun _=>G3) (fun t=>[.blk t.b7 (.cells #[.string t.p, .string t.s, .int .i64 (t.n:Int)] 54 (0,0)),o1,rdB rb RA bs.length rc t.k t.f, .blk b6 (.cells #[.slice VA vs.length vc, .slice PA ps.length pc, .slice TA ts.length tc] 27 (0,0)),bxB b4 rb, .blk b3 (.cells #[.int .i64 0, .int .i64 0] 77 (0,0)), .blk b2 (.cells zPg 27 (0,0))])
   (fun t=>(t.p.size:Int)≤4096∧Rd enT okPt bs k4 f4 ⟨t.p,t.s,(t.n:Int)⟩ t.k t.f) ?_ fun t ht=>?_
  ·refine WC.drawS (Hs:=[bxB b4 rb]) mixed pkA ?_
   refine zb.fa 0 ?_
   refine zb.ld 1 ?_
   refine zb.fa 3 ?_
   refine zb.fa 6 ?_
   refine zb.ld 4 ?_
   refine zb.ld 7 ?_
   refine WB.two (i:=2) (j:=10) kr rfl rfl kr kr (OW.callK rfl (rText2_fn G3 rb RA bs rc k4 f4 hR3 hbs hr4.le hl hrc 4096 (by decide) (by decide)) rfl fun v' G' H' h hg=>?_) (OW.alloc rfl fun b7=>?_)
   ·obtain⟨np,k5,f5,he,rfl,hnp,hr5,rfl⟩:=h
    cases he
    refine⟨fun w hw=>hw.pk pkA,?_⟩
    refine WB.two (i:=5) (j:=10) kr rfl rfl kr kr (OW.callK rfl (rText2_fn G3 rb RA bs rc k5 f5 hR3 hbs hr5.le hl hrc 32 (by decide) (by decide)) rfl fun v' G' H' h hg=>?_) (OW.alloc rfl fun b7=>?_)
    ·obtain⟨nm,k6,f6,he,rfl,hnm2,hr6,rfl⟩:=h
     cases he
     refine⟨fun w hw=>hw.pk pkA,?_⟩
     refine WB.two (i:=8) (j:=10) kr rfl rfl kr kr (OW.callK rfl (count3_fn G3 rb RA bs rc k6 f6 4096 hR3 hbs hr6.le hl (by decide)) rfl fun v' G' H' h hg=>?_) (OW.alloc rfl fun b7=>?_)
     ·obtain⟨m,k7,f7,he,rfl,hmm,hr7,rfl⟩:=h
      cases he
      refine⟨fun w hw=>hw.pk pkA,?_⟩
      refine zb.build 9 ?_
      refine WB.oo 10 rfl (OW.alloc rfl fun b7=>?_)
      refine⟨fun w hw=>hw.pk pkA,?_⟩
      refine zb.st 11 ?_
      refine⟨fun w hw=>hw.pk pkA,?_⟩
      refine WB.done kr ?_
      refine WK.un ?_
      refine WK.pick [.blk b7 (.cells #[.string np, .string nm, .int .i64 (m:Int)] 54 (0,0)),o1,rdB rb RA bs.length rc k7 f7, .blk b6 (.cells #[.slice VA vs.length vc, .slice PA ps.length pc, .slice TA ts.length tc] 27 (0,0)),bxB b4 rb, .blk b3 (.cells #[.int .i64 0, .int .i64 0] 77 (0,0)), .blk b2 (.cells zPg 27 (0,0))] ?_
      exact WK.meet ⟨b7,np,nm,m,k7,f7⟩ ⟨hnp,rd_point hr5 hr6 hr7⟩ (by exact⟨rfl,rfl,rfl,rfl,rfl,rfl,rfl,rfl,trivial⟩) rfl (List.Sublist.refl _)
     ·refine⟨fun w hw=>hw.pk pkA,?_⟩
      refine WB.oo 8 rfl (OW.callK rfl (count3_fn G3 rb RA bs rc k6 f6 4096 hR3 hbs hr6.le hl (by decide)) rfl fun v' G' H' h hg=>?_)
      obtain⟨m,k7,f7,he,rfl,hmm,hr7,rfl⟩:=h
      cases he
      refine⟨fun w hw=>hw.pk pkA,?_⟩
      refine zb.build 9 ?_
      refine zb.st 11 ?_
      refine⟨fun w hw=>hw.pk pkA,?_⟩
      refine WB.done kr ?_
      refine WK.un ?_
      refine WK.pick [.blk b7 (.cells #[.string np, .string nm, .int .i64 (m:Int)] 54 (0,0)),o1,rdB rb RA bs.length rc k7 f7, .blk b6 (.cells #[.slice VA vs.length vc, .slice PA ps.length pc, .slice TA ts.length tc] 27 (0,0)),bxB b4 rb, .blk b3 (.cells #[.int .i64 0, .int .i64 0] 77 (0,0)), .blk b2 (.cells zPg 27 (0,0))] ?_
      exact WK.meet ⟨b7,np,nm,m,k7,f7⟩ ⟨hnp,rd_point hr5 hr6 hr7⟩ (by exact⟨rfl,rfl,rfl,rfl,rfl,rfl,rfl,rfl,trivial⟩) rfl (List.Sublist.refl _)
    ·refine⟨fun w hw=>hw.pk pkA,?_⟩
     refine WB.oo 5 rfl (OW.callK rfl (rText2_fn G3 rb RA bs rc k5 f5 hR3 hbs hr5.le hl hrc 32 (by decide) (by decide)) rfl fun v' G' H' h hg=>?_)
     obtain⟨nm,k6,f6,he,rfl,hnm2,hr6,rfl⟩:=h
     cases he
     refine⟨fun w hw=>hw.pk pkA,?_⟩
     refine WB.oo 8 rfl (OW.callK rfl (count3_fn G3 rb RA bs rc k6 f6 4096 hR3 hbs hr6.le hl (by decide)) rfl fun v' G' H' h hg=>?_)
     obtain⟨m,k7,f7,he,rfl,hmm,hr7,rfl⟩:=h
     cases he
     refine⟨fun w hw=>hw.pk pkA,?_⟩
     refine zb.build 9 ?_
     refine zb.st 11 ?_
     refine⟨fun w hw=>hw.pk pkA,?_⟩
     refine WB.done kr ?_
     refine WK.un ?_
     refine WK.pick [.blk b7 (.cells #[.string np, .string nm, .int .i64 (m:Int)] 54 (0,0)),o1,rdB rb RA bs.length rc k7 f7, .blk b6 (.cells #[.slice VA vs.length vc, .slice PA ps.length pc, .slice TA ts.length tc] 27 (0,0)),bxB b4 rb, .blk b3 (.cells #[.int .i64 0, .int .i64 0] 77 (0,0)), .blk b2 (.cells zPg 27 (0,0))] ?_
     exact WK.meet ⟨b7,np,nm,m,k7,f7⟩ ⟨hnp,rd_point hr5 hr6 hr7⟩ (by exact⟨rfl,rfl,rfl,rfl,rfl,rfl,rfl,rfl,trivial⟩) rfl (List.Sublist.refl _)
   ·refine⟨fun w hw=>hw.pk pkA,?_⟩
    refine WB.oo 2 rfl (OW.callK rfl (rText2_fn G3 rb RA bs rc k4 f4 hR3 hbs hr4.le hl hrc 4096 (by decide) (by decide)) rfl fun v' G' H' h hg=>?_)
    obtain⟨np,k5,f5,he,rfl,hnp,hr5,rfl⟩:=h
    cases he
    refine⟨fun w hw=>hw.pk pkA,?_⟩
    refine WB.oo 5 rfl (OW.callK rfl (rText2_fn G3 rb RA bs rc k5 f5 hR3 hbs hr5.le hl hrc 32 (by decide) (by decide)) rfl fun v' G' H' h hg=>?_)
    obtain⟨nm,k6,f6,he,rfl,hnm2,hr6,rfl⟩:=h
    cases he
    refine⟨fun w hw=>hw.pk pkA,?_⟩
    refine WB.oo 8 rfl (OW.callK rfl (count3_fn G3 rb RA bs rc k6 f6 4096 hR3 hbs hr6.le hl (by decide)) rfl fun v' G' H' h hg=>?_)
    obtain⟨m,k7,f7,he,rfl,hmm,hr7,rfl⟩:=h
    cases he
    refine⟨fun w hw=>hw.pk pkA,?_⟩
    refine zb.build 9 ?_
    refine zb.st 11 ?_
    refine⟨fun w hw=>hw.pk pkA,?_⟩
    refine WB.done kr ?_
    refine WK.un ?_
    refine WK.pick [.blk b7 (.cells #[.string np, .string nm, .int .i64 (m:Int)] 54 (0,0)),o1,rdB rb RA bs.length rc k7 f7, .blk b6 (.cells #[.slice VA vs.length vc, .slice PA ps.length pc, .slice TA ts.length tc] 27 (0,0)),bxB b4 rb, .blk b3 (.cells #[.int .i64 0, .int .i64 0] 77 (0,0)), .blk b2 (.cells zPg 27 (0,0))] ?_
    exact WK.meet ⟨b7,np,nm,m,k7,f7⟩ ⟨hnp,rd_point hr5 hr6 hr7⟩ (by exact⟨rfl,rfl,rfl,rfl,rfl,rfl,rfl,rfl,trivial⟩) rfl (List.Sublist.refl _)
  obtain⟨b7,np,nm,m,k6,f6⟩:=t
  obtain⟨hnp,hrn⟩:=ht
  dsimp only at hnp hrn
  dsimp only
  refine gom ?_
  refine WL.oo (OW.callK rfl (bad_fn G3 rb RA bs.length rc k6 f6) rfl fun v' G' H' h hg=>?_)
  obtain⟨he,rfl,rfl⟩:=h
  cases he
  by_cases hbad:f6=(0,0)
  rotate_left
  ·rw[decide_eq_false hbad]
   refine gom ?_
   refine WK.freezeK (by decide) hv atA fun G7 hg7 hS=>?_
   refine WK.pick [rdB rb RA bs.length rc k6 f6, .blk b6 (.cells #[.slice VA vs.length vc, .slice PA ps.length pc, .slice TA ts.length tc] 27 (0,0)),bxB b4 rb, .blk b3 (.cells #[.int .i64 0, .int .i64 0] 77 (0,0)), .blk b2 (.cells zPg 27 (0,0))] ?_
   exact WK.meet ⟨0,ts,TA,tc,o1,k6,f6,G7⟩ ⟨Gh.le_trans hg3 hg7,⟨by dsimp only;omega,hnb⟩,hS,Rd.list hr3 ((hr4.snoc hrn).stop hlt hbad)⟩ (by exact⟨rfl,rfl,rfl,rfl,rfl,trivial⟩) rfl (List.Sublist.refl _)
  rw[decide_eq_true hbad]
  refine gom ?_
  refine WL.op kr (OW.buildSlice rfl kr kr (by rfl) rfl fun b39=>?_)
  refine WL.oo (OW.append1 (k:=Kd.pnt) (u:=(⟨np,nm,(m:Int)⟩:Pt)) rfl rfl kr rfl hv atA atA rfl rfl (by omega) (by omega) rfl fun A8 c8 o8 hv8=>?_)
  refine gom ?_
  refine WK.pick [o8,rdB rb RA bs.length rc k6 f6, .blk b6 (.cells #[.slice VA vs.length vc, .slice PA ps.length pc, .slice A8 (ts++[(⟨np,nm,(m:Int)⟩:Pt)]).length c8] 27 (0,0)),bxB b4 rb, .blk b3 (.cells #[.int .i64 0, .int .i64 0] 77 (0,0)), .blk b2 (.cells zPg 27 (0,0))] ?_
  exact WK.again (X:=RP2) (x:=⟨i,ts,TA,tc,o1,k4,f4,G3⟩) (μ:=fun t=>n - t.i) ⟨i+1,ts++[⟨np,nm,(m:Int)⟩],A8,c8,o8,k6,f6,G3⟩ (by dsimp only;omega) ⟨by dsimp only;omega,by rw[List.length_append,hnl];rfl,hg3,fun q hq=>by
   rcases List.mem_append.1 hq with hq | hq
   ·exact hnb q hq
   ·obtain rfl:=List.mem_singleton.1 hq;exact hnp,hr4.snoc hrn,hv8⟩ (by exact⟨rfl,rfl,rfl,rfl,rfl,rfl,rfl,trivial⟩) rfl (List.Sublist.refl _)
 obtain⟨i9,ts,TA,tc,o9,k6,f6,G3⟩:=t
 obtain⟨hg3,⟨hnl,hnb⟩,hT,hr3⟩:=ht
 dsimp only at hg3 hnl hnb hT hr3
 dsimp only
 have hg03:=Gh.le_trans hg02 hg3
 have hro:=rd_pg hr1 hr2 hr3
 obtain⟨hsound,hfull⟩:=rd_end hbeg hro
 have hLo:GLim vs ps ts:=⟨by omega,by omega,by omega,fun q hq=>by have:=hnb q hq;unfold ptLm at this;omega,fun q hq=>by have:=hpb q hq;unfold prLm at this;omega⟩
 have hV3:=hV.mono hg3
 have hP3:=hP.mono hg3
 refine gom ?_
 refine WL.oo (OW.callK rfl (Program_fn G3 (hE.mono hg03) vs ps ts VA PA TA vc pc tc hV3 hP3 hT hLo) rfl fun v' G' H' h hg=>?_)
 obtain⟨he,hg5,rfl⟩:=h
 cases he
 obtain⟨G5,rfl⟩:∃G5,G5=G':=⟨_,rfl⟩
 have hg05:=Gh.le_trans hg03 hg5
 generalize hoa:(progAns vs ps ts).2.2=oa at hg5⊢
 refine zw.move ?_
 refine zw.ext ?_
 refine zw.ext ?_
 refine WL.oo (OW.alloc rfl fun b8=>?_)
 have hmg:strI ⟨#[116,80,49]⟩=magP:=by rfl
 rw[hmg]at hsound hfull
 cases ok with
 | false=>
  refine gom ?_
  refine WL.oo (OW.callK rfl (noneF_fn G5) rfl fun v' G' H' h hg=>?_)
  obtain⟨he,rfl,rfl⟩:=h
  cases he
  refine gom ?_
  refine WC.rt ?_
  exact QF.p2 (.inl rfl) rfl (.cell rfl inferInstance inferInstance atA rfl rfl) (.cell rfl inferInstance inferInstance atA rfl rfl) (⟨[],[],[],none,none,none,0,0,0,220,rfl,hg05,Sl.nil _ _ _,Sl.nil _ _ _,Sl.nil _ _ _,GLim.zero, .inr ⟨rfl,fun x ho _ he=>(by cases (hfull x ho he).1)⟩,rfl⟩)
 | true=>
 refine gom ?_
 refine WL.oo (OW.callK rfl (rend_fn G5 rb RA bs.length rc k6 f6 hro.le (by omega)) rfl fun v' G' H' h hg=>?_)
 obtain⟨he,rfl,rfl⟩:=h
 cases he
 generalize endF bs.length k6 f6=q at hsound hfull⊢
 obtain⟨q1,q2⟩:=q
 refine gom ?_
 refine WL.pp (Gp.neFault rfl rfl) ?_
 by_cases hq:(q1,q2)=((0:Int),(0:Int))
 rotate_left
 ·rw[decide_eq_false hq]
  refine gom ?_
  refine WL.oo (OW.callK rfl (noneF_fn G5) rfl fun v' G' H' h hg=>?_)
  obtain⟨he,rfl,rfl⟩:=h
  cases he
  refine gom ?_
  refine WC.rt ?_
  exact QF.p2 (.inl rfl) rfl (.cell rfl inferInstance inferInstance atA rfl rfl) (.cell rfl inferInstance inferInstance atA rfl rfl) (⟨[],[],[],none,none,none,0,0,0,220,rfl,hg05,Sl.nil _ _ _,Sl.nil _ _ _,Sl.nil _ _ _,GLim.zero, .inr ⟨rfl,fun x ho _ he=>absurd (hfull x ho he).2.1 hq⟩,rfl⟩)
 rw[decide_eq_true hq]
 by_cases hz:oa=0
 rotate_left
 ·have e5:(oa != 0)=true:=by rw[bne_iff_ne];exact hz
  refine gom ?_
  refine WL.oo (OW.callK rfl (noneF_fn G5) rfl fun v' G' H' h hg=>?_)
  obtain⟨he,rfl,rfl⟩:=h
  cases he
  refine gom ?_
  refine WC.rt ?_
  exact QF.p2 (.inl rfl) rfl (.cell rfl inferInstance inferInstance atA rfl rfl) (.cell rfl inferInstance inferInstance atA rfl rfl) (⟨[],[],[],none,none,none,0,0,0,220,rfl,hg05,Sl.nil _ _ _,Sl.nil _ _ _,Sl.nil _ _ _,GLim.zero, .inr ⟨rfl,fun x ho ha he=>(by have:=(hfull x ho he).2.2;rw[this]at ha;dsimp only at ha;rw[hoa]at ha;exact hz ha)⟩,rfl⟩)
 subst hz
 obtain⟨hok,hbs2⟩:=hsound rfl hq
 refine gom ?_
 refine WC.rt ?_
 exact QF.p2 (.inl rfl) rfl (.cell rfl inferInstance inferInstance atA rfl rfl) (.cell rfl inferInstance inferInstance atA rfl rfl) (⟨vs,ps,ts,VA,PA,TA,vc,pc,tc,0,rfl,hg05,hV3.mono hg5,hP3.mono hg5,hT.mono hg5,hLo, .inl ⟨rfl,hoa,hok,hbs2,fun x ho he=>(hfull x ho he).2.2⟩,rfl⟩)
end
section
open Go.RowKit Go.ChangeShapes Go.WideShapes Go.MapKept
theorem bulk_app {H:Type} (a b:List (DataW H)):Rows.uptoBulkAll (a++b)=Rows.uptoBulkAll a+Rows.uptoBulkAll b:=by
 induction a with
 | nil=>simp[Rows.uptoBulkAll]
 | cons x r ih=>simp only[List.cons_append,Rows.uptoBulkAll];omega
theorem bulk_take {H:Type} {l:List (DataW H)} {i:Nat} {d:DataW H} (h:l[i]? =some d):Rows.uptoBulkAll (l.take (i+1))=Rows.uptoBulkAll (l.take i)+Rows.uptoBulk d:=by
 rw[take_snoc' h,bulk_app];simp[Rows.uptoBulkAll]
theorem bulk_take_le {H:Type} (l:List (DataW H)) (i:Nat):Rows.uptoBulkAll (l.take i)≤Rows.uptoBulkAll l:=by
 have h:=bulk_app (l.take i) (l.drop i)
 rw[List.take_append_drop]at h
 omega
theorem sum_mem {α:Type} {m:α→Nat} {l:List α} {x:α} (h:x∈l):m x≤(l.map m).sum:=by
 induction l with
 | nil=>cases h
 | cons y r ih=>
  simp only[List.map_cons,List.sum_cons]
  rcases List.mem_cons.1 h with rfl | h
  ·omega
  ·have:=ih h;omega
theorem sum_len {α:Type} {m:α→Nat} (l:List α) (h:∀x∈l,1≤m x):l.length≤(l.map m).sum:=by
 induction l with
 | nil=>simp
 | cons y r ih=>
  have h1:=h y List.mem_cons_self
  have h2:=ih fun x hx=>h x (List.mem_cons_of_mem _ hx)
  simp only[List.map_cons,List.sum_cons,List.length_cons]
  omega
section
variable {H:Type} (enc:TypeId×Value→H) (P:Program) (w:World)
def OpensW (t:TypeId) {α:Type} (k:Kd α) (m:α→Nat) (B:α→Prop):Prop:=
 ∀fuel cs d ps,DataW.trod enc P w 0 (fun _=>true) true fuel t cs=some (d,ps)→Rows.uptoBulk d≤1048576→∃a,k.K (Gw w) a cs∧m a≤Rows.uptoBulk d∧B a
theorem OpensW.int {t:TypeId} {i:IntKind} (ht:P.underlying t=some (.int i)):OpensW enc P w t (Kd.int i) (fun _=>1) (fun n=>(Lit.int i n).wf=true):=
 fun fuel cs d ps e _=>let ⟨n,h1,_,h3⟩:=DataW.trod_int ht e;⟨n,h1,bulk_one d,h3⟩
theorem OpensW.bool {t:TypeId} (ht:P.underlying t=some .bool):OpensW enc P w t Kd.bool (fun _=>1) (fun _=>True):=
 fun fuel cs d ps e _=>let ⟨n,h1,_⟩:=DataW.trod_bool ht e;⟨n,h1,bulk_one d,trivial⟩
theorem OpensW.str {t:TypeId} (ht:P.underlying t=some .string):OpensW enc P w t Kd.str (fun s=>s.size+1) (fun _=>True):=
 fun fuel cs d ps e hw=>by
  obtain⟨s,h1,h2,h3⟩:=DataW.trod_string ht e
  obtain⟨rfl,rfl⟩:=Prod.mk.inj h2
  refine⟨s,h1,?_,trivial⟩
  simp only[Rows.uptoBulk,Array.length_toList]
  exact Nat.le_refl _
theorem OpensW.slice {t e:TypeId} {α:Type} {k:Kd α} {m:α→Nat} {B:α→Prop} (ht:P.underlying t=some (.slice e)) (hc:P.cellsOf e=k.n) (h0:0<k.n) (h:OpensW enc P w e k m B):
  OpensW enc P w t (Kd.slice k) (fun xs=>(xs.map m).sum+1) (fun xs=>∀x∈xs,B x):=by
 intro fuel cs d ps hd hw
 rcases DataW.trod_slice ht hd with⟨rfl,_⟩ | ⟨a,len,cap,elems,rest,n,_,rfl,hx,_,hl,_,hlen,hel,_,_⟩
 ·exact⟨[],⟨none,0,rfl,Nat.le_refl _,Sl.nil _ _ _⟩,by simpa using bulk_one d,by simp⟩
 ·obtain ⟨rfl,rfl⟩:=Prod.mk.inj hx
  simp only[Rows.uptoBulk]at hw
  have hwe:∀(j:Nat) (d':DataW H),(elems.map (·.1))[j]? =some d'→Rows.uptoBulk d'≤1048576:=fun j d' hj=>by
   have:=bulk_part (List.mem_of_getElem? hj);omega
  have one:∀i,i<len→∃y cs' d',w.cells? 0 (a.add (i*P.cellsOf e)) (P.cellsOf e)=some cs'∧k.K (Gw w) y cs'∧(elems.map (·.1))[i]? =some d'∧m y≤Rows.uptoBulk d'∧B y:=by
   intro i hi
   have hi':=hel i hi
   have he:i<elems.length:=by omega
   cases hcs:w.cells? 0 (a.add (i*P.cellsOf e)) (P.cellsOf e)with
   | none=>
    rw[hcs,List.getElem?_eq_getElem he]at hi'
    cases hi'
   | some cs'=>
    rw[hcs,List.getElem?_eq_getElem he]at hi'
    simp only[Option.bind_some]at hi'
    have hd':(elems.map (·.1))[i]? =some (elems[i]).1:=by rw[List.getElem?_map,List.getElem?_eq_getElem he];rfl
    obtain⟨y,h1,h2,h3⟩:=h n cs' _ _ hi' (hwe i _ hd')
    exact⟨y,cs',_,rfl,h1,hd',h2,h3⟩
  have all:∀q,q≤len→∃xs:List α,xs.length=q∧(∀x∈xs,B x)∧(xs.map m).sum≤Rows.uptoBulkAll ((elems.map (·.1)).take q)∧∀i x,xs[i]? =some x→∃cs',w.cells? 0 (a.add (i*P.cellsOf e)) (P.cellsOf e)=some cs'∧k.K (Gw w) x cs':=by
   intro q
   induction q with
   | zero=>exact fun _=>⟨[],rfl,by simp,by simp,by simp⟩
   | succ q ih=>
    intro hm
    obtain⟨xs,e1,e2,e4,e3⟩:=ih (by omega)
    obtain⟨y,cs',d',h1,h2,h3,h4,h5⟩:=one q (by omega)
    refine⟨xs++[y],by simp[e1],fun x hx=>?_,?_,fun i x hx=>?_⟩
    ·rcases List.mem_append.1 hx with hx | hx
     ·exact e2 x hx
     ·simp at hx;subst hx;exact h5
    ·rw[bulk_take h3,List.map_append,List.sum_append]
     simp only[List.map_cons,List.map_nil,List.sum_cons,List.sum_nil]
     omega
    ·rcases Nat.lt_or_ge i xs.length with hi | hi
     ·rw[List.getElem?_append_left hi]at hx;exact e3 i x hx
     ·have:i=q:=by have:=(List.getElem?_eq_some_iff.1 hx).1;simp at this;omega
      subst this
      rw[List.getElem?_append_right hi]at hx
      simp[e1]at hx
      subst hx
      exact⟨cs',h1,h2⟩
  obtain⟨xs,e1,e2,e4,e3⟩:=all len (Nat.le_refl _)
  have h5:=bulk_take_le (elems.map (·.1)) len
  refine⟨xs,⟨some a,cap,by rw[e1],by omega,fun i x hx=>?_⟩,by simp only[Rows.uptoBulk];omega,e2⟩
  have hi:=(List.getElem?_eq_some_iff.1 hx).1
  obtain⟨cs0,h10,h20⟩:=e3 0 _ (List.getElem?_eq_getElem (by omega:0<xs.length))
  obtain⟨h30,h40⟩:=cells_get w h10
  have hsp:=cell_plain w (h40 0 _ (List.getElem?_eq_getElem (by rw[h30,hc];exact h0)))
  obtain⟨cs',h1,h2⟩:=e3 i x hx
  obtain⟨h3,h4⟩:=cells_get w h1
  obtain⟨ab,ao,asp⟩:=a
  obtain rfl:asp=none:=by simpa [Addr.add]using hsp
  refine⟨ab,ao,cs',rfl,h2,fun j v e=>?_⟩
  have h5:=h4 j v e
  rw[hc]at h5
  have e5:((⟨ab,ao,none⟩:Addr).add (i*k.n)).add j=⟨ab,ao+i*k.n+j,none⟩:=by
   unfold Addr.add
   split<;>split<;>simp_all
  rw[e5]at h5
  exact h5
theorem field_openW {t:TypeId} {fs:Array Field} {fuel:Nat} {cs:List Value} {d:DataW H} {ps:List MemPlace} (ht:P.underlying t=some (.struct fs)) (hd:DataW.trod enc P w 0 (fun _=>true) true fuel t cs=some (d,ps)) (hw:Rows.uptoBulk d≤1048576):
  cs.length=P.cellsOf t∧∃ds:List (DataW H),ds.length=fs.size∧Rows.uptoBulk d=Rows.uptoBulkAll ds+1∧∀(i:Nat) (f:Field),fs[i]? =some f→∀ {t' o n:Nat},f.type=t'→f.offset=o→P.cellsOf t'=n→∀ {α:Type} {k:Kd α} {m:α→Nat} {B:α→Prop},OpensW enc P w t' k m B→∃a,k.K (Gw w) a ((cs.drop o).take n)∧(∀x,ds[i]? =some x→m a≤Rows.uptoBulk x)∧B a:=by
 obtain⟨xs,n,_,hx,hl,hn,hf⟩:=DataW.trod_struct ht hd
 obtain⟨rfl,rfl⟩:=Prod.mk.inj hx
 refine⟨hl,xs.map (·.1),by rw[List.length_map,hn],by simp only[Rows.uptoBulk],fun i f hi t' o n' e1 e2 e3 α k m B hO=>?_⟩
 subst e1 e2 e3
 have h1:=hf i f hi
 have hilt:i<xs.length:=by rw[hn];exact(Array.getElem?_eq_some_iff.1 hi).1
 rw[List.getElem?_eq_getElem hilt]at h1
 have hd':(xs.map (·.1))[i]? =some (xs[i]).1:=by rw[List.getElem?_map,List.getElem?_eq_getElem hilt];rfl
 simp only[Rows.uptoBulk]at hw
 obtain⟨y,h2,h3,h4⟩:=hO n _ _ _ h1 (Nat.le_trans (bulk_part (List.mem_of_getElem? hd')) (by omega))
 exact⟨y,h2,fun x hx=>by rw[hd']at hx;cases hx;exact h3,h4⟩
end
def mV (v:V):Nat:=v.s.size+1
def mNd (n:Nd):Nat:=n.path.size+n.name.size+n.params.length+1
def mPr (p:Pr):Nat:=p.name.size+p.params.length+p.code.length+1
def mOb (o:Ob):Nat:=o.path.size+(o.consts.map mV).sum+(o.needs.map mNd).sum+(o.procs.map mPr).sum+1
def i64 (z:Int):Prop:=(Lit.int .i64 z).wf=true
structure OInt (o:Ob):Prop where
 cs:∀v∈o.consts,i64 v.t∧i64 v.i
 nd:∀n∈o.needs,i64 n.result∧∀t∈n.params,i64 t
 pr:∀p∈o.procs,i64 p.locals∧i64 p.result∧(∀t∈p.params,i64 t)∧∀i∈p.code,i64 i.1∧i64 i.2
theorem olim_of {o:Ob} (h:mOb o≤1048576):OLim o:=by
 have h':=h
 unfold mOb at h'
 have a1:=sum_len (m:=mV) o.consts fun x _=>by unfold mV;omega
 have a2:=sum_len (m:=mNd) o.needs fun x _=>by unfold mNd;omega
 have a3:=sum_len (m:=mPr) o.procs fun x _=>by unfold mPr;omega
 refine⟨by omega,by omega,by omega,by omega,fun q hq=>?_,fun q hq=>?_⟩
 ·have:q.path.size+q.name.size+q.params.length+1≤(o.needs.map mNd).sum:=sum_mem (m:=mNd) hq
  omega
 ·have:q.name.size+q.params.length+q.code.length+1≤(o.procs.map mPr).sum:=sum_mem (m:=mPr) hq
  omega
section
attribute [local irreducible] Tryz.prog
variable {H:Type} (enc:TypeId×Value→H) (w:World)
theorem sum_ones {α:Type} (l:List α):(l.map fun _=>1).sum=l.length:=by
 induction l with
 | nil=>rfl
 | cons x r ih=>simp only[List.map_cons,List.sum_cons,List.length_cons,ih];omega
theorem OpensW.value:OpensW enc Tryz.prog w 52 Kd.val mV (fun v=>i64 v.t∧i64 v.i):=by
 intro fuel cs d ps hd hw
 obtain⟨hl,ds,hds,hb,hf⟩:=field_openW enc Tryz.prog w Tryz.underlying52 hd hw
 obtain⟨c0,c1,c2,c3,rfl⟩:=elist4 (hl.trans ecellsV)
 obtain⟨d0,d1,d2,d3,rfl⟩:=elist4 hds
 obtain⟨t,h0,_,b0⟩:=hf 0 _ rfl rfl rfl ecells_typ (OpensW.int enc Tryz.prog w Tryz.underlying44)
 obtain⟨i,h1,_,b1⟩:=hf 1 _ rfl rfl rfl ecells_i64 (OpensW.int enc Tryz.prog w Tryz.underlying2)
 obtain⟨b,h2,_⟩:=hf 2 _ rfl rfl rfl ecells_bool (OpensW.bool enc Tryz.prog w Tryz.underlying4)
 obtain⟨s,h3,m3,_⟩:=hf 3 _ rfl rfl rfl ecells_str (OpensW.str enc Tryz.prog w Tryz.underlying9)
 have m3:=m3 _ rfl
 have e0:[c0]=[Value.int .i64 t]:=h0
 have e1:[c1]=[Value.int .i64 i]:=h1
 have e2:[c2]=[Value.bool b]:=h2
 have e3:[c3]=[Value.string s]:=h3
 cases e0;cases e1;cases e2;cases e3
 simp only[Rows.uptoBulkAll]at hb
 exact⟨⟨t,i,b,s⟩,rfl,by unfold mV;dsimp only;omega,b0,b1⟩
theorem OpensW.instr:OpensW enc Tryz.prog w 50 Kd.ins (fun _=>1) (fun i=>i64 i.1∧i64 i.2):=by
 intro fuel cs d ps hd hw
 obtain⟨hl,ds,hds,hb,hf⟩:=field_openW enc Tryz.prog w Tryz.underlying50 hd hw
 obtain⟨c0,c1,rfl⟩:=elist2 (hl.trans ecellsI)
 obtain⟨c,h0,_,b0⟩:=hf 0 _ rfl rfl rfl ecells_cod (OpensW.int enc Tryz.prog w Tryz.underlying48)
 obtain⟨n,h1,_,b1⟩:=hf 1 _ rfl rfl rfl ecells_int (OpensW.int enc Tryz.prog w Tryz.underlying3)
 have e0:[c0]=[Value.int .i64 c]:=h0
 have e1:[c1]=[Value.int .i64 n]:=h1
 cases e0;cases e1
 exact⟨(c,n),rfl,bulk_one d,b0,b1⟩
theorem OpensW.types:OpensW enc Tryz.prog w 43 (Kd.slice (Kd.int .i64)) (fun xs=>(xs.map fun _=>1).sum+1) (fun xs=>∀t∈xs,i64 t):=
 OpensW.slice enc Tryz.prog w Tryz.underlying43 (k:=Kd.int .i64) ecells_typ (by decide) (OpensW.int enc Tryz.prog w Tryz.underlying44)
theorem OpensW.proc:OpensW enc Tryz.prog w 47 Kd.prc mPr (fun p=>i64 p.locals∧i64 p.result∧(∀t∈p.params,i64 t)∧∀i∈p.code,i64 i.1∧i64 i.2):=by
 intro fuel cs d ps hd hw
 obtain⟨hl,ds,hds,hb,hf⟩:=field_openW enc Tryz.prog w Tryz.underlying47 hd hw
 obtain⟨c0,c1,c2,c3,c4,c5,rfl⟩:=elist6 (hl.trans ecellsP)
 obtain⟨d0,d1,d2,d3,d4,d5,rfl⟩:=elist6 hds
 obtain⟨nm,h0,m0,_⟩:=hf 0 _ rfl rfl rfl ecells_str (OpensW.str enc Tryz.prog w Tryz.underlying9)
 obtain⟨ex,h1,_⟩:=hf 1 _ rfl rfl rfl ecells_bool (OpensW.bool enc Tryz.prog w Tryz.underlying4)
 obtain⟨pr,h2,m2,bp⟩:=hf 2 _ rfl rfl rfl ecells_lt (OpensW.types enc w)
 obtain⟨lo,h3,_,bl⟩:=hf 3 _ rfl rfl rfl ecells_int (OpensW.int enc Tryz.prog w Tryz.underlying3)
 obtain⟨re,h4,_,br⟩:=hf 4 _ rfl rfl rfl ecells_typ (OpensW.int enc Tryz.prog w Tryz.underlying44)
 obtain⟨co,h5,m5,bc⟩:=hf 5 _ rfl rfl rfl ecells_li (OpensW.slice enc Tryz.prog w Tryz.underlying45 (k:=Kd.ins) ecellsI (by decide) (OpensW.instr enc w))
 have m0:=m0 _ rfl
 have m2:=m2 _ rfl
 have m5:=m5 _ rfl
 rw[sum_ones]at m2 m5
 obtain⟨PA,pc,h2',_,hPA⟩:=h2
 obtain⟨CA,cc,h5',_,hCA⟩:=h5
 have e0:[c0]=[Value.string nm]:=h0
 have e1:[c1]=[Value.bool ex]:=h1
 have e2:[c2]=[Value.slice PA pr.length pc]:=h2'
 have e3:[c3]=[Value.int .i64 lo]:=h3
 have e4:[c4]=[Value.int .i64 re]:=h4
 have e5:[c5]=[Value.slice CA co.length cc]:=h5'
 cases e0;cases e1;cases e2;cases e3;cases e4;cases e5
 simp only[Rows.uptoBulkAll]at hb
 exact⟨⟨nm,ex,pr,lo,re,co⟩,⟨PA,pc,CA,cc,rfl,hPA,hCA⟩,by unfold mPr;dsimp only;omega,bl,br,bp,bc⟩
theorem OpensW.need:OpensW enc Tryz.prog w 56 Kd.ned mNd (fun n=>i64 n.result∧∀t∈n.params,i64 t):=by
 intro fuel cs d ps hd hw
 obtain⟨hl,ds,hds,hb,hf⟩:=field_openW enc Tryz.prog w Tryz.underlying56 hd hw
 obtain⟨c0,c1,c2,c3,rfl⟩:=elist4 (hl.trans ecellsN)
 obtain⟨d0,d1,d2,d3,rfl⟩:=elist4 hds
 obtain⟨pt,h0,m0,_⟩:=hf 0 _ rfl rfl rfl ecells_str (OpensW.str enc Tryz.prog w Tryz.underlying9)
 obtain⟨nm,h1,m1,_⟩:=hf 1 _ rfl rfl rfl ecells_str (OpensW.str enc Tryz.prog w Tryz.underlying9)
 obtain⟨pr,h2,m2,bp⟩:=hf 2 _ rfl rfl rfl ecells_lt (OpensW.types enc w)
 obtain⟨re,h3,_,br⟩:=hf 3 _ rfl rfl rfl ecells_typ (OpensW.int enc Tryz.prog w Tryz.underlying44)
 have m0:=m0 _ rfl
 have m1:=m1 _ rfl
 have m2:=m2 _ rfl
 rw[sum_ones]at m2
 obtain⟨PA,pc,h2',_,hPA⟩:=h2
 have e0:[c0]=[Value.string pt]:=h0
 have e1:[c1]=[Value.string nm]:=h1
 have e2:[c2]=[Value.slice PA pr.length pc]:=h2'
 have e3:[c3]=[Value.int .i64 re]:=h3
 cases e0;cases e1;cases e2;cases e3
 simp only[Rows.uptoBulkAll]at hb
 exact⟨⟨pt,nm,pr,re⟩,⟨PA,pc,rfl,hPA⟩,by unfold mNd;dsimp only;omega,br,bp⟩
theorem OpensW.object:OpensW enc Tryz.prog w 38 Kd.ob mOb OInt:=by
 intro fuel cs d ps hd hw
 obtain⟨hl,ds,hds,hb,hf⟩:=field_openW enc Tryz.prog w Tryz.underlying38 hd hw
 obtain⟨c0,c1,c2,c3,rfl⟩:=elist4 (hl.trans ecellsO)
 obtain⟨d0,d1,d2,d3,rfl⟩:=elist4 hds
 obtain⟨pt,h0,m0,_⟩:=hf 0 _ rfl rfl rfl ecells_str (OpensW.str enc Tryz.prog w Tryz.underlying9)
 obtain⟨co,h1,m1,bc⟩:=hf 1 _ rfl rfl rfl ecells_lv (OpensW.slice enc Tryz.prog w Tryz.underlying23 (k:=Kd.val) ecellsV (by decide) (OpensW.value enc w))
 obtain⟨ne,h2,m2,bn⟩:=hf 2 _ rfl rfl rfl ecells_ln (OpensW.slice enc Tryz.prog w Tryz.underlying31 (k:=Kd.ned) ecellsN (by decide) (OpensW.need enc w))
 obtain⟨pr,h3,m3,bp⟩:=hf 3 _ rfl rfl rfl ecells_lp (OpensW.slice enc Tryz.prog w Tryz.underlying24 (k:=Kd.prc) ecellsP (by decide) (OpensW.proc enc w))
 have m0:=m0 _ rfl
 have m1:=m1 _ rfl
 have m2:=m2 _ rfl
 have m3:=m3 _ rfl
 obtain⟨CA,cc,h1',_,hCA⟩:=h1
 obtain⟨NA,nc,h2',_,hNA⟩:=h2
 obtain⟨PA,pc,h3',_,hPA⟩:=h3
 have e0:[c0]=[Value.string pt]:=h0
 have e1:[c1]=[Value.slice CA co.length cc]:=h1'
 have e2:[c2]=[Value.slice NA ne.length nc]:=h2'
 have e3:[c3]=[Value.slice PA pr.length pc]:=h3'
 cases e0;cases e1;cases e2;cases e3
 simp only[Rows.uptoBulkAll]at hb
 exact⟨⟨pt,co,ne,pr⟩,⟨CA,cc,NA,nc,PA,pc,rfl,hCA,hNA,hPA⟩,by unfold mOb;dsimp only;omega,bc,bn,bp⟩
end
end
section
open Go.MapKept
theorem flat_sum {α:Type} {f:α→List Int} {m:α→Nat} (c:Nat):∀l:List α,(∀x∈l,(f x).length≤c*m x)→(l.flatMap f).length≤c*(l.map m).sum
 | [],_=>by simp
 | a::r,h=>by
  have h1:=h a List.mem_cons_self
  have h2:=flat_sum c r fun x hx=>h x (List.mem_cons_of_mem _ hx)
  rw[List.flatMap_cons,List.length_append,List.map_cons,List.sum_cons,Nat.mul_add]
  omega
theorem txt_len (s:ByteArray) (h:s.size≤100000000000000):(txtI s).length≤s.size+10:=by
 have:=uintL_len10 (n:=s.size) (by omega)
 rw[txtI,List.length_append,strI_length];omega
theorem code_len (l:List (Int×Int)) (h:l.length≤100000000000000):((bytesR l).1).length≤10+11*l.length:=by
 unfold bytesR
 split
 ·rename_i ha
  have h1:=flat_le (l:=l) (k:=l.length) fun j i hj hi=>List.all_eq_true.1 ha i (List.mem_of_getElem? hi)
  have h2:=uintL_len10 (n:=l.length) (by omega)
  show(encP l l.length).length≤_
  unfold encP
  rw[List.length_append,List.take_length]at*
  omega
 ·simp
theorem val_len (v:V) (h:mV v≤1048576) (hi: -9223372036854775808≤v.i∧v.i≤9223372036854775807):(valI v).length≤50*mV v:=by
 unfold mV at*
 have h1:=uintL_len10 (zzN_lt hi)
 have h2:=txt_len v.s (by omega)
 unfold valI
 rw[List.length_append]
 have h3:(kindI v.t).length=1:=rfl
 split
 ·omega
 split
 ·simp;omega
 split
 ·omega
 ·simp;omega
theorem typ_len (ps:List Int) (r:Int):(typI ps r).length≤ps.length+11:=by
 have:=uI_len (ps.length:Int)
 unfold typI
 rw[List.length_append,List.length_append,kinds_len]
 show _+_+1≤_
 omega
theorem nd_len (n:Nd) (h:mNd n≤1048576):(ndI n).length≤50*mNd n:=by
 unfold mNd at*
 have h1:=txt_len n.path (by omega)
 have h2:=txt_len n.name (by omega)
 have h3:=typ_len n.params n.result
 have hni:ndI n=txtI n.path++txtI n.name++typI n.params n.result:=by unfold ndI headI typI;simp only[List.append_assoc]
 rw[hni,List.length_append,List.length_append]
 omega
theorem pr_len (p:Pr) (h:mPr p≤1048576):(procI p).length≤50*mPr p:=by
 unfold mPr at*
 have h1:=txt_len p.name (by omega)
 have h3:=typ_len p.params p.result
 have h4:=uI_len p.locals
 have h5:=code_len p.code (by omega)
 have hpi:procI p=txtI p.name++typI p.params p.result++[boolI p.exp]++uI p.locals++(bytesR p.code).1:=by unfold procI headI typI;simp only[List.append_assoc]
 rw[hpi]
 simp only[List.length_append,List.length_cons,List.length_nil]
 omega
def mPt (x:Pt):Nat:=x.path.size+x.name.size+1
theorem vals_len {cs:List V} (h:(cs.map mV).sum≤1048576) (hi:∀v∈cs, -9223372036854775808≤v.i∧v.i≤9223372036854775807):(valsI cs).length≤100000000:=by
 have h1:=flat_sum (f:=valI) (m:=mV) 50 cs fun v hv=>val_len v (Nat.le_trans (sum_mem (m:=mV) hv) h) (hi v hv)
 have h2:=uI_len (cs.length:Int)
 unfold valsI
 rw[List.length_append]
 omega
theorem procs_len {ps:List Pr} (h:(ps.map mPr).sum≤1048576):(procsI ps).length≤100000000:=by
 have h1:=flat_sum (f:=procI) (m:=mPr) 50 ps fun v hv=>pr_len v (Nat.le_trans (sum_mem (m:=mPr) hv) h)
 have h2:=uI_len (ps.length:Int)
 unfold procsI
 rw[List.length_append]
 omega
theorem obj_len {o:Ob} (h:mOb o≤1048576) (hi:∀v∈o.consts, -9223372036854775808≤v.i∧v.i≤9223372036854775807):(objI o).length≤1000000000:=by
 unfold mOb at h
 have h1:=vals_len (cs:=o.consts) (by omega) hi
 have h2:=procs_len (ps:=o.procs) (by omega)
 have h3:=flat_sum (f:=ndI) (m:=mNd) 50 o.needs fun v hv=>nd_len v (Nat.le_trans (sum_mem (m:=mNd) hv) (by omega))
 have h4:=txt_len o.path (by omega)
 have h5:=uI_len (o.needs.length:Int)
 unfold objI
 simp only[List.length_append]
 show 3+_+_+_+_+_≤_
 omega
structure GSum (cs:List V) (prs:List Pr) (pts:List Pt):Prop where
 cs:(cs.map mV).sum≤1048576
 pr:(prs.map mPr).sum≤1048576
 pt:(pts.map mPt).sum≤1048576
attribute [local irreducible] Tryz.prog bytesO bytesPg objAns progAns
end
def Byt (l:List Int):Prop:=∀c∈l,0≤c∧c<256
theorem Byt.nil:Byt []:=fun c h=>by cases h
theorem Byt.cons {a:Int} {l:List Int} (h0:0≤a) (h1:a<256) (h:Byt l):Byt (a::l):=fun c hc=>by
 rcases List.mem_cons.1 hc with rfl | hc
 ·exact⟨h0,h1⟩
 ·exact h c hc
theorem Byt.app {a b:List Int} (h:Byt a) (h':Byt b):Byt (a++b):=fun c hc=>by
 rcases List.mem_append.1 hc with hc | hc
 ·exact h c hc
 ·exact h' c hc
theorem Byt.flat {α:Type} {f:α→List Int} {l:List α} (h:∀a∈l,Byt (f a)):Byt (l.flatMap f):=fun c hc=>by
 obtain⟨a,ha,hc⟩:=List.mem_flatMap.1 hc
 exact h a ha c hc
theorem byt_uintL (n:Nat):Byt (uintL n):=by
 induction n using Nat.strongRecOn with
 | _ n ih=>
  by_cases h:n<128
  ·rw[uintL_lt h];exact Byt.cons (by omega) (by omega) Byt.nil
  ·rw[uintL_ge h];exact Byt.cons (by omega) (by omega) (ih _ (by omega))
theorem byt_uI (n:Int):Byt (uI n):=byt_uintL _
theorem byt_str (s:ByteArray):Byt (strI s):=fun c hc=>by
 obtain⟨b,_,rfl⟩:=List.mem_map.1 hc
 have:=b.toNat_lt
 exact⟨by omega,by omega⟩
theorem byt_txt (s:ByteArray):Byt (txtI s):=(byt_uintL _).app (byt_str s)
theorem byt_kind (t:Int):Byt (kindI t):=Byt.cons (by simp[IntKind.wrap,IntKind.signed,IntKind.bits];omega) (by simp[IntKind.wrap,IntKind.signed,IntKind.bits];omega) Byt.nil
theorem byt_bool (b:Bool):Byt [boolI b]:=by cases b<;>exact Byt.cons (by decide) (by decide) Byt.nil
theorem byt_val (v:V):Byt (valI v):=by
 unfold valI
 refine(byt_kind _).app ?_
 split
 ·exact byt_uintL _
 ·split
  ·exact byt_bool _
  ·split
   ·exact byt_txt _
   ·exact Byt.nil
theorem byt_vals (l:List V):Byt (valsI l):=(byt_uI _).app (Byt.flat fun v _=>byt_val v)
theorem byt_head (s:ByteArray) (ps:List Int) (r:Int):Byt (headI s ps r):=((((byt_txt s).app (byt_uI _)).app (Byt.flat fun t _=>byt_kind t))).app (byt_kind r)
theorem byt_code (l:List (Int×Int)):Byt (bytesR l).1:=by
 unfold bytesR
 split
 ·rename_i h
  unfold encP
  rw[List.take_length]
  refine(byt_uintL _).app (Byt.flat fun i hi=>?_)
  obtain⟨h1,_⟩:=may_rows (show mayR i.1 i.2=true from List.all_eq_true.1 h i hi)
  unfold encI
  refine Byt.cons (by omega) (by omega) ?_
  split
  ·exact byt_uintL _
  ·exact Byt.nil
 ·exact Byt.nil
theorem byt_proc (p:Pr):Byt (procI p):=(((byt_head _ _ _).app (byt_bool _)).app (byt_uI _)).app (byt_code _)
theorem byt_procs (l:List Pr):Byt (procsI l):=(byt_uI _).app (Byt.flat fun p _=>byt_proc p)
theorem byt_need (n:Nd):Byt (ndI n):=(byt_txt _).app (byt_head _ _ _)
theorem byt_obj (o:Ob):Byt (objI o):=by
 unfold objI
 refine(((((Byt.app ?_ (byt_txt _)).app (byt_vals _)).app (byt_uI _)).app (Byt.flat fun n _=>byt_need n)).app (byt_procs _))
 exact Byt.cons (by decide) (by decide) (Byt.cons (by decide) (by decide) (Byt.cons (by decide) (by decide) Byt.nil))
theorem okO_lim {o:Ob} (h:okO o):o.consts.length≤4096∧o.needs.length≤4096∧o.procs.length≤128∧(∀v∈o.consts,ok64 v.i)∧∀p∈o.procs,p.code.length≤16384:=by
 obtain⟨_,h2,h3,h4⟩:=h
 exact⟨h2.1,h3.1,h4.1,fun v hv=>(h2.2 v hv).2.1,fun p hp=>(h4.2 p hp).2.2.2.1⟩
theorem mag_ne {a b:List Int} :magI++a≠magP++b:=fun h=>by
 have:=congrArg (fun l:List Int=>l[1]?) h
 simp[magI,magP]at this
section
theorem lists_dec (a b:ByteArray):(a.toList==b.toList)=decide (a=b):=by
 by_cases h:a=b
 ·subst h;simp
 ·rw[lists_ne h,decide_eq_false h]
section
variable {L:List (Nat×Value)} {d:Option Tmp} {ty:TypeId} {pos:String} {af:Array Edge} {gu:Option (Nat×Bool)}
theorem Gp.neVal {x y:Operand} {t':TypeId} {v u:V} (hx:ev L x=some (.agg #[.int .i64 v.t, .int .i64 v.i, .bool v.b, .string v.s])) (hy:ev L y=some (.agg #[.int .i64 u.t, .int .i64 u.i, .bool u.b, .string u.s])):
  Gp Tryz.prog L ⟨d, .binOp .neq 52 x y t',ty,pos,af,gu⟩ (.bool (!decide (v=u))):=fun g st w=>by
 have h1:Tryz.prog.eqGuardType Tryz.prog.depth 52=false:=by kernel_rfl
 have h2:Tryz.prog.underlying 52=some (.struct (Tryz.prog.fieldsOf 52)):=by kernel_rfl
 have h3:Tryz.prog.stoodInHeld 52=false:=by kernel_rfl
 have key:(Op.eqFields 9999 #[.int .i64 v.t, .int .i64 v.i, .bool v.b, .string v.s] #[.int .i64 u.t, .int .i64 u.i, .bool u.b, .string u.s] (Tryz.prog.fieldsOf 52).toList).run Tryz.prog w= .ok (decide (v=u)) w:=by
  obtain⟨a,b,c,s⟩:=v
  obtain⟨a',b',c',s'⟩:=u
  have a0:=fun w=>(inferInstance:Agg Tryz.prog 44 false).h w
  have a1:=fun w=>(inferInstance:Agg Tryz.prog 2 false).h w
  have a2:=fun w=>(inferInstance:Agg Tryz.prog 4 false).h w
  have a3:=fun w=>(inferInstance:Agg Tryz.prog 9 false).h w
  have u0:Tryz.prog.underlying 44=some (.int .i64):=Und.h
  have u1:Tryz.prog.underlying 2=some (.int .i64):=Und.h
  have u2:Tryz.prog.underlying 4=some .bool:=Und.h
  have u3:Tryz.prog.underlying 9=some .string:=Und.h
  simp only[Program.fieldsOf,Tryz.underlying52]
  simp only[Op.eqFields,part,Sem.run_bind,a0,a1,a2,a3,Result.andThen_ok,Sem.run_ite]
  simp[run_equalIn_int _ _ _ _ _ _ _ u0,run_equalIn_int _ _ _ _ _ _ _ u1,run_equalIn_bool _ _ _ _ _ u2,run_equalIn_string _ _ _ _ _ u3,lists_dec]
  by_cases q0:a=a'<;>by_cases q1:b=b'<;>by_cases q2:c=c'<;>by_cases q3:s=s'<;>simp[q0,q1,q2,q3]
 simp only[execOp,Sem.run_bind,st.eval hx,st.eval hy,run_eqGuard_agg w .neq _ x y _ _ h1,Result.andThen_ok,run_neq_struct,run_equalIn_agg w 9999 _ _ _ h2 h3,key]
 rfl
end
def eqL {α:Type} (f:α→α→Bool) (a b:List α):Bool:=decide (a.length=b.length)&&(List.range a.length).all fun i=>match a[i]?,b[i]? with
 | some x,some y=>f x y
 | _,_=>true
theorem eqL_len {α:Type} {f:α→α→Bool} {a b:List α} (h:a.length≠b.length):eqL f a b=false:=by unfold eqL;rw[decide_eq_false h];rfl
theorem eqL_false {α:Type} {f:α→α→Bool} {a b:List α} {i:Nat} {x y:α} (hx:a[i]? =some x) (hy:b[i]? =some y) (h:f x y=false):eqL f a b=false:=by
 cases hr:eqL f a b with
 | false=>rfl
 | true=>
  unfold eqL at hr
  rw[Bool.and_eq_true]at hr
  have:=List.all_eq_true.1 hr.2 i (by simpa using(List.getElem?_eq_some_iff.1 hx).1)
  rw[hx,hy]at this
  dsimp only at this
  rw[h]at this
  cases this
theorem eqL_true {α:Type} {f:α→α→Bool} {a b:List α} (hl:a.length=b.length) (h:∀(i:Nat) x y,i<a.length→a[i]? =some x→b[i]? =some y→f x y=true):eqL f a b=true:=by
 unfold eqL
 rw[decide_eq_true hl,Bool.true_and]
 refine List.all_eq_true.2 fun i hi=>?_
 cases hx:a[i]? with
 | none=>rfl
 | some x=>cases hy:b[i]? with
  | none=>rfl
  | some y=>exact h i x y (List.getElem?_eq_some_iff.1 hx).1 hx hy
theorem eqL_refl {α:Type} {f:α→α→Bool} (hf:∀x,f x x=true) (a:List α):eqL f a a=true:=eqL_true rfl fun i x y _ hx hy=>by rw[hx]at hy;cases hy;exact hf x
theorem eqL_dec {α:Type} [DecidableEq α] {f:α→α→Bool} (hf:∀x y,f x y=decide (x=y)) (a b:List α):eqL f a b=decide (a=b):=by
 by_cases h:a=b
 ·subst h;rw[eqL_refl fun x=>by rw[hf];simp];simp
 ·rw[decide_eq_false h]
  cases hr:eqL f a b with
  | false=>rfl
  | true=>
   exfalso
   unfold eqL at hr
   rw[Bool.and_eq_true]at hr
   have hl:=of_decide_eq_true hr.1
   refine h (List.ext_getElem hl fun i h1 h2=>?_)
   have:=List.all_eq_true.1 hr.2 i (by simpa using h1)
   rw[List.getElem?_eq_getElem h1,List.getElem?_eq_getElem h2]at this
   dsimp only at this
   rw[hf]at this
   exact of_decide_eq_true this
def sameP (a b:Pr):Bool:=a.name==b.name&&(a.exp==b.exp&&(a.locals==b.locals&&(a.result==b.result&&(a.params==b.params&&decide (a.code=b.code)))))
def sameOb (a b:Ob):Bool:=a.path==b.path&&(decide (a.consts=b.consts)&&(eqL sameN a.needs b.needs&&eqL sameP a.procs b.procs))
theorem sameN_refl (a:Nd):sameN a a=true:=by unfold sameN;simp[bb_refl]
theorem sameP_refl (a:Pr):sameP a a=true:=by unfold sameP;simp[bb_refl]
theorem sameOb_refl (a:Ob):sameOb a a=true:=by unfold sameOb;rw[bb_refl,eqL_refl sameN_refl,eqL_refl sameP_refl];simp
end
section
open Go.MapKept
attribute [local irreducible] Tryz.prog
theorem eq_step {α:Type} {f:α→α→Bool} {a b:List α} {i:Nat} {x y:α} (h:∀(j:Nat) x y,j<i→a[j]? =some x→b[j]? =some y→f x y=true) (hx:a[i]? =some x) (hy:b[i]? =some y) (hf:f x y=true):∀(j:Nat) x y,j<i+1→a[j]? =some x→b[j]? =some y→f x y=true:=fun j x' y' hj hx' hy'=>by
 rcases Nat.lt_or_ge j i with h1 | h1
 ·exact h j x' y' h1 hx' hy'
 ·obtain rfl:j=i:=by omega
  rw[hx]at hx';rw[hy]at hy';cases hx';cases hy';exact hf
def dV (x y:V):Bool:=decide (x=y)
def dI (x y:Int×Int):Bool:=decide (x=y)
def dT (x y:Int):Bool:=x==y
def dPt (x y:Pt):Bool:=decide ((x.path,x.name,x.proc)=(y.path,y.name,y.proc))
theorem rsameT_fn (G:Gh) (A B:Option Addr) (l m:List Int) (ca cb:Nat) (ha:Sl (Kd.int .i64) G A l) (hb:Sl (Kd.int .i64) G B m) (hl:l.length≤100000000000000):
  Fn Tryz.prog 102 #[.slice A l.length ca, .slice B m.length cb] G [] fun e G' H'=>e= .returned (.bool (eqL dT l m))∧G=G'∧H'=[]:=by
 refine Fn.enter Tryz.func102 rfl rfl fun w0=>?_
 by_cases hne:l.length=m.length
 rotate_left
 ·have e1:((l.length:Int) != (m.length:Int))=true:=by rw[bne_iff_ne];omega
  rw[eqL_len hne]
  refine gom ?_
  refine WC.rt ?_
  exact QF.p1 (.inl rfl) rfl (.tmp rfl) (⟨rfl,rfl,rfl⟩)
 have e1:((l.length:Int) != (m.length:Int))=false:=by rw[hne];simp
 refine gom ?_
 refine WC.loop (X:=Nat) (fun i=>[(5, .int .i64 i),(0, .slice A l.length ca),(1, .slice B m.length cb)]) (fun _=>G) (fun _=>[]) (fun i=>l.length - i) (fun i=>i≤l.length∧∀(j:Nat) x y,j<i→l[j]? =some x→m[j]? =some y→dT x y=true) 0 ⟨Nat.zero_le _,fun j x y h=>absurd h (Nat.not_lt_zero _)⟩ (by exact⟨rfl,rfl,rfl,trivial⟩) rfl (List.Sublist.refl _) fun i hx=>?_
 obtain⟨hi,hall⟩:=hx
 by_cases hlt:i<l.length
 rotate_left
 ·have e2:decide ((i:Int)<(l.length:Int))=false:=decide_eq_false (by omega)
  rw[eqL_true hne fun j x y hj=>hall j x y (by omega)]
  refine gom ?_
  refine WC.rt ?_
  exact QF.p1 (.inl rfl) rfl (.tmp rfl) (⟨rfl,rfl,rfl⟩)
 have e2:decide ((i:Int)<(l.length:Int))=true:=decide_eq_true (by omega)
 obtain⟨x,hx⟩:∃x,l[i]? =some x:=⟨_,List.getElem?_eq_getElem hlt⟩
 obtain⟨y,hy⟩:∃y,m[i]? =some y:=⟨_,List.getElem?_eq_getElem (by omega)⟩
 obtain⟨ab,ao,cs1,rfl,hk1,hca⟩:=ha i x hx
 obtain⟨bb,bo,cs2,rfl,hk2,hcb⟩:=hb i y hy
 obtain rfl:cs1=[.int .i64 x]:=hk1
 obtain rfl:cs2=[.int .i64 y]:=hk2
 have x0:(0:Int)≤i:=by omega
 have x2:(i:Int)<(l.length:Int):=by omega
 have x3:(i:Int)<(m.length:Int):=by omega
 have x4:=wrapS i (by omega)
 cases hf:dT x y with
 | true=>
  have e3:(x != y)=false:=by rw[bne,show(x==y)=true from hf];rfl
  refine gom ?_
  exact WK.again (i+1) (by omega) ⟨by omega,eq_step hall hx hy hf⟩ (by exact⟨rfl,rfl,rfl,trivial⟩) rfl (List.Sublist.refl _)
 | false=>
  have e3:(x != y)=true:=by rw[bne,show(x==y)=false from hf];rfl
  rw[eqL_false hx hy hf]
  refine gom ?_
  refine WC.rt ?_
  exact QF.p1 (.inl rfl) rfl (.tmp rfl) (⟨rfl,rfl,rfl⟩)
theorem rsameV_fn (G:Gh) (A B:Option Addr) (l m:List V) (ca cb:Nat) (ha:Sl Kd.val G A l) (hb:Sl Kd.val G B m) (hl:l.length≤100000000000000):
  Fn Tryz.prog 49 #[.slice A l.length ca, .slice B m.length cb] G [] fun e G' H'=>e= .returned (.bool (eqL dV l m))∧G=G'∧H'=[]:=by
 refine Fn.enter Tryz.func49 rfl rfl fun w0=>?_
 by_cases hne:l.length=m.length
 rotate_left
 ·have e1:((l.length:Int) != (m.length:Int))=true:=by rw[bne_iff_ne];omega
  rw[eqL_len hne]
  refine gom ?_
  refine WC.rt ?_
  exact QF.p1 (.inl rfl) rfl (.tmp rfl) (⟨rfl,rfl,rfl⟩)
 have e1:((l.length:Int) != (m.length:Int))=false:=by rw[hne];simp
 refine gom ?_
 refine WC.loop (X:=Nat) (fun i=>[(5, .int .i64 i),(0, .slice A l.length ca),(1, .slice B m.length cb)]) (fun _=>G) (fun _=>[]) (fun i=>l.length - i) (fun i=>i≤l.length∧∀(j:Nat) x y,j<i→l[j]? =some x→m[j]? =some y→dV x y=true) 0 ⟨Nat.zero_le _,fun j x y h=>absurd h (Nat.not_lt_zero _)⟩ (by exact⟨rfl,rfl,rfl,trivial⟩) rfl (List.Sublist.refl _) fun i hx=>?_
 obtain⟨hi,hall⟩:=hx
 by_cases hlt:i<l.length
 rotate_left
 ·have e2:decide ((i:Int)<(l.length:Int))=false:=decide_eq_false (by omega)
  rw[eqL_true hne fun j x y hj=>hall j x y (by omega)]
  refine gom ?_
  refine WC.rt ?_
  exact QF.p1 (.inl rfl) rfl (.tmp rfl) (⟨rfl,rfl,rfl⟩)
 have e2:decide ((i:Int)<(l.length:Int))=true:=decide_eq_true (by omega)
 obtain⟨x,hx⟩:∃x,l[i]? =some x:=⟨_,List.getElem?_eq_getElem hlt⟩
 obtain⟨y,hy⟩:∃y,m[i]? =some y:=⟨_,List.getElem?_eq_getElem (by omega)⟩
 obtain⟨ab,ao,cs1,rfl,hk1,hca⟩:=ha i x hx
 obtain⟨bb,bo,cs2,rfl,hk2,hcb⟩:=hb i y hy
 obtain rfl:cs1=[.int .i64 x.t, .int .i64 x.i, .bool x.b, .string x.s]:=hk1
 obtain rfl:cs2=[.int .i64 y.t, .int .i64 y.i, .bool y.b, .string y.s]:=hk2
 have x0:(0:Int)≤i:=by omega
 have x2:(i:Int)<(l.length:Int):=by omega
 have x3:(i:Int)<(m.length:Int):=by omega
 have x4:=wrapS i (by omega)
 cases hf:dV x y with
 | true=>
  have e3:(!decide (x=y))=false:=by rw[show decide (x=y)=true from hf];rfl
  refine gom ?_
  refine WQ.tp (Gp.neVal rfl rfl) kr kr rfl ?_
  rw[e3]
  refine gom ?_
  exact WK.again (i+1) (by omega) ⟨by omega,eq_step hall hx hy hf⟩ (by exact⟨rfl,rfl,rfl,trivial⟩) rfl (List.Sublist.refl _)
 | false=>
  have e3:(!decide (x=y))=true:=by rw[show decide (x=y)=false from hf];rfl
  rw[eqL_false hx hy hf]
  refine gom ?_
  refine WQ.tp (Gp.neVal rfl rfl) kr kr rfl ?_
  rw[e3]
  refine gom ?_
  refine WC.rt ?_
  exact QF.p1 (.inl rfl) rfl (.tmp rfl) (⟨rfl,rfl,rfl⟩)
theorem eqT_eq (l m:List Int):eqL dT l m=(l==m):=by rw[eqL_dec (fun x y=>by unfold dT;rw[Bool.eq_iff_iff];simp)];rw[Bool.eq_iff_iff];simp
theorem eqI_eq (l m:List (Int×Int)):eqL dI l m=decide (l=m):=eqL_dec (fun x y=>rfl) l m
theorem eqV_eq (l m:List V):eqL dV l m=decide (l=m):=eqL_dec (fun x y=>rfl) l m
end
section
open Go.MapKept
attribute [local irreducible] Tryz.prog sameN sameP eqL
theorem rsameNeed_fn (G:Gh) (a b:Nd) (QA RA:Option Addr) (qc rc:Nat) (hQ:Sl (Kd.int .i64) G QA a.params) (hR:Sl (Kd.int .i64) G RA b.params) (hl:a.params.length≤100000000000000):
  Fn Tryz.prog 56 #[.agg (ndC a QA qc), .agg (ndC b RA rc)] G [] fun e G' H'=>e= .returned (.bool (sameN a b))∧G=G'∧H'=[]:=by
 refine Fn.enter Tryz.func56 rfl rfl fun w0=>?_
 refine WC.seq ?_
 refine WC.region ?_
 refine WL.oo (OW.box rfl rfl fun b2=>?_)
 refine WL.oo (OW.box rfl rfl fun b3=>?_)
 refine gom ?_
 cases h1:(a.path==b.path)with
 | false=>
  rw[show sameN a b=false by unfold sameN;rw[h1];rfl]
  refine gom ?_
  refine WC.rt ?_
  exact QF.p1 (.inl rfl) rfl (.tmp rfl) (⟨rfl,rfl,rfl⟩)
 | true=>
 refine gom ?_
 cases h2:(a.name==b.name)with
 | false=>
  rw[show sameN a b=false by unfold sameN;rw[h1,h2];rfl]
  refine gom ?_
  refine WC.rt ?_
  exact QF.p1 (.inl rfl) rfl (.tmp rfl) (⟨rfl,rfl,rfl⟩)
 | true=>
 cases h3:(a.result==b.result)with
 | false=>
  rw[show sameN a b=false by unfold sameN;rw[h1,h2,h3];rfl]
  refine gom ?_
  refine WC.rt ?_
  exact QF.p1 (.inl rfl) rfl (.tmp rfl) (⟨rfl,rfl,rfl⟩)
 | true=>
 rw[show sameN a b=(a.params==b.params) by unfold sameN;rw[h1,h2,h3];rfl]
 refine gom ?_
 refine WL.oo (OW.callK rfl (rsameT_fn G QA RA a.params b.params qc rc hQ hR hl) rfl fun v' G' H' h hg=>?_)
 obtain⟨he,rfl,rfl⟩:=h
 cases he
 rw[←eqT_eq]
 refine gom ?_
 refine WC.rt ?_
 exact QF.p1 (.inl rfl) rfl (.tmp rfl) (⟨rfl,rfl,rfl⟩)
set_option maxRecDepth 20000 in
set_option maxHeartbeats 2000000 in
theorem rsameP_fn (G:Gh) (A B:Option Addr) (l m:List Pr) (ca cb:Nat) (ha:Sl Kd.prc G A l) (hb:Sl Kd.prc G B m) (hl:l.length≤100000000000000) (hs:∀x∈l,x.params.length≤100000000000000∧x.code.length≤100000000000000):
  Fn Tryz.prog 50 #[.slice A l.length ca, .slice B m.length cb] G [] fun e G' H'=>e= .returned (.bool (eqL sameP l m))∧G=G'∧H'=[]:=by
 refine Fn.enter Tryz.func50 rfl rfl fun w0=>?_
 by_cases hne:l.length=m.length
 rotate_left
 ·have e1:((l.length:Int) != (m.length:Int))=true:=by rw[bne_iff_ne];omega
  rw[eqL_len hne]
  refine go ?_
  refine WC.rt ?_
  exact QF.p1 (.inl rfl) rfl (.tmp rfl) (⟨rfl,rfl,rfl⟩)
 have e1:((l.length:Int) != (m.length:Int))=false:=by rw[hne];simp
 refine go ?_
 refine WC.loop (X:=Nat) (fun i=>[(0, .slice A l.length ca),(1, .slice B m.length cb),(5, .int .i64 i)]) (fun _=>G) (fun _=>[]) (fun i=>l.length - i) (fun i=>i≤l.length∧∀(j:Nat) x y,j<i→l[j]? =some x→m[j]? =some y→sameP x y=true) 0 ⟨Nat.zero_le _,fun j x y h=>absurd h (Nat.not_lt_zero _)⟩ (by exact⟨rfl,rfl,rfl,trivial⟩) rfl (List.Sublist.refl _) fun i hx=>?_
 obtain⟨hi,hall⟩:=hx
 by_cases hlt:i<l.length
 rotate_left
 ·have e2:decide ((i:Int)<(l.length:Int))=false:=decide_eq_false (by omega)
  rw[eqL_true hne fun j x y hj=>hall j x y (by omega)]
  refine go ?_
  refine WC.rt ?_
  exact QF.p1 (.inl rfl) rfl (.tmp rfl) (⟨rfl,rfl,rfl⟩)
 have e2:decide ((i:Int)<(l.length:Int))=true:=decide_eq_true (by omega)
 obtain⟨x,hx⟩:∃x,l[i]? =some x:=⟨_,List.getElem?_eq_getElem hlt⟩
 obtain⟨y,hy⟩:∃y,m[i]? =some y:=⟨_,List.getElem?_eq_getElem (by omega)⟩
 obtain⟨ab,ao,cs1,rfl,hk1,hca⟩:=ha i x hx
 obtain⟨bb,bo,cs2,rfl,hk2,hcb⟩:=hb i y hy
 obtain⟨PA,pc,CA,cc,rfl,hP,hC⟩:=hk1
 obtain⟨QA,qc,DA,dc,rfl,hQ,hD⟩:=hk2
 obtain⟨hxp,hxc⟩:=hs x (List.mem_of_getElem? hx)
 have x0:(0:Int)≤i:=by omega
 have x2:(i:Int)<(l.length:Int):=by omega
 have x3:(i:Int)<(m.length:Int):=by omega
 have x4:=wrapS i (by omega)
 refine go ?_
 refine WC.joinG (X:=Nat×Nat) (fun t=>[(0, .slice (some ⟨ab,ao,none⟩) l.length ca),(1, .slice (some ⟨bb,bo,none⟩) m.length cb),(5, .int .i64 i),(6, .pointer (some ⟨t.1,0,none⟩)),(7, .pointer (some ⟨t.2,0,none⟩))]) (fun _=>G) (fun t=>[prB t.1 x PA pc CA cc,prB t.2 y QA qc DA dc]) (fun _=>True) ?_ fun t _=>?_
 ·refine WC.drawB mixed ?_
  refine zb.move 0 ?_
  refine zb.move 1 ?_
  refine zb.ix 2 ?_
  refine WB.vv 3 rfl (Gv.loadGN rfl hca rfl) ?_
  refine zb.move 4 ?_
  refine zb.move 5 ?_
  refine zb.ix 6 ?_
  refine WB.vv 7 rfl (Gv.loadGN rfl hcb rfl) ?_
  refine WB.two (i:=8) (j:=9) kr rfl rfl kr kr (OW.alloc rfl fun b6=>?_) (OW.alloc rfl fun b7=>?_)
  ·refine⟨fun w hw=>hw.pk pkA,?_⟩
   refine WB.oo 9 rfl (OW.alloc rfl fun b7=>?_)
   refine⟨fun w hw=>hw.pk pkA,?_⟩
   refine zb.st 10 ?_
   refine⟨fun w hw=>hw.pk pkA,?_⟩
   refine zb.st 11 ?_
   refine⟨fun w hw=>hw.pk pkA,?_⟩
   refine WB.done kr ?_
   refine WK.un ?_
   refine WK.pick [prB b6 x PA pc CA cc,prB b7 y QA qc DA dc] ?_
   exact WK.meet (b6,b7) trivial (by exact⟨rfl,rfl,rfl,rfl,rfl,trivial⟩) rfl (List.Sublist.refl _)
  ·refine⟨fun w hw=>hw.pk pkA,?_⟩
   refine WB.oo 8 rfl (OW.alloc rfl fun b6=>?_)
   refine⟨fun w hw=>hw.pk pkA,?_⟩
   refine zb.st 10 ?_
   refine⟨fun w hw=>hw.pk pkA,?_⟩
   refine zb.st 11 ?_
   refine⟨fun w hw=>hw.pk pkA,?_⟩
   refine WB.done kr ?_
   refine WK.un ?_
   refine WK.pick [prB b6 x PA pc CA cc,prB b7 y QA qc DA dc] ?_
   exact WK.meet (b6,b7) trivial (by exact⟨rfl,rfl,rfl,rfl,rfl,trivial⟩) rfl (List.Sublist.refl _)
 obtain⟨b6,b7⟩:=t
 dsimp only
 refine gom ?_
 cases h1:(x.name==y.name)with
 | false=>
  have hf:sameP x y=false:=by unfold sameP;rw[h1];rfl
  rw[eqL_false hx hy hf]
  refine gom ?_
  refine WC.rt ?_
  exact QF.p1 (.inl rfl) rfl (.tmp rfl) (⟨rfl,rfl,rfl⟩)
 | true=>
 refine gom ?_
 cases h2:(x.exp==y.exp)with
 | false=>
  have hf:sameP x y=false:=by unfold sameP;rw[h1,h2];rfl
  rw[eqL_false hx hy hf]
  refine gom ?_
  refine WC.rt ?_
  exact QF.p1 (.inl rfl) rfl (.tmp rfl) (⟨rfl,rfl,rfl⟩)
 | true=>
 cases h3:(x.locals==y.locals)with
 | false=>
  have nh3:(x.locals != y.locals)=true:=by rw[bne,h3];rfl
  have hf:sameP x y=false:=by unfold sameP;rw[h1,h2,h3];rfl
  rw[eqL_false hx hy hf]
  refine gom ?_
  refine WC.rt ?_
  exact QF.p1 (.inl rfl) rfl (.tmp rfl) (⟨rfl,rfl,rfl⟩)
 | true=>
 have nh3:(x.locals != y.locals)=false:=by rw[bne,h3];rfl
 cases h4:(x.result==y.result)with
 | false=>
  have nh4:(x.result != y.result)=true:=by rw[bne,h4];rfl
  have hf:sameP x y=false:=by unfold sameP;rw[h1,h2,h3,h4];rfl
  rw[eqL_false hx hy hf]
  refine gom ?_
  refine WC.rt ?_
  exact QF.p1 (.inl rfl) rfl (.tmp rfl) (⟨rfl,rfl,rfl⟩)
 | true=>
 have nh4:(x.result != y.result)=false:=by rw[bne,h4];rfl
 refine gom ?_
 refine WL.oo (OW.callK rfl (rsameT_fn G PA QA x.params y.params pc qc hP hQ hxp) rfl fun v' G' H' h hg=>?_)
 obtain⟨he,rfl,rfl⟩:=h
 cases he
 cases h5:eqL dT x.params y.params with
 | false=>
  have hf:sameP x y=false:=by unfold sameP;rw[h1,h2,h3,h4,←eqT_eq,h5];rfl
  rw[eqL_false hx hy hf]
  refine gom ?_
  refine WC.rt ?_
  exact QF.p1 (.inl rfl) rfl (.tmp rfl) (⟨rfl,rfl,rfl⟩)
 | true=>
 have hsx:sameP x y=eqL dI x.code y.code:=by unfold sameP;rw[h1,h2,h3,h4,←eqT_eq,h5,eqI_eq];rfl
 by_cases hce:x.code.length=y.code.length
 rotate_left
 ·have e6:((x.code.length:Int) != (y.code.length:Int))=true:=by rw[bne_iff_ne];omega
  have hf:sameP x y=false:=by rw[hsx,eqL_len hce]
  rw[eqL_false hx hy hf]
  refine gom ?_
  refine WC.rt ?_
  exact QF.p1 (.inl rfl) rfl (.tmp rfl) (⟨rfl,rfl,rfl⟩)
 have e6:((x.code.length:Int) != (y.code.length:Int))=false:=by rw[hce];simp
 refine gom ?_
 refine WC.loop (X:=Nat) (fun k=>[(0, .slice (some ⟨ab,ao,none⟩) l.length ca),(1, .slice (some ⟨bb,bo,none⟩) m.length cb),(5, .int .i64 i),(6, .pointer (some ⟨b6,0,none⟩)),(7, .pointer (some ⟨b7,0,none⟩)),(8, .int .i64 k)]) (fun _=>G) (fun _=>[prB b6 x PA pc CA cc,prB b7 y QA qc DA dc]) (fun k=>x.code.length - k) (fun k=>k≤x.code.length∧∀(j:Nat) u v,j<k→x.code[j]? =some u→y.code[j]? =some v→dI u v=true) 0 ⟨Nat.zero_le _,fun j x y h=>absurd h (Nat.not_lt_zero _)⟩ (by exact⟨rfl,rfl,rfl,rfl,rfl,rfl,trivial⟩) rfl (List.Sublist.refl _) fun k hk=>?_
 obtain⟨hk,hkal⟩:=hk
 by_cases hkl:k<x.code.length
 rotate_left
 ·have e7:decide ((k:Int)<(x.code.length:Int))=false:=decide_eq_false (by omega)
  have hf:sameP x y=true:=by rw[hsx];exact eqL_true hce fun j u v hj=>hkal j u v (by omega)
  refine gom ?_
  exact WK.again (i+1) (by omega) ⟨by omega,eq_step hall hx hy hf⟩ (by exact⟨rfl,rfl,rfl,trivial⟩) rfl (List.nil_sublist _)
 have e7:decide ((k:Int)<(x.code.length:Int))=true:=decide_eq_true (by omega)
 obtain⟨u,hu⟩:∃u,x.code[k]? =some u:=⟨_,List.getElem?_eq_getElem hkl⟩
 obtain⟨v,hv⟩:∃v,y.code[k]? =some v:=⟨_,List.getElem?_eq_getElem (by omega)⟩
 obtain⟨ub,uo,us,rfl,hku,huc⟩:=hC k u hu
 obtain⟨vb,vo,vs,rfl,hkv,hvc⟩:=hD k v hv
 obtain rfl:us=[.int .i64 u.1, .int .i64 u.2]:=hku
 obtain rfl:vs=[.int .i64 v.1, .int .i64 v.2]:=hkv
 have y0:(0:Int)≤k:=by omega
 have y2:(k:Int)<(x.code.length:Int):=by omega
 have y3:(k:Int)<(y.code.length:Int):=by omega
 have y4:=wrapS k (by omega)
 cases hf:dI u v with
 | true=>
  have e3:(!decide ((u.1,u.2)=(v.1,v.2)))=false:=by rw[show decide ((u.1,u.2)=(v.1,v.2))=true from hf];rfl
  refine gom ?_
  refine WQ.tp (Gp.neIns rfl rfl) kr kr rfl ?_
  rw[e3]
  refine gom ?_
  exact WK.again (k+1) (by omega) ⟨by omega,eq_step hkal hu hv hf⟩ (by exact⟨rfl,rfl,rfl,rfl,rfl,rfl,trivial⟩) rfl (List.Sublist.refl _)
 | false=>
  have e3:(!decide ((u.1,u.2)=(v.1,v.2)))=true:=by rw[show decide ((u.1,u.2)=(v.1,v.2))=false from hf];rfl
  have hf':sameP x y=false:=by rw[hsx];exact eqL_false hu hv hf
  rw[eqL_false hx hy hf']
  refine gom ?_
  refine WQ.tp (Gp.neIns rfl rfl) kr kr rfl ?_
  rw[e3]
  refine gom ?_
  refine WC.rt ?_
  exact QF.p1 (.inl rfl) rfl (.tmp rfl) (⟨rfl,rfl,rfl⟩)
end
section
open Go.MapKept
attribute [local irreducible] Tryz.prog sameN sameP eqL
structure SLim (o:Ob):Prop where
 cl:o.consts.length≤100000000000000
 nl:o.needs.length≤100000000000000
 pl:o.procs.length≤100000000000000
 nd:∀q∈o.needs,q.params.length≤100000000000000
 pr:∀q∈o.procs,q.params.length≤100000000000000∧q.code.length≤100000000000000
def sameG (c d:List V) (p q:List Pr) (t u:List Pt):Bool:=decide (c=d)&&(eqL sameP p q&&eqL dPt t u)
set_option maxHeartbeats 1000000 in
theorem rSame_fn (G:Gh) (a b:Ob) (CA NA PA DA MA QA:Option Addr) (cc nc pc dc mc qc:Nat) (hA:ORep G a CA NA PA) (hB:ORep G b DA MA QA) (hL:SLim a):
  Fn Tryz.prog 24 #[.agg (obC a CA NA PA cc nc pc), .agg (obC b DA MA QA dc mc qc)] G [] fun e G' H'=>e= .returned (.bool (sameOb a b))∧G=G'∧H'=[]:=by
 have heq:=eqV_eq a.consts b.consts
 have hal:=hL.nl
 refine Fn.enter Tryz.func24 rfl rfl fun w0=>?_
 refine WC.seq ?_
 refine WC.region ?_
 refine WL.oo (OW.box rfl rfl fun b2=>?_)
 refine WL.oo (OW.box rfl rfl fun b3=>?_)
 refine gom ?_
 cases h1:(a.path==b.path)with
 | false=>
  rw[show sameOb a b=false by unfold sameOb;rw[h1];rfl]
  refine gom ?_
  refine WC.rt ?_
  exact QF.p1 (.inl rfl) rfl (.tmp rfl) (⟨rfl,rfl,rfl⟩)
 | true=>
 refine gom ?_
 refine WL.oo (OW.callK rfl (rsameV_fn G CA DA a.consts b.consts cc dc hA.consts hB.consts hL.cl) rfl fun v' G' H' h hg=>?_)
 obtain⟨he,rfl,rfl⟩:=h
 cases he
 cases h2:eqL dV a.consts b.consts with
 | false=>
  rw[show sameOb a b=false by unfold sameOb;rw[h1,←heq,h2];rfl]
  refine gom ?_
  refine WC.rt ?_
  exact QF.p1 (.inl rfl) rfl (.tmp rfl) (⟨rfl,rfl,rfl⟩)
 | true=>
 by_cases hne:a.needs.length=b.needs.length
 rotate_left
 ·have e1:((a.needs.length:Int) != (b.needs.length:Int))=true:=by rw[bne_iff_ne];omega
  rw[show sameOb a b=false by unfold sameOb;rw[h1,←heq,h2,eqL_len hne];rfl]
  refine gom ?_
  refine WC.rt ?_
  exact QF.p1 (.inl rfl) rfl (.tmp rfl) (⟨rfl,rfl,rfl⟩)
 have e1:((a.needs.length:Int) != (b.needs.length:Int))=false:=by rw[hne];simp
 refine gom ?_
 refine WL.oo (OW.callK rfl (rsameP_fn G PA QA a.procs b.procs pc qc hA.procs hB.procs hL.pl hL.pr) rfl fun v' G' H' h hg=>?_)
 obtain⟨he,rfl,rfl⟩:=h
 cases he
 cases h3:eqL sameP a.procs b.procs with
 | false=>
  rw[show sameOb a b=false by unfold sameOb;rw[h3];simp]
  refine gom ?_
  refine WC.rt ?_
  exact QF.p1 (.inl rfl) rfl (.tmp rfl) (⟨rfl,rfl,rfl⟩)
 | true=>
 have hs:sameOb a b=eqL sameN a.needs b.needs:=by unfold sameOb;rw[h1,←heq,h2,h3];simp
 rw[hs]
 refine gom ?_
 refine WC.loop (X:=Nat) (fun i=>[(2, .pointer (some ⟨b2,0,none⟩)),(3, .pointer (some ⟨b3,0,none⟩)),(5, .int .i64 i)]) (fun _=>G) (fun _=>[.blk b3 (.cells (obC b DA MA QA dc mc qc) 38 (0,0)), .blk b2 (.cells (obC a CA NA PA cc nc pc) 38 (0,0))]) (fun i=>a.needs.length - i) (fun i=>i≤a.needs.length∧∀(j:Nat) x y,j<i→a.needs[j]? =some x→b.needs[j]? =some y→sameN x y=true) 0 ⟨Nat.zero_le _,fun j x y h=>absurd h (Nat.not_lt_zero _)⟩ (by exact⟨rfl,rfl,rfl,trivial⟩) rfl (List.Sublist.refl _) fun i hx=>?_
 obtain⟨hi,hall⟩:=hx
 by_cases hlt:i<a.needs.length
 rotate_left
 ·have e2:decide ((i:Int)<(a.needs.length:Int))=false:=decide_eq_false (by omega)
  rw[eqL_true hne fun j x y hj=>hall j x y (by omega)]
  refine gom ?_
  refine WC.rt ?_
  exact QF.p1 (.inl rfl) rfl (.tmp rfl) (⟨rfl,rfl,rfl⟩)
 have e2:decide ((i:Int)<(a.needs.length:Int))=true:=decide_eq_true (by omega)
 obtain⟨x,hx⟩:∃x,a.needs[i]? =some x:=⟨_,List.getElem?_eq_getElem hlt⟩
 obtain⟨y,hy⟩:∃y,b.needs[i]? =some y:=⟨_,List.getElem?_eq_getElem (by omega)⟩
 obtain⟨ab,ao,cs1,rfl,hk1,hca⟩:=hA.needs i x hx
 obtain⟨bb,bo,cs2,rfl,hk2,hcb⟩:=hB.needs i y hy
 obtain⟨XA,xc,rfl,hX⟩:=hk1
 obtain⟨YA,yc,rfl,hY⟩:=hk2
 have hxl:=hL.nd x (List.mem_of_getElem? hx)
 have x0:(0:Int)≤i:=by omega
 have x2:(i:Int)<(a.needs.length:Int):=by omega
 have x3:(i:Int)<(b.needs.length:Int):=by omega
 have x4:=wrapS i (by omega)
 refine gom ?_
 refine WQ.one kr kr (OW.callK rfl (rsameNeed_fn G x y XA YA xc yc hX hY hxl) rfl fun v' G' H' h hg=>?_)
 obtain⟨he,rfl,rfl⟩:=h
 cases he
 cases hf:sameN x y with
 | true=>
  refine gom ?_
  exact WK.again (i+1) (by omega) ⟨by omega,eq_step hall hx hy hf⟩ (by exact⟨rfl,rfl,rfl,trivial⟩) rfl (List.Sublist.refl _)
 | false=>
  rw[eqL_false hx hy hf]
  refine gom ?_
  refine WC.rt ?_
  exact QF.p1 (.inl rfl) rfl (.tmp rfl) (⟨rfl,rfl,rfl⟩)
end
section
open Go.MapKept
attribute [local irreducible] Tryz.prog bytesO objAns progAns encO encG objI bytesPg
theorem BVec.kv {G:Gh} {A:Option Addr} {l:List Int} {c:Nat} {x:Own} (h:BVec A l c x):KVec (Kd.int .u8) 5 G A c l x:=⟨u8s l,h,⟨by rw[u8s_length];rfl,fun i x hx=>by
 have h1:(u8s l)[i]? =some (.int .u8 x):=by rw[u8s,List.getElem?_map,hx];rfl
 have hl':i<(u8s l).length:=(List.getElem?_eq_some_iff.1 h1).1
 show((u8s l).drop (i*1)).take 1=[.int .u8 x]
 rw[Nat.mul_one,List.drop_eq_getElem_cons hl']
 rw[List.getElem?_eq_getElem hl']at h1
 rw[Option.some.inj h1];rfl⟩⟩
theorem objBytesK_fn (G:Gh) (hE:Env G) (o:Ob) (CA NA PA:Option Addr) (cc nc pc:Nat) (hO:ORep G o CA NA PA) (hL:OLim o) (hi:∀v∈o.consts,ok64 v.i) (hcl:o.consts.length≤1000000000) (hnl:o.needs.length≤1000000000) (hpl:o.procs.length≤1000000000)
  (hpc:∀p∈o.procs,p.code.length≤9000000000000) (hl:(objI o).length≤70000000000000):
  Fn Tryz.prog 27 #[.agg (obC o CA NA PA cc nc pc)] G [] fun e G' H'=>∃A' cap',e= .returned (.tuple #[.slice A' (bytesO o).length cap', .int .i64 (objAns o).2.2])∧G.le G'∧Sl (Kd.int .u8) G' A' (bytesO o)∧H'=[]:=by
 refine Fn.freezeK (k:=Kd.int .u8) (by decide) (objBytes_fn G hE o CA NA PA cc nc pc hO hL hi hcl hnl hpl hpc hl) fun e G' H' h=>?_
 obtain⟨A',cap',x',he,hg,hv,rfl⟩:=h
 exact⟨_,_,_,_,x',0,hv.kv, .here,fun G'' hg' hv'=>⟨A',cap',he,Gh.le_trans hg hg',hv',rfl⟩⟩
theorem lnone_fn (G:Gh):Fn Tryz.prog 33 #[] G [] fun e G' H'=>e= .returned (.agg #[.int .i64 0, .int .i64 0])∧G=G'∧H'=[]:=by
 refine Fn.enter Tryz.func33 rfl rfl fun w0=>?_
 refine WC.seq ?_
 refine WC.region ?_
 refine WL.oo (OW.alloc rfl fun b0=>?_)
 refine gom ?_
 refine WC.rt ?_
 exact QF.p1 (.inl rfl) rfl (.cell rfl inferInstance inferInstance atA rfl rfl) (⟨rfl,rfl,rfl⟩)
section
variable {L:List (Nat×Value)} {d:Option Tmp} {ty:TypeId} {pos:String} {af:Array Edge} {gu:Option (Nat×Bool)}
theorem Gp.neFaultR {x y:Operand} {t':TypeId} {a b c e:Int} {r:Bool} (hx:ev L x=some (.agg #[.int .i64 a, .int .i64 b])) (hy:ev L y=some (.agg #[.int .i64 c, .int .i64 e])) (h:(!decide ((a,b)=(c,e)))=r):
  Gp Tryz.prog L ⟨d, .binOp .neq 77 x y t',ty,pos,af,gu⟩ (.bool r):=h▸Gp.neFault hx hy
theorem Gp.eqFaultR {x y:Operand} {t':TypeId} {a b c e:Int} {r:Bool} (hx:ev L x=some (.agg #[.int .i64 a, .int .i64 b])) (hy:ev L y=some (.agg #[.int .i64 c, .int .i64 e])) (h:decide ((a,b)=(c,e))=r):
  Gp Tryz.prog L ⟨d, .binOp .eql 77 x y t',ty,pos,af,gu⟩ (.bool r):=h▸Gp.eqFault hx hy
end
theorem okO_slim {o:Ob} (h:OLim o):SLim o:=⟨h.cl,h.nl,h.pl,fun q hq=>(h.nd q hq).1,fun q hq=>⟨(h.pr q hq).1,(h.pr q hq).2.1⟩⟩
set_option maxRecDepth 20000 in
set_option maxHeartbeats 8000000 in
theorem lawBack_fn (G:Gh) (hE:Env G) (o:Ob) (CA NA PA:Option Addr) (cc nc pc:Nat) (hO:ORep G o CA NA PA) (hM:mOb o≤1048576) (hi:∀v∈o.consts,ok64 v.i)
  (BA:Option Addr) (bs:List Int) (bc:Nat) (hB:Sl (Kd.int .u8) G BA bs) (hbs:∀c∈bs,0≤c∧c<256) (hl:bs.length≤70000000000000):
  Fn Tryz.prog 10 #[.agg (obC o CA NA PA cc nc pc), .slice BA bs.length bc] G [] fun e G' H'=>e= .returned (.bool true)∧G.le G'∧H'=[]:=by
 have hL:=olim_of hM
 have hol:=obj_len hM hi
 have hM':=hM
 unfold mOb at hM'
 have m1:=sum_len (m:=mV) o.consts fun x _=>by unfold mV;omega
 have m2:=sum_len (m:=mNd) o.needs fun x _=>by unfold mNd;omega
 have m3:=sum_len (m:=mPr) o.procs fun x _=>by unfold mPr;omega
 have hpc:∀p∈o.procs,p.code.length≤9000000000000:=fun p hp=>by
  have:p.name.size+p.params.length+p.code.length+1≤(o.procs.map mPr).sum:=sum_mem (m:=mPr) hp
  omega
 refine Fn.enter Tryz.func10 rfl rfl fun w0=>?_
 refine WC.seq ?_
 refine WC.region ?_
 refine WL.oo (OW.box rfl rfl fun b1=>?_)
 refine gom ?_
 refine WL.oo (OW.callK rfl (objBytesK_fn G hE o CA NA PA cc nc pc hO hL hi (by omega) (by omega) (by omega) hpc (by omega)) rfl fun v' G' H' h hg=>?_)
 obtain⟨A1,c1,he,hg1,h1,rfl⟩:=h
 cases he
 obtain⟨G1,rfl⟩:∃G1,G1=G':=⟨_,rfl⟩
 by_cases hz:(objAns o).2.2=0
 rotate_left
 ·have e1:((objAns o).2.2==0)=false:=by rw[beq_eq_false_iff_ne];exact hz
  refine gom ?_
  refine WL.oo (OW.callK rfl (objRead_fn G1 (hE.mono hg1) BA bs bc (hB.mono hg1) hbs (by omega)) rfl fun v' G' H' h hg=>?_)
  obtain⟨q,RA,SA,TA,rc,sc,tc,w,he,hg4,hO4,hL4,hcase,rfl⟩:=h
  cases he
  obtain⟨G4,rfl⟩:∃G4,G4=G':=⟨_,rfl⟩
  have hg04:=Gh.le_trans hg1 hg4
  refine gom ?_
  refine WL.oo (OW.alloc rfl fun b13=>?_)
  refine WL.oo (OW.alloc rfl fun b14=>?_)
  refine go ?_
  refine WC.pick [.blk b13 (.cells (obC q RA SA TA rc sc tc) 38 (0,0)), .blk b14 (.cells #[.int .i64 w, .int .i64 0] 77 (0,0))] ?_
  refine WC.drawS (Hs:=[.blk b13 (.cells (obC q RA SA TA rc sc tc) 38 (0,0)), .blk b14 (.cells #[.int .i64 w, .int .i64 0] 77 (0,0))]) mixed pkA ?_
  refine zb.ld 0 ?_
  refine WB.oo 1 rfl (OW.callK rfl (lnone_fn G4) rfl fun v' G' H' h hg=>?_)
  obtain⟨he,rfl,rfl⟩:=h
  cases he
  refine⟨fun w hw=>hw.pk pkA,?_⟩
  rcases hcase with⟨rfl,hz4,hok4,hbs4,_⟩ | ⟨rfl,_⟩
  rotate_left
  ·
   refine WB.pp 2 rfl (Gp.eqFaultR rfl rfl rfl) ?_
   refine WB.done kr ?_
   refine WK.un ?_
   refine gom ?_
   refine WL.oo (OW.callK rfl (awakeL G4 (hE.mono hg04)) rfl fun v' G' H' h hg=>?_)
   obtain⟨he,hg5,rfl⟩:=h
   cases he
   refine gom ?_
   refine WC.rt ?_
   exact QF.p1 (.inl rfl) rfl (.tmp rfl) (⟨rfl,Gh.le_trans hg04 hg5,rfl⟩)
  obtain⟨a1,a2,a3,a4,a5⟩:=okO_lim hok4
  have hoi:objI q=bs:=(obj_in hz4 a4).2.trans hbs4.symm
  have hbo:bytesO q=bs:=by rw[bytesO,if_pos hz4,hoi]
  have z1:((objAns q).2.2 != 0)=false:=by rw[hz4];rfl
  have z2:(strOfNums (bytesO q)==strOfNums bs)=true:=by rw[hbo];exact bb_refl _
  refine WB.pp 2 rfl (Gp.eqFaultR rfl rfl rfl) ?_
  refine WB.done kr ?_
  refine WK.un ?_
  refine gom ?_
  refine WL.oo (OW.callK rfl (objBytesK_fn G4 (hE.mono hg04) q RA SA TA rc sc tc hO4 hL4 a4 (by omega) (by omega) (by omega) (fun p hp=>by have:=a5 p hp;omega) (by rw[hoi];exact hl)) rfl fun v' G' H' h hg=>?_)
  obtain⟨A5,c5,he,hg5,h5,rfl⟩:=h
  cases he
  obtain⟨G5,rfl⟩:∃G5,G5=G':=⟨_,rfl⟩
  have hg05:=Gh.le_trans hg04 hg5
  refine gom ?_
  refine WL.oo (OW.callK rfl (Object_fn G5 (hE.mono hg05) q RA SA TA rc sc tc (hO4.mono hg5) hL4) rfl fun v' G' H' h hg=>?_)
  obtain⟨he,hg6,rfl⟩:=h
  cases he
  obtain⟨G6,rfl⟩:∃G6,G6=G':=⟨_,rfl⟩
  have hg06:=Gh.le_trans hg05 hg6
  have h6:=h5.mono hg6
  have hB6:=hB.mono hg06
  refine gom ?_
  refine WL.oo (OW.alloc rfl fun b16=>?_)
  refine gom ?_
  refine WL.vv (Gv.convBytes (xs:=bytesO q) rfl h6.u8s h6.none_zero) ?_
  refine gom ?_
  refine WL.vv (Gv.convBytes (xs:=bs) rfl hB6.u8s hB6.none_zero) ?_
  refine gom ?_
  rw[z2]
  refine gom ?_
  refine WL.oo (OW.callK rfl (awakeL G6 (hE.mono hg06)) rfl fun v' G' H' h hg=>?_)
  obtain⟨he,hg7,rfl⟩:=h
  cases he
  refine gom ?_
  refine WC.rt ?_
  exact QF.p1 (.inl rfl) rfl (.tmp rfl) (⟨rfl,Gh.le_trans hg06 hg7,rfl⟩)
 obtain⟨hok,henc⟩:=obj_in hz hi
 have hb0:bytesO o=objI o:=by rw[bytesO,if_pos hz]
 have hb:bytesO o=magI++encO o:=by rw[hb0,henc]
 have e1:((objAns o).2.2==0)=true:=by rw[beq_iff_eq];exact hz
 have hby:∀c∈bytesO o,0≤c∧c<256:=by rw[hb0];exact byt_obj o
 have hbl:(bytesO o).length≤140737488351232:=by rw[hb0];omega
 refine gom ?_
 refine WL.oo (OW.callK rfl (objRead_fn G1 (hE.mono hg1) A1 (bytesO o) c1 h1 hby hbl) rfl fun v' G' H' h hg=>?_)
 obtain⟨o2,DA,MA,QA,dc,mc,qc,w,he,hg2,hO2,hL2,hcase,rfl⟩:=h
 cases he
 obtain⟨rfl,rfl⟩:w=0∧o2=o:=by
  rcases hcase with⟨h0,_,_,_,hu⟩ | ⟨_,hn⟩
  ·exact⟨h0,(hu o hok hb).symm⟩
  ·exact absurd hb (hn o hok hz)
 obtain⟨G2,rfl⟩:∃G2,G2=G':=⟨_,rfl⟩
 have hg02:=Gh.le_trans hg1 hg2
 refine gom ?_
 refine WL.oo (OW.alloc rfl fun b3=>?_)
 refine WL.oo (OW.alloc rfl fun b4=>?_)
 refine gom ?_
 refine WL.oo (OW.callK rfl (pgRead_fn G2 (hE.mono hg02) A1 (bytesO o2) c1 (h1.mono hg2) hby hbl) rfl fun v' G' H' h hg=>?_)
 obtain⟨cs,prs,pts,C3,P3,T3,c3,p3,t3,w,he,hg3,_,_,_,_,hcase,rfl⟩:=h
 cases he
 obtain rfl:w=220:=by
  rcases hcase with⟨_,_,_,hx,_⟩ | ⟨h0,_⟩
  ·exact absurd (hb.symm.trans hx) mag_ne
  ·exact h0
 obtain⟨G3,rfl⟩:∃G3,G3=G':=⟨_,rfl⟩
 have hg03:=Gh.le_trans hg02 hg3
 refine gom ?_
 refine WL.oo (OW.alloc rfl fun b5=>?_)
 refine WL.oo (OW.alloc rfl fun b6=>?_)
 refine go ?_
 refine WC.pick [.blk b1 (.cells (obC o2 CA NA PA cc nc pc) 38 (0,0)), .blk b3 (.cells (obC o2 DA MA QA dc mc qc) 38 (0,0)), .blk b4 (.cells #[.int .i64 0, .int .i64 0] 77 (0,0)), .blk b6 (.cells #[.int .i64 220, .int .i64 0] 77 (0,0))] ?_
 refine WC.drawS (Hs:=[.blk b1 (.cells (obC o2 CA NA PA cc nc pc) 38 (0,0)), .blk b3 (.cells (obC o2 DA MA QA dc mc qc) 38 (0,0)), .blk b4 (.cells #[.int .i64 0, .int .i64 0] 77 (0,0)), .blk b6 (.cells #[.int .i64 220, .int .i64 0] 77 (0,0))]) mixed pkA ?_
 refine zb.ld 0 ?_
 refine WB.oo 1 rfl (OW.callK rfl (lnone_fn G3) rfl fun v' G' H' h hg=>?_)
 obtain⟨he,rfl,rfl⟩:=h
 cases he
 refine⟨fun w hw=>hw.pk pkA,?_⟩
 refine WB.pp 2 rfl (Gp.neFaultR rfl rfl rfl) ?_
 refine zb.move 3 ?_
 refine zb.ld 4 ?_
 refine zb.ld 5 ?_
 refine WB.oo 6 rfl (OW.callK rfl (rSame_fn G3 o2 o2 CA NA PA DA MA QA cc nc pc dc mc qc (hO.mono hg03) (hO2.mono hg3) (okO_slim hL)) rfl fun v' G' H' h hg=>?_)
 obtain⟨he,rfl,rfl⟩:=h
 rw[sameOb_refl]at he
 cases he
 refine⟨fun w hw=>hw.pk pkA,?_⟩
 refine zb.not 7 ?_
 refine zb.pick 8 ?_
 refine zb.move 9 ?_
 refine zb.ld 10 ?_
 refine zb.build 11 ?_
 refine WB.pp 12 rfl (Gp.neFaultR rfl rfl rfl) ?_
 refine zb.pick 13 ?_
 refine WB.done kr ?_
 refine WK.un ?_
 refine gom ?_
 refine WL.oo (OW.callK rfl (objRead_fn G3 (hE.mono hg03) BA bs bc (hB.mono hg03) hbs (by omega)) rfl fun v' G' H' h hg=>?_)
 obtain⟨q,RA,SA,TA,rc,sc,tc,w,he,hg4,hO4,hL4,hcase,rfl⟩:=h
 cases he
 obtain⟨G4,rfl⟩:∃G4,G4=G':=⟨_,rfl⟩
 have hg04:=Gh.le_trans hg03 hg4
 refine gom ?_
 refine WL.oo (OW.alloc rfl fun b8=>?_)
 refine WL.oo (OW.alloc rfl fun b9=>?_)
 refine go ?_
 refine WC.pick [.blk b8 (.cells (obC q RA SA TA rc sc tc) 38 (0,0)), .blk b9 (.cells #[.int .i64 w, .int .i64 0] 77 (0,0))] ?_
 refine WC.drawS (Hs:=[.blk b8 (.cells (obC q RA SA TA rc sc tc) 38 (0,0)), .blk b9 (.cells #[.int .i64 w, .int .i64 0] 77 (0,0))]) mixed pkA ?_
 refine zb.ld 0 ?_
 refine WB.oo 1 rfl (OW.callK rfl (lnone_fn G4) rfl fun v' G' H' h hg=>?_)
 obtain⟨he,rfl,rfl⟩:=h
 cases he
 refine⟨fun w hw=>hw.pk pkA,?_⟩
 rcases hcase with⟨rfl,hz4,hok4,hbs4,_⟩ | ⟨rfl,_⟩
 rotate_left
 ·
  refine WB.pp 2 rfl (Gp.eqFaultR rfl rfl rfl) ?_
  refine WB.done kr ?_
  refine WK.un ?_
  refine gom ?_
  refine WL.oo (OW.callK rfl (awakeL G4 (hE.mono hg04)) rfl fun v' G' H' h hg=>?_)
  obtain⟨he,hg5,rfl⟩:=h
  cases he
  refine gom ?_
  refine WC.rt ?_
  exact QF.p1 (.inl rfl) rfl (.tmp rfl) (⟨rfl,Gh.le_trans hg04 hg5,rfl⟩)
 obtain⟨a1,a2,a3,a4,a5⟩:=okO_lim hok4
 have hoi:objI q=bs:=(obj_in hz4 a4).2.trans hbs4.symm
 have hbo:bytesO q=bs:=by rw[bytesO,if_pos hz4,hoi]
 have z1:((objAns q).2.2 != 0)=false:=by rw[hz4];rfl
 have z2:(strOfNums (bytesO q)==strOfNums bs)=true:=by rw[hbo];exact bb_refl _
 refine WB.pp 2 rfl (Gp.eqFaultR rfl rfl rfl) ?_
 refine WB.done kr ?_
 refine WK.un ?_
 refine gom ?_
 refine WL.oo (OW.callK rfl (objBytesK_fn G4 (hE.mono hg04) q RA SA TA rc sc tc hO4 hL4 a4 (by omega) (by omega) (by omega) (fun p hp=>by have:=a5 p hp;omega) (by rw[hoi];exact hl)) rfl fun v' G' H' h hg=>?_)
 obtain⟨A5,c5,he,hg5,h5,rfl⟩:=h
 cases he
 obtain⟨G5,rfl⟩:∃G5,G5=G':=⟨_,rfl⟩
 have hg05:=Gh.le_trans hg04 hg5
 refine gom ?_
 refine WL.oo (OW.callK rfl (Object_fn G5 (hE.mono hg05) q RA SA TA rc sc tc (hO4.mono hg5) hL4) rfl fun v' G' H' h hg=>?_)
 obtain⟨he,hg6,rfl⟩:=h
 cases he
 obtain⟨G6,rfl⟩:∃G6,G6=G':=⟨_,rfl⟩
 have hg06:=Gh.le_trans hg05 hg6
 have h6:=h5.mono hg6
 have hB6:=hB.mono hg06
 refine gom ?_
 refine WL.oo (OW.alloc rfl fun b11=>?_)
 refine gom ?_
 refine WL.vv (Gv.convBytes (xs:=bytesO q) rfl h6.u8s h6.none_zero) ?_
 refine gom ?_
 refine WL.vv (Gv.convBytes (xs:=bs) rfl hB6.u8s hB6.none_zero) ?_
 refine gom ?_
 rw[z2]
 refine gom ?_
 refine WL.oo (OW.callK rfl (awakeL G6 (hE.mono hg06)) rfl fun v' G' H' h hg=>?_)
 obtain⟨he,hg7,rfl⟩:=h
 cases he
 refine gom ?_
 refine WC.rt ?_
 exact QF.p1 (.inl rfl) rfl (.tmp rfl) (⟨rfl,Gh.le_trans hg06 hg7,rfl⟩)
end
section
open Go.RowKit Go.ChangeShapes Go.WideShapes Go.MapKept
theorem ecells_u8:Tryz.prog.cellsOf 5=1:=by kernel_rfl
section
attribute [local irreducible] Tryz.prog
variable {H:Type} (enc:TypeId×Value→H) (w:World)
end
end
section
open Go.RowKit Go.ChangeShapes Go.WideShapes Go.MapKept
theorem i64_in {z:Int} (h:i64 z): -9223372036854775808≤z∧z≤9223372036854775807:=by
 unfold i64 at h
 simp[Lit.wf,IntKind.min,IntKind.max,IntKind.signed,IntKind.bits]at h
 omega
section
attribute [local irreducible] Tryz.prog
variable {H:Type} (enc:TypeId×Value→H) (w:World)
theorem open_objM {v:Value} {d:DataW H} {ps:List MemPlace} {base:Nat} (hval:Value.okWide Tryz.prog w .any base 38 v) (hd:DataW.Trod enc Tryz.prog w 0 (fun _=>true) true 38 v d ps) (hw:Rows.uptoBulk d≤1048576):
  ∃(o:Ob) (CA NA PA:Option Addr) (cc nc pc:Nat),v= .agg (obC o CA NA PA cc nc pc)∧ORep (Gw w) o CA NA PA∧mOb o≤1048576∧OInt o:=by
 obtain⟨cells,rfl,_⟩:=okWide_struct Tryz.underlying38 hval
 obtain⟨fuel,hd⟩:=hd
 obtain⟨o,hk,hm,hi⟩:=OpensW.object enc w fuel _ d ps hd hw
 obtain⟨CA,cc,NA,nc,PA,pc,hcs,hO⟩:=hk
 refine⟨o,CA,NA,PA,cc,nc,pc,?_,hO,by omega,hi⟩
 have hcl:(Value.agg cells).cells.toList=cells.toList:=rfl
 rw[hcl]at hcs
 unfold obC
 congr 1
 cases cells
 simp at hcs
 rw[hcs]
end
end
section
open Go.RowKit Go.ChangeShapes Go.WideShapes Go.MapKept
theorem wf_u8' {z:Int} (h:(Lit.int .u8 z).wf=true):0≤z∧z<256:=by
 simp[Lit.wf,IntKind.min,IntKind.max,IntKind.signed,IntKind.bits]at h
 omega
section
attribute [local irreducible] Tryz.prog
variable {H:Type} (enc:TypeId×Value→H) (w:World)
theorem open_bytesU {v:Value} {d:DataW H} {ps:List MemPlace} {base:Nat} (hval:Value.okWide Tryz.prog w .any base 71 v) (hd:DataW.Trod enc Tryz.prog w 0 (fun _=>true) true 71 v d ps) (hw:Rows.uptoBulk d≤1048576):
  ∃(x:List Int) (A:Option Addr) (c:Nat),v= .slice A x.length c∧Sl (Kd.int .u8) (Gw w) A x∧x.length≤c∧x.length≤1048576∧∀z∈x,0≤z∧z<256:=by
 obtain⟨A,c,x,h1,h2,h3,h4,h5⟩:=open_sliceU enc Tryz.prog w Tryz.underlying71 (k:=Kd.int .u8) ecells_u8 (by decide) (OpensU.int enc Tryz.prog w Tryz.underlying5) hval hd hw
 exact⟨x,A,c,h1,h3,h2,h4,fun z hz=>wf_u8' (h5 z hz)⟩
end
end
end Go.Proofs.YtcnlkfocbbkdhaaGreatDoor.Gb
