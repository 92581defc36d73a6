/- Layer 22: wire: texts, numbers, truths, put. Layer 22: the writer: walked. Layer 22: the writer: values, heads, procedures: walked. Layer 22: the writer: heads, procedures: walked. Layer 22: a constant's bytes; the writer's first text. Layer 22: object.Bytes: walked. What a reader reads, as a relation: sound and full (no program in sight). A number at a place of bytes, read: walked. Readers of bytes: numbers of at most so much, bytes, ends: walked. Texts, numbers with a sign and truths read: the relation (no program in sight). The reader of bytes: numbers with a sign, truths, texts, raw bytes, walked. What a file of an object is made of: the relation of reading (no program in sight). The reader of an object's file: small things, heads, walked. Layer 22: the two small objects of the law's last word: they must be taken (no program in sight). Layer 22: the law's own small objects: walked. The machine's stack and its small helpers, part 2. The machine's values and tests. Numbers and texts compared and reckoned with. -/
import Derived.Test.YtcnlkfocbbkdhaaGreatDoorVf
set_option linter.unusedVariables false
set_option linter.unusedSimpArgs false
set_option linter.unusedSectionVars false
namespace Go.Proofs.YtcnlkfocbbkdhaaGreatDoor.Gb
open Go Go.Proofs
section
open Go.MapKept
section
variable {P:Program} {L:List (Nat×Value)} {d:Option Tmp} {ty:TypeId} {pos:String} {af:Array Edge} {gu:Option (Nat×Bool)}
theorem Gp.shlT {t t':TypeId} {x y:Operand} {k k':IntKind} {m n r:Int} (hx:ev L x=some (.int k m)) (hy:ev L y=some (.int k' n)) (hn:0≤n) (hr:k.wrap (m*2^min n.toNat k.bits)=r):Gp P L ⟨d, .binOp .shl t x y t',ty,pos,af,gu⟩ (.int k r):=
 fun a st w=>by subst hr;simp[execOp,st.eval hx,st.eval hy,eqGuard_shl,binOp_shl,shift_shl_any k k' m n hn]
theorem Gp.xorT {t t':TypeId} {x y:Operand} {k:IntKind} {m n r:Int} (hx:ev L x=some (.int k m)) (hy:ev L y=some (.int k n)) (hr:bits .xor k m n=r):Gp P L ⟨d, .binOp .xor t x y t',ty,pos,af,gu⟩ (.int k r):=
 fun a st w=>by subst hr;simp[execOp,st.eval hx,st.eval hy,eqGuard_xor,binOp_xor,intBits_xor]
end
attribute [local irreducible] Tryz.prog
def zzN (n:Int):Nat:=if 0≤n then(2*n).toNat else(-2*n - 1).toNat
theorem zz_step {n:Int} (h: -9223372036854775808≤n∧n≤9223372036854775807):
  bits .xor .u64 (IntKind.u64.wrap (IntKind.u64.wrap n*2^min (1:Int).toNat IntKind.u64.bits)) (IntKind.u64.wrap (n / 2^min (63:Int).toNat IntKind.i64.bits))=((zzN n:Nat):Int):=by
 have e1:min (1:Int).toNat IntKind.u64.bits=1:=rfl
 have e2:min (63:Int).toNat IntKind.i64.bits=63:=rfl
 have w:∀z:Int,IntKind.u64.wrap z=z%18446744073709551616:=fun z=>by simp[IntKind.wrap,IntKind.signed,IntKind.bits]
 rw[e1,e2,w,w,w]
 unfold zzN
 by_cases h0:0≤n
 ·rw[if_pos h0]
  have a1:n%18446744073709551616*2^1%18446744073709551616=(((2*n).toNat:Nat):Int):=by omega
  have a2:n / 2^63%18446744073709551616=((0:Nat):Int):=by omega
  rw[a1,a2,bits_xor_u64_nat _ _ (by omega) (by omega),Nat.xor_zero]
 ·rw [if_neg h0]
  have a1:n%18446744073709551616*2^1%18446744073709551616=(((2*n+18446744073709551616).toNat:Nat):Int):=by omega
  have a2:n / 2^63%18446744073709551616=((18446744073709551615:Nat):Int):=by omega
  rw[a1,a2,bits_xor_u64_nat _ _ (by omega) (by omega)]
  have hx:∀m:Nat,m<2^64→m^^^(2^64 - 1)=2^64 - 1 - m:=fun m hm=>by
   apply Nat.eq_of_testBit_eq
   intro i
   rw[Nat.testBit_xor,Nat.testBit_two_pow_sub_one,show 2^64 - 1 - m=2^64 - (m+1) by omega,Nat.testBit_two_pow_sub_succ hm]
   by_cases hi:i<64
   ·simp[hi]
   ·have:m.testBit i=false:=Nat.testBit_lt_two_pow (Nat.lt_of_lt_of_le hm (Nat.pow_le_pow_right (by decide) (by omega)))
    simp[hi,this]
  have:=hx (2*n+18446744073709551616).toNat (by omega)
  rw[show(2:Nat)^64 - 1=18446744073709551615 by decide]at this
  rw[this];omega
theorem zzN_lt {n:Int} (h: -9223372036854775808≤n∧n≤9223372036854775807):zzN n<18446744073709551616:=by unfold zzN;split<;>omega
def strsI (ss:List ByteArray):List Int:=ss.flatMap fun s=>uintL s.size++strI s
theorem strsI_snoc {ss:List ByteArray} {k:Nat} {s:ByteArray} (h:ss[k]? =some s):strsI (ss.take (k+1))=strsI (ss.take k)++uintL s.size++strI s:=by
 unfold strsI
 rw[take_snoc' h,List.flatMap_append];simp[List.append_assoc]
theorem strsI_take {ss:List ByteArray} (k:Nat):(strsI (ss.take k)).length≤(strsI ss).length:=by
 conv=>rhs;rw[←List.take_append_drop k ss]
 unfold strsI
 rw[List.flatMap_append,List.length_append];omega
theorem freshN_fn (G:Gh) (A:Option Addr) (l:List Int) (cap:Nat) (x:Own) (hx:BVec A l cap x) (hl:l.length≤100000000000000) (k:Nat) (hk:k≤1000):
  Fn Tryz.prog 151 #[.slice A l.length cap, .int .i64 k] G [x] fun e G' H'=>∃A' cap' x',e= .returned (.slice A' l.length cap')∧G=G'∧BVec A' l cap' x'∧H'=[x']:=by
 refine Fn.enter Tryz.func151 rfl rfl fun w0=>?_
 have x2:IntKind.i64.wrap ((l.length:Int)+k)=((l.length+k:Nat):Int):=by rw[wrapI (by omega) (by omega)];rfl
 refine gom ?_
 refine WL.oo (OW.makeSlice2 (n:=1) (z:= .int .u8 0) (m:=(l.length:Int)) (c:=((l.length+k:Nat):Int)) rfl rfl rfl (by omega) (by omega) (by omega) (by omega) rfl fun tb o1 ho1=>?_)
 rw[Int.toNat_natCast,Int.toNat_natCast]at ho1⊢
 refine gom ?_
 refine WL.oo (OW.copy rfl rfl kr ho1 .here (hx.rds (.there .here)) (u8s_length l) (u8s_one l) (Nat.le_refl _) rfl fun o2 ho2=>?_)
 have h2:BVec (some ⟨tb,0,none⟩) l (l.length+k) o2:=by
  unfold BVec
  rw[List.drop_eq_nil_of_le (by rw[repS_length];exact Nat.le_refl _),List.append_nil]at ho2
  exact ho2
 refine gom ?_
 refine WC.rt ?_
 exact QF.p1 (.inl rfl) rfl (.tmp rfl) (⟨_,_,o2,rfl,rfl,h2,rfl⟩)
theorem texts_fn (G:Gh) (A:Option Addr) (l:List Int) (cap:Nat) (x:Own) (hx:BVec A l cap x) (SA:Option Addr) (ss:List ByteArray) (sc:Nat) (hS:Sl Kd.str G SA ss) (hsl:ss.length≤1000) (hl:l.length+(strsI ss).length≤100000000000000):
  Fn Tryz.prog 150 #[.slice A l.length cap, .slice SA ss.length sc] G [x] fun e G' H'=>∃A' cap' x',e= .returned (.slice A' (l++strsI ss).length cap')∧G=G'∧BVec A' (l++strsI ss) cap' x'∧H'=[x']:=by
 refine Fn.enter Tryz.func150 rfl rfl fun w0=>?_
 refine gom ?_
 have hnil:l++strsI (ss.take 0)=l:=by simp[strsI]
 refine WC.loop (X:=Nat×Option Addr×Nat×Own) (fun s=>[(0, .slice s.2.1 (l++strsI (ss.take s.1)).length s.2.2.1),(7, .slice SA ss.length sc),(8, .int .i64 ss.length),(9, .int .i64 s.1)]) (fun _=>G) (fun s=>[s.2.2.2]) (fun s=>ss.length - s.1) (fun s=>s.1≤ss.length∧BVec s.2.1 (l++strsI (ss.take s.1)) s.2.2.1 s.2.2.2) (0,A,cap,x) ⟨Nat.zero_le _,by rw[hnil];exact hx⟩ (by exact⟨by show _=some (Value.slice A _ cap);rw[hnil];rfl,rfl,rfl,rfl,trivial⟩) rfl (List.Sublist.refl _) (fun s hs=>?_)
 obtain⟨k,B,c,o⟩:=s
 obtain⟨hk,hv⟩:=hs
 dsimp only at hk hv
 have x2:=wrapS k (by omega)
 by_cases hlt:k<ss.length
 rotate_left
 ·have e2:decide ((k:Int)<(ss.length:Int))=false:=decide_eq_false (by omega)
  rw[List.take_of_length_le (by omega)]at hv
  have ht:ss.take k=ss:=List.take_of_length_le (by omega)
  refine gom ?_
  refine WC.rt ?_
  exact QF.p1 (.inl rfl) rfl (.tmp rfl) (⟨B,c,o,by dsimp only;rw[ht],rfl,hv,rfl⟩)
 have e2:decide ((k:Int)<(ss.length:Int))=true:=decide_eq_true (by omega)
 obtain⟨s,hs⟩:∃s,ss[k]? =some s:=⟨_,List.getElem?_eq_getElem (by omega)⟩
 obtain⟨ib,io,ics,rfl,hik,hic⟩:=hS k s hs
 obtain rfl:ics=[.string s]:=hik
 have x0:(0:Int)≤(k:Int):=by omega
 have x1':(k:Int)<(ss.length:Int):=by omega
 have hle:=strsI_take (ss:=ss) (k+1)
 rw[strsI_snoc hs,List.length_append,List.length_append,strI_length]at hle
 have hal:(l++strsI (ss.take k)).length=l.length+(strsI (ss.take k)).length:=List.length_append
 refine gom ?_
 refine WL.pp (Gp.convTo (r:=((s.size:Nat):Int)) rfl (by rw[u64n ⟨by omega,by omega⟩];rfl)) ?_
 refine WL.oo (OW.callK rfl (short_fn G B (l++strsI (ss.take k)) c o hv s.size (by omega) (by omega)) rfl fun v' G' H' h hg=>?_)
 obtain⟨A1,c1,x1,he,rfl,h1,rfl⟩:=h
 cases he
 have hb1:(l++strsI (ss.take k)++uintL s.size).length=l.length+(strsI (ss.take k)).length+(uintL s.size).length:=by rw[List.length_append,hal]
 refine gom ?_
 refine WL.oo (OW.appendStr rfl rfl h1 atA (by omega) rfl fun A2 c2 o2 hv2=>?_)
 have h2:=BVec.str hv2
 have hen:l++strsI (ss.take k)++uintL s.size++strI s=l++strsI (ss.take (k+1)):=by rw[strsI_snoc hs];simp only[List.append_assoc]
 have hl2:(l++strsI (ss.take k)++uintL s.size).length+s.size=(l++strsI (ss.take (k+1))).length:=by rw[←hen,List.length_append (bs:=strI s),strI_length]
 rw[hen]at h2
 refine gom ?_
 refine WK.pick [o2] ?_
 exact WK.again (k+1,A2,c2,o2) (by dsimp only;omega) ⟨by dsimp only;omega,h2⟩ (by exact⟨by show _=some (Value.slice A2 _ c2);rw[←hl2];rfl,rfl,rfl,rfl,trivial⟩) rfl (List.Sublist.refl _)
theorem putText_fn (G:Gh) (A:Option Addr) (l:List Int) (cap:Nat) (x:Own) (hx:BVec A l cap x) (SA:Option Addr) (ss:List ByteArray) (sc:Nat) (hS:Sl Kd.str G SA ss) (hsl:ss.length≤1000) (hl:l.length+(strsI ss).length≤100000000000000):
  Fn Tryz.prog 104 #[.slice A l.length cap, .slice SA ss.length sc] G [x] fun e G' H'=>∃A' cap' x',e= .returned (.slice A' (l++strsI ss).length cap')∧G=G'∧BVec A' (l++strsI ss) cap' x'∧H'=[x']:=by
 refine Fn.enter Tryz.func104 rfl rfl fun w0=>?_
 refine gom ?_
 refine WL.oo (OW.callK rfl (freshN_fn G A l cap x hx (by omega) 16 (by decide)) rfl fun v' G' H' h hg=>?_)
 obtain⟨A1,c1,x1,he,rfl,h1,rfl⟩:=h
 cases he
 refine gom ?_
 refine WL.oo (OW.callK rfl (texts_fn G A1 l c1 x1 h1 SA ss sc hS hsl hl) rfl fun v' G' H' h hg=>?_)
 obtain⟨A2,c2,x2,he,rfl,h2,rfl⟩:=h
 cases he
 refine gom ?_
 refine WC.rt ?_
 exact QF.p1 (.inl rfl) rfl (.tmp rfl) (⟨_,_,x2,rfl,rfl,h2,rfl⟩)
theorem putInt_fn (G:Gh) (A:Option Addr) (l:List Int) (cap:Nat) (x:Own) (hx:BVec A l cap x) (n:Int) (hn: -9223372036854775808≤n∧n≤9223372036854775807) (hl:l.length≤100000000000000):
  Fn Tryz.prog 106 #[.slice A l.length cap, .int .i64 n] G [x] fun e G' H'=>∃A' cap' x',e= .returned (.slice A' (l++uintL (zzN n)).length cap')∧G=G'∧BVec A' (l++uintL (zzN n)) cap' x'∧H'=[x']:=by
 refine Fn.enter Tryz.func106 rfl rfl fun w0=>?_
 refine gom ?_
 refine WL.oo (OW.callK rfl (fresh_fn G A l cap x hx (by omega)) rfl fun v' G' H' h hg=>?_)
 obtain⟨A1,c1,x1,he,rfl,h1,rfl⟩:=h
 cases he
 refine gom ?_
 refine WL.pp (Gp.convTo (r:=IntKind.u64.wrap n) rfl rfl) ?_
 refine WL.pp (Gp.shlT (r:=IntKind.u64.wrap (IntKind.u64.wrap n*2^min (1:Int).toNat IntKind.u64.bits)) rfl rfl (by decide) rfl) ?_
 refine gom ?_
 refine WL.pp (Gp.shrTo (r:=n / 2^min (63:Int).toNat IntKind.i64.bits) rfl rfl (by decide) rfl) ?_
 refine WL.pp (Gp.convTo (r:=IntKind.u64.wrap (n / 2^min (63:Int).toNat IntKind.i64.bits)) rfl rfl) ?_
 refine WL.pp (Gp.xorT (r:=((zzN n:Nat):Int)) rfl rfl (zz_step hn)) ?_
 refine WL.oo (OW.callK rfl (short_fn G A1 l c1 x1 h1 (zzN n) (zzN_lt hn) hl) rfl fun v' G' H' h hg=>?_)
 obtain⟨A2,c2,x2,he,rfl,h2,rfl⟩:=h
 cases he
 refine gom ?_
 refine WC.rt ?_
 exact QF.p1 (.inl rfl) rfl (.tmp rfl) (⟨_,_,x2,rfl,rfl,h2,rfl⟩)
def boolI (b:Bool):Int:=if b then 1 else 0
theorem putBool_fn (G:Gh) (A:Option Addr) (l:List Int) (cap:Nat) (x:Own) (hx:BVec A l cap x) (b:Bool) (hl:l.length≤100000000000000):
  Fn Tryz.prog 107 #[.slice A l.length cap, .bool b] G [x] fun e G' H'=>∃A' cap' x',e= .returned (.slice A' (l++[boolI b]).length cap')∧G=G'∧BVec A' (l++[boolI b]) cap' x'∧H'=[x']:=by
 refine Fn.enter Tryz.func107 rfl rfl fun w0=>?_
 cases b with
 | true=>
  refine gom ?_
  refine WL.oo (OW.callK rfl (freshN_fn G A l cap x hx (by omega) 1 (by decide)) rfl fun v' G' H' h hg=>?_)
  obtain⟨A1,c1,x1,he,rfl,h1,rfl⟩:=h
  cases he
  refine WL.op kr (OW.buildSlice rfl kr kr (by rfl) rfl fun b8=>?_)
  refine WL.oo (OW.append rfl rfl kr kr h1 atA (Rds.blk0 (cs:=[.int .u8 1]) .here rfl) rfl rfl (by omega) (by omega) rfl fun A3 c3 o3 hv3=>?_)
  have h3:=BVec.snoc hv3
  have hl3:l.length+1=(l++[(1:Int)]).length:=by rw[List.length_append];rfl
  refine gom ?_
  refine WC.rt ?_
  exact QF.p1 (.inl rfl) rfl (.tmp rfl) (⟨A3,c3,o3,by rw[show boolI true=1 from rfl,←hl3],rfl,h3,rfl⟩)
 | false=>
  refine gom ?_
  refine WL.oo (OW.callK rfl (freshN_fn G A l cap x hx (by omega) 1 (by decide)) rfl fun v' G' H' h hg=>?_)
  obtain⟨A1,c1,x1,he,rfl,h1,rfl⟩:=h
  cases he
  refine WL.op kr (OW.buildSlice rfl kr kr (by rfl) rfl fun b12=>?_)
  refine WL.oo (OW.append rfl rfl kr kr h1 atA (Rds.blk0 (cs:=[.int .u8 0]) .here rfl) rfl rfl (by omega) (by omega) rfl fun A3 c3 o3 hv3=>?_)
  have h3:=BVec.snoc hv3
  have hl3:l.length+1=(l++[(0:Int)]).length:=by rw[List.length_append];rfl
  refine gom ?_
  refine WC.rt ?_
  exact QF.p1 (.inl rfl) rfl (.tmp rfl) (⟨A3,c3,o3,by rw[show boolI false=0 from rfl,←hl3],rfl,h3,rfl⟩)
end
section
open Go.MapKept
attribute [local irreducible] Tryz.prog
abbrev wrB (wb:Nat) (A:Option Addr) (n cap:Nat):Own:= .blk wb (.cells #[.slice A n cap] 115 (0,0))
def WrP (wb:Nat) (l more:List Int) (G:Gh) (e:Ending) (G':Gh) (H':List Own):Prop:=
 ∃A' cap' x',e= .returned (.tuple #[])∧G.le G'∧BVec A' (l++more) cap' x'∧H'=[wrB wb A' (l++more).length cap',x']
def txtI (s:ByteArray):List Int:=uintL s.size++strI s
def uI (n:Int):List Int:=uintL (IntKind.u64.wrap n).toNat
theorem u64_wrap (n:Int):IntKind.u64.wrap n=(((IntKind.u64.wrap n).toNat:Nat):Int)∧(IntKind.u64.wrap n).toNat<18446744073709551616:=by
 have w:IntKind.u64.wrap n=n%18446744073709551616:=by simp[IntKind.wrap,IntKind.signed,IntKind.bits]
 rw[w];omega
theorem uI_len (n:Int):(uI n).length≤10:=uintL_len10 (u64_wrap n).2
def kindI (t:Int):List Int:=[IntKind.u8.wrap t]
theorem uint_fn (G:Gh) (wb:Nat) (A:Option Addr) (l:List Int) (cap:Nat) (x:Own) (hx:BVec A l cap x) (n:Int) (hl:l.length≤100000000000000):
  Fn Tryz.prog 61 #[.pointer (some ⟨wb,0,none⟩), .int .i64 n] G [wrB wb A l.length cap,x] (WrP wb l (uI n) G):=by
 refine Fn.enter Tryz.func61 rfl rfl fun w0=>?_
 refine gom ?_
 refine WL.pp (Gp.convTo (r:=(((IntKind.u64.wrap n).toNat:Nat):Int)) rfl (u64_wrap n).1) ?_
 refine WL.oo (OW.callK rfl (putUint_fn G A l cap x hx (IntKind.u64.wrap n).toNat (u64_wrap n).2 hl) rfl fun v' G' H' h hg=>?_)
 obtain⟨A1,c1,x1,he,rfl,h1,rfl⟩:=h
 cases he
 refine gom ?_
 refine WK.un ?_
 exact QF.p0 (.inr rfl) rfl  (⟨A1,c1,x1,rfl,Gh.le_refl _,h1,rfl⟩)
theorem text_fn (G:Gh) (wb:Nat) (A:Option Addr) (l:List Int) (cap:Nat) (x:Own) (hx:BVec A l cap x) (s:ByteArray) (hl:l.length+s.size≤90000000000000):
  Fn Tryz.prog 59 #[.pointer (some ⟨wb,0,none⟩), .string s] G [wrB wb A l.length cap,x] (WrP wb l (txtI s) G):=by
 refine Fn.enter Tryz.func59 rfl rfl fun w0=>?_
 have hst:strsI [s]=txtI s:=by simp[strsI,txtI]
 have h10:=uintL_len10 (n:=s.size) (by omega)
 have hlt:(txtI s).length≤s.size+10:=by rw[txtI,List.length_append,strI_length];omega
 refine gom ?_
 refine WL.op kr (OW.buildSlice rfl kr kr (by rfl) rfl fun b6=>?_)
 refine WL.freezeK (k:=Kd.str) (A:=some ⟨_,0,none⟩) (T:=9) (cap:=1) (l:=[s]) (by decide) ⟨[.string s],⟨rfl, .inr ⟨_,_,rfl,rfl,Nat.le_refl _,rfl,rfl⟩⟩,KFl.one (k:=Kd.str) rfl⟩ .here fun G1 hg1 hS=>?_
 refine gom ?_
 refine WL.oo (OW.callK rfl (putText_fn G1 A l cap x hx _ [s] 1 hS (by simp) (by rw[hst];omega)) rfl fun v' G' H' h hg=>?_)
 obtain⟨A1,c1,x1,he,rfl,h1,rfl⟩:=h
 cases he
 rw[hst]at h1⊢
 refine gom ?_
 refine WK.un ?_
 exact QF.p0 (.inr rfl) rfl  (⟨A1,c1,x1,rfl,hg1,h1,rfl⟩)
theorem kind_fn (G:Gh) (wb:Nat) (A:Option Addr) (l:List Int) (cap:Nat) (x:Own) (hx:BVec A l cap x) (t:Int) (hl:l.length≤100000000000000):
  Fn Tryz.prog 105 #[.pointer (some ⟨wb,0,none⟩), .int .i64 t] G [wrB wb A l.length cap,x] (WrP wb l (kindI t) G):=by
 refine Fn.enter Tryz.func105 rfl rfl fun w0=>?_
 refine gom ?_
 refine WL.pp (Gp.convTo (r:=IntKind.u8.wrap t) rfl rfl) ?_
 refine WL.op kr (OW.buildSlice rfl kr kr (by rfl) rfl fun b7=>?_)
 refine WL.oo (OW.append rfl rfl kr kr hx atA (Rds.blk0 (cs:=[.int .u8 (IntKind.u8.wrap t)]) .here rfl) rfl rfl (by omega) (by omega) rfl fun A3 c3 o3 hv3=>?_)
 have h3:=BVec.snoc hv3
 have hl3:l.length+1=(l++kindI t).length:=by rw[List.length_append];rfl
 refine gom ?_
 refine WK.un ?_
 exact QF.p0 (.inr rfl) rfl  (⟨A3,c3,o3,rfl,Gh.le_refl _,h3,by rw[←hl3]⟩)
end
section
open Go.MapKept
attribute [local irreducible] Tryz.prog
def valI (v:V):List Int:=kindI v.t++(if v.t=1 then uintL (zzN v.i)else if v.t=2 then [boolI v.b]else if v.t=3 then txtI v.s else [])
def valsI (vs:List V):List Int:=uI vs.length++vs.flatMap valI
def headI (s:ByteArray) (ps:List Int) (r:Int):List Int:=txtI s++uI ps.length++ps.flatMap kindI++kindI r
def procI (p:Pr):List Int:=headI p.name p.params p.result++[boolI p.exp]++uI p.locals++(bytesR p.code).1
def procsI (ps:List Pr):List Int:=uI ps.length++ps.flatMap procI
section
variable {α:Type} {f:α→List Int} {l:List α} {k:Nat} {a:α}
theorem flat_snoc (h:l[k]? =some a):(l.take (k+1)).flatMap f=(l.take k).flatMap f++f a:=by rw[take_snoc' h,List.flatMap_append];simp
theorem flat_take (k:Nat):((l.take k).flatMap f).length≤(l.flatMap f).length:=by
 conv=>rhs;rw[←List.take_append_drop k l]
 rw[List.flatMap_append,List.length_append];omega
theorem flat_at (h:l[k]? =some a):((l.take k).flatMap f).length+(f a).length≤(l.flatMap f).length:=by
 rw[←List.length_append,←flat_snoc h];exact flat_take _
end
structure WrS where
 i:Nat
 A:Option Addr
 cap:Nat
 x:Own
 G:Gh
 n:Nat
set_option maxRecDepth 20000 in
set_option maxHeartbeats 2000000 in
theorem wvalues_fn (G:Gh) (wb:Nat) (A:Option Addr) (l:List Int) (cap:Nat) (x:Own) (hx:BVec A l cap x) (VA:Option Addr) (vs:List V) (vc:Nat) (hV:Sl Kd.val G VA vs) (hi:∀v∈vs, -9223372036854775808≤v.i∧v.i≤9223372036854775807) (hvl:vs.length≤1000000000) (hl:l.length+(valsI vs).length≤80000000000000):
  Fn Tryz.prog 60 #[.pointer (some ⟨wb,0,none⟩), .slice VA vs.length vc] G [wrB wb A l.length cap,x] (WrP wb l (valsI vs) G):=by
 refine Fn.enter Tryz.func60 rfl rfl fun w0=>?_
 refine gom ?_
 refine WL.oo (OW.callK rfl (uint_fn G wb A l cap x hx (vs.length:Int) (by omega)) rfl fun v' G' H' h hg=>?_)
 obtain⟨A1,c1,x1,he,hg1,h1,rfl⟩:=h
 cases he
 refine gom ?_
 have hb:∀k,(l++uI vs.length++(vs.take k).flatMap valI).length=l.length+(uI vs.length).length+((vs.take k).flatMap valI).length:=fun k=>by rw[List.length_append,List.length_append]
 have hvl':(valsI vs).length=(uI vs.length).length+(vs.flatMap valI).length:=by rw[valsI,List.length_append]
 have h00:l++uI vs.length++(vs.take 0).flatMap valI=l++uI vs.length:=by simp
 refine WC.loop (X:=WrS) (fun s=>[(0, .pointer (some ⟨wb,0,none⟩)),(10, .slice VA vs.length vc),(11, .int .i64 vs.length),(12, .int .i64 s.i)]) (fun s=>s.G) (fun s=>[wrB wb s.A s.n s.cap,s.x]) (fun s=>vs.length - s.i) (fun s=>s.i≤vs.length∧G.le s.G∧BVec s.A (l++uI vs.length++(vs.take s.i).flatMap valI) s.cap s.x∧s.n=(l++uI vs.length++(vs.take s.i).flatMap valI).length)
  ⟨0,A1,c1,x1,G',(l++uI vs.length).length⟩ ⟨Nat.zero_le _,hg1,by rw[h00];exact h1,by dsimp only;rw[h00]⟩ (by exact⟨rfl,rfl,rfl,rfl,trivial⟩) rfl (List.Sublist.refl _) (fun s hs=>?_)
 obtain⟨k,B,c,o,G2,n⟩:=s
 obtain⟨hk,hg2,hv,hn⟩:=hs
 dsimp only at hk hg2 hv hn
 have x2:=wrapS k (by omega)
 by_cases hlt:k<vs.length
 rotate_left
 ·have e2:decide ((k:Int)<(vs.length:Int))=false:=decide_eq_false (by omega)
  have ht:l++uI vs.length++(vs.take k).flatMap valI=l++valsI vs:=by rw[List.take_of_length_le (by omega),valsI,List.append_assoc]
  rw[ht]at hv hn
  subst hn
  refine gom ?_
  refine WK.un ?_
  exact QF.p0 (.inr rfl) rfl  (⟨B,c,o,rfl,hg2,hv,rfl⟩)
 have e2:decide ((k:Int)<(vs.length:Int))=true:=decide_eq_true (by omega)
 obtain⟨v,hvk⟩:∃v,vs[k]? =some v:=⟨_,List.getElem?_eq_getElem (by omega)⟩
 have hvi:=hi v (List.mem_of_getElem? hvk)
 have hV2:=hV.mono hg2
 obtain⟨ib,io,ics,rfl,hik,hic⟩:=hV2 k v hvk
 obtain rfl:ics=vcells v:=hik
 have x0:(0:Int)≤(k:Int):=by omega
 have x1':(k:Int)<(vs.length:Int):=by omega
 have hfa:=flat_at (f:=valI) hvk
 have hfs:=flat_snoc (f:=valI) hvk
 have hva:(valI v).length=1+(if v.t=1 then uintL (zzN v.i)else if v.t=2 then [boolI v.b]else if v.t=3 then txtI v.s else []).length:=by rw[valI,List.length_append];rfl
 have hbk:=hb k
 generalize hM:l++uI vs.length++(vs.take k).flatMap valI=M at*
 have hnext:l++uI vs.length++(vs.take (k+1)).flatMap valI=M++valI v:=by rw[hfs,←List.append_assoc,hM]
 subst hn
 have hkl:(M++kindI v.t).length=M.length+1:=by rw[List.length_append];rfl
 refine gom ?_
 refine WL.oo (OW.alloc rfl fun b5=>?_)
 refine gom ?_
 refine WL.oo (OW.callK rfl (kind_fn G2 wb B M c o hv v.t (by omega)) rfl fun v' G' H' h hg=>?_)
 obtain⟨A3,c3,x3,he,hg3,h3,rfl⟩:=h
 cases he
 by_cases t1:v.t=1
 ·have e1:(v.t==1)=true:=by rw[beq_iff_eq];exact t1
  rw[if_pos t1]at hva
  have hen:M++kindI v.t++uintL (zzN v.i)=M++valI v:=by rw[valI,if_pos t1,List.append_assoc]
  refine gom ?_
  refine WQ.one kr kr (OW.callK rfl (putInt_fn G' A3 (M++kindI v.t) c3 x3 h3 v.i hvi (by omega)) rfl fun v' G' H' h hg=>?_)
  obtain⟨A4,c4,x4,he,rfl,h4,rfl⟩:=h
  cases he
  rw[hen]at h4⊢
  refine gom ?_
  refine WQ.one kr kr (OW.store rfl rfl atA rfl (by rfl) (by rfl) kr (by rfl) ?_ rfl)
  refine gom ?_
  refine WK.pick [wrB wb A4 (M++valI v).length c4,x4] ?_
  exact WK.again ⟨k+1,A4,c4,x4,G',(M++valI v).length⟩ (by dsimp only;omega) ⟨by dsimp only;omega,Gh.le_trans hg2 hg3,by dsimp only;rw[hnext];exact h4,by dsimp only;rw[hnext]⟩ (by exact⟨rfl,rfl,rfl,rfl,trivial⟩) rfl (List.Sublist.refl _)
 have e1:(v.t==1)=false:=by rw[beq_eq_false_iff_ne];exact t1
 rw[if_neg t1]at hva
 by_cases t2:v.t=2
 ·have e2':(v.t==2)=true:=by rw[beq_iff_eq];exact t2
  rw[if_pos t2]at hva
  have hen:M++kindI v.t++[boolI v.b]=M++valI v:=by rw[valI,if_neg t1,if_pos t2,List.append_assoc]
  refine gom ?_
  refine WQ.one kr kr (OW.callK rfl (putBool_fn G' A3 (M++kindI v.t) c3 x3 h3 v.b (by omega)) rfl fun v' G' H' h hg=>?_)
  obtain⟨A4,c4,x4,he,rfl,h4,rfl⟩:=h
  cases he
  rw[hen]at h4⊢
  refine gom ?_
  refine WQ.one kr kr (OW.store rfl rfl atA rfl (by rfl) (by rfl) kr (by rfl) ?_ rfl)
  refine gom ?_
  refine WK.pick [wrB wb A4 (M++valI v).length c4,x4] ?_
  exact WK.again ⟨k+1,A4,c4,x4,G',(M++valI v).length⟩ (by dsimp only;omega) ⟨by dsimp only;omega,Gh.le_trans hg2 hg3,by dsimp only;rw[hnext];exact h4,by dsimp only;rw[hnext]⟩ (by exact⟨rfl,rfl,rfl,rfl,trivial⟩) rfl (List.Sublist.refl _)
 have e2':(v.t==2)=false:=by rw[beq_eq_false_iff_ne];exact t2
 rw[if_neg t2]at hva
 by_cases t3:v.t=3
 ·have e3:(v.t==3)=true:=by rw[beq_iff_eq];exact t3
  rw[if_pos t3]at hva
  have hen:M++kindI v.t++txtI v.s=M++valI v:=by rw[valI,if_neg t1,if_neg t2,if_pos t3,List.append_assoc]
  have htx:(txtI v.s).length=(uintL v.s.size).length+v.s.size:=by rw[txtI,List.length_append,strI_length]
  refine gom ?_
  refine WL.oo (OW.callK rfl (text_fn G' wb A3 (M++kindI v.t) c3 x3 h3 v.s (by omega)) rfl fun v' G' H' h hg=>?_)
  obtain⟨G3,rfl⟩:∃G3,G3=G':=⟨_,rfl⟩
  obtain⟨A4,c4,x4,he,hg4,h4,rfl⟩:=h
  cases he
  rw[hen]at h4⊢
  refine gom ?_
  refine WK.pick [wrB wb A4 (M++valI v).length c4,x4] ?_
  exact WK.again ⟨k+1,A4,c4,x4,_,(M++valI v).length⟩ (by dsimp only;omega) ⟨by dsimp only;omega,Gh.le_trans hg2 (Gh.le_trans hg3 hg4),by dsimp only;rw[hnext];exact h4,by dsimp only;rw[hnext]⟩ (by exact⟨rfl,rfl,rfl,rfl,trivial⟩) rfl (List.Sublist.refl _)
 have e3:(v.t==3)=false:=by rw[beq_eq_false_iff_ne];exact t3
 have hen:M++kindI v.t=M++valI v:=by rw[valI,if_neg t1,if_neg t2,if_neg t3,List.append_nil]
 rw[hen]at h3⊢
 refine gom ?_
 refine WK.pick [wrB wb A3 (M++valI v).length c3,x3] ?_
 exact WK.again ⟨k+1,A3,c3,x3,G',(M++valI v).length⟩ (by dsimp only;omega) ⟨by dsimp only;omega,Gh.le_trans hg2 hg3,by dsimp only;rw[hnext];exact h3,by dsimp only;rw[hnext]⟩ (by exact⟨rfl,rfl,rfl,rfl,trivial⟩) rfl (List.Sublist.refl _)
end
section
open Go.MapKept
attribute [local irreducible] Tryz.prog bytesR
theorem kinds_len:∀ps:List Int,(ps.flatMap kindI).length=ps.length
 | []=>rfl
 | p::ps=>by rw[List.flatMap_cons,List.length_append,kinds_len ps];show 1+_=_;rw[List.length_cons];omega
theorem headI_len (s:ByteArray) (ps:List Int) (r:Int):(headI s ps r).length=(txtI s).length+(uI ps.length).length+ps.length+1:=by
 simp only[headI,List.length_append,kinds_len];rfl
set_option maxRecDepth 20000 in
set_option maxHeartbeats 2000000 in
theorem whead_fn (G:Gh) (wb:Nat) (A:Option Addr) (l:List Int) (cap:Nat) (x:Own) (hx:BVec A l cap x) (s:ByteArray) (VA:Option Addr) (vs:List Int) (vc:Nat) (r:Int) (hV:Sl (Kd.int .i64) G VA vs) (hl:l.length+(headI s vs r).length≤80000000000000):
  Fn Tryz.prog 62 #[.pointer (some ⟨wb,0,none⟩), .string s, .slice VA vs.length vc, .int .i64 r] G [wrB wb A l.length cap,x] (WrP wb l (headI s vs r) G):=by
 have hhl:=headI_len s vs r
 have htx:(txtI s).length=(uintL s.size).length+s.size:=by rw[txtI,List.length_append,strI_length]
 refine Fn.enter Tryz.func62 rfl rfl fun w0=>?_
 refine gom ?_
 refine WL.oo (OW.callK rfl (text_fn G wb A l cap x hx s (by omega)) rfl fun v' G' H' h hg=>?_)
 obtain⟨A0,c0,x0,he,hg0,h0,rfl⟩:=h
 cases he
 obtain⟨G1,rfl⟩:∃G1,G1=G':=⟨_,rfl⟩
 have hb0:(l++txtI s).length=l.length+(txtI s).length:=List.length_append
 refine gom ?_
 refine WL.oo (OW.callK rfl (uint_fn G1 wb A0 (l++txtI s) c0 x0 h0 (vs.length:Int) (by omega)) rfl fun v' G' H' h hg=>?_)
 obtain⟨A1,c1,x1,he,hg1,h1,rfl⟩:=h
 cases he
 refine gom ?_
 generalize hB:l++txtI s++uI vs.length=N at*
 have hbN:N.length=l.length+(txtI s).length+(uI vs.length).length:=by rw[←hB,List.length_append,List.length_append]
 have h00:N++(vs.take 0).flatMap kindI=N:=by simp
 refine WC.loop (X:=WrS) (fun s=>[(0, .pointer (some ⟨wb,0,none⟩)),(3, .int .i64 r),(17, .slice VA vs.length vc),(18, .int .i64 vs.length),(19, .int .i64 s.i)]) (fun s=>s.G) (fun s=>[wrB wb s.A s.n s.cap,s.x]) (fun s=>vs.length - s.i) (fun s=>s.i≤vs.length∧G.le s.G∧BVec s.A (N++(vs.take s.i).flatMap kindI) s.cap s.x∧s.n=(N++(vs.take s.i).flatMap kindI).length)
  ⟨0,A1,c1,x1,G',N.length⟩ ⟨Nat.zero_le _,Gh.le_trans hg0 hg1,by rw[h00];exact h1,by dsimp only;rw[h00]⟩ (by exact⟨rfl,rfl,rfl,rfl,rfl,trivial⟩) rfl (List.Sublist.refl _) (fun s hs=>?_)
 obtain⟨k,B,c,o,G2,n⟩:=s
 obtain⟨hk,hg2,hv,hn⟩:=hs
 dsimp only at hk hg2 hv hn
 have x2:=wrapS k (by omega)
 by_cases hlt:k<vs.length
 rotate_left
 ·have e2:decide ((k:Int)<(vs.length:Int))=false:=decide_eq_false (by omega)
  rw[List.take_of_length_le (by omega)]at hv hn
  have hbk:(N++vs.flatMap kindI).length=N.length+vs.length:=by rw[List.length_append,kinds_len]
  subst hn
  refine gom ?_
  refine WL.oo (OW.callK rfl (kind_fn G2 wb B _ c o hv r (by omega)) rfl fun v' G' H' h hg=>?_)
  obtain⟨A3,c3,x3,he,hg3,h3,rfl⟩:=h
  cases he
  have ht:N++vs.flatMap kindI++kindI r=l++headI s vs r:=by rw[headI,←hB];simp only[List.append_assoc]
  rw[ht]at h3⊢
  refine gom ?_
  refine WK.un ?_
  exact QF.p0 (.inr rfl) rfl  (⟨A3,c3,x3,rfl,Gh.le_trans hg2 hg3,h3,rfl⟩)
 have e2:decide ((k:Int)<(vs.length:Int))=true:=decide_eq_true (by omega)
 obtain⟨v,hvk⟩:∃v,vs[k]? =some v:=⟨_,List.getElem?_eq_getElem (by omega)⟩
 have hV2:=hV.mono hg2
 obtain⟨ib,io,ics,rfl,hik,hic⟩:=hV2 k v hvk
 obtain rfl:ics=[.int .i64 v]:=hik
 have x0:(0:Int)≤(k:Int):=by omega
 have x1':(k:Int)<(vs.length:Int):=by omega
 have hfs:=flat_snoc (f:=kindI) hvk
 have hfa:=flat_take (f:=kindI) (l:=vs) k
 have hkk:=kinds_len vs
 have hbk:(N++(vs.take k).flatMap kindI).length=N.length+((vs.take k).flatMap kindI).length:=List.length_append
 generalize hM:N++(vs.take k).flatMap kindI=M at*
 have hnext:N++(vs.take (k+1)).flatMap kindI=M++kindI v:=by rw[hfs,←List.append_assoc,hM]
 subst hn
 refine gom ?_
 refine WL.oo (OW.callK rfl (kind_fn G2 wb B M c o hv v (by omega)) rfl fun v' G' H' h hg=>?_)
 obtain⟨A3,c3,x3,he,hg3,h3,rfl⟩:=h
 cases he
 refine gom ?_
 refine WK.pick [wrB wb A3 (M++kindI v).length c3,x3] ?_
 exact WK.again ⟨k+1,A3,c3,x3,G',(M++kindI v).length⟩ (by dsimp only;omega) ⟨by dsimp only;omega,Gh.le_trans hg2 hg3,by dsimp only;rw[hnext];exact h3,by dsimp only;rw[hnext]⟩ (by exact⟨rfl,rfl,rfl,rfl,rfl,trivial⟩) rfl (List.Sublist.refl _)
set_option maxRecDepth 20000 in
set_option maxHeartbeats 2000000 in
theorem wprocs_fn (G:Gh) (wb:Nat) (A:Option Addr) (l:List Int) (cap:Nat) (x:Own) (hx:BVec A l cap x) (VA:Option Addr) (vs:List Pr) (vc:Nat) (hV:Sl Kd.prc G VA vs) (hvl:vs.length≤1000000000) (hcl:∀p∈vs,p.code.length≤9000000000000) (hl:l.length+(procsI vs).length≤80000000000000):
  Fn Tryz.prog 63 #[.pointer (some ⟨wb,0,none⟩), .slice VA vs.length vc] G [wrB wb A l.length cap,x] (WrP wb l (procsI vs) G):=by
 have hvl':(procsI vs).length=(uI vs.length).length+(vs.flatMap procI).length:=by rw[procsI,List.length_append]
 refine Fn.enter Tryz.func63 rfl rfl fun w0=>?_
 refine gom ?_
 refine WL.oo (OW.callK rfl (uint_fn G wb A l cap x hx (vs.length:Int) (by omega)) rfl fun v' G' H' h hg=>?_)
 obtain⟨A1,c1,x1,he,hg1,h1,rfl⟩:=h
 cases he
 refine gom ?_
 generalize hB:l++uI vs.length=N at*
 have hbN:N.length=l.length+(uI vs.length).length:=by rw[←hB,List.length_append]
 have h00:N++(vs.take 0).flatMap procI=N:=by simp
 refine WC.loop (X:=WrS) (fun s=>[(0, .pointer (some ⟨wb,0,none⟩)),(12, .slice VA vs.length vc),(13, .int .i64 vs.length),(14, .int .i64 s.i)]) (fun s=>s.G) (fun s=>[wrB wb s.A s.n s.cap,s.x]) (fun s=>vs.length - s.i) (fun s=>s.i≤vs.length∧G.le s.G∧BVec s.A (N++(vs.take s.i).flatMap procI) s.cap s.x∧s.n=(N++(vs.take s.i).flatMap procI).length)
  ⟨0,A1,c1,x1,G',N.length⟩ ⟨Nat.zero_le _,hg1,by rw[h00];exact h1,by dsimp only;rw[h00]⟩ (by exact⟨rfl,rfl,rfl,rfl,trivial⟩) rfl (List.Sublist.refl _) (fun s hs=>?_)
 obtain⟨k,B,c,o,G2,n⟩:=s
 obtain⟨hk,hg2,hv,hn⟩:=hs
 dsimp only at hk hg2 hv hn
 have x2:=wrapS k (by omega)
 by_cases hlt:k<vs.length
 rotate_left
 ·have e2:decide ((k:Int)<(vs.length:Int))=false:=decide_eq_false (by omega)
  have ht:N++vs.flatMap procI=l++procsI vs:=by rw[procsI,←hB,List.append_assoc]
  rw[List.take_of_length_le (by omega),ht]at hv hn
  subst hn
  refine gom ?_
  refine WK.un ?_
  exact QF.p0 (.inr rfl) rfl  (⟨B,c,o,rfl,hg2,hv,rfl⟩)
 have e2:decide ((k:Int)<(vs.length:Int))=true:=decide_eq_true (by omega)
 obtain⟨v,hvk⟩:∃v,vs[k]? =some v:=⟨_,List.getElem?_eq_getElem (by omega)⟩
 have hcv:=hcl v (List.mem_of_getElem? hvk)
 have hV2:=hV.mono hg2
 obtain⟨ib,io,ics,rfl,hik,hic⟩:=hV2 k v hvk
 obtain⟨QA,qc,CA,cc,rfl,hQ,hC⟩:=hik
 have x0:(0:Int)≤(k:Int):=by omega
 have x1':(k:Int)<(vs.length:Int):=by omega
 have hfs:=flat_snoc (f:=procI) hvk
 have hfa:=flat_at (f:=procI) hvk
 have hbk:(N++(vs.take k).flatMap procI).length=N.length+((vs.take k).flatMap procI).length:=List.length_append
 have hpi:(procI v).length=(headI v.name v.params v.result).length+1+(uI v.locals).length+(bytesR v.code).1.length:=by simp only[procI,List.length_append];rfl
 generalize hM:N++(vs.take k).flatMap procI=M at*
 have hnext:N++(vs.take (k+1)).flatMap procI=M++procI v:=by rw[hfs,←List.append_assoc,hM]
 subst hn
 refine gom ?_
 refine WL.oo (OW.alloc rfl fun b5=>?_)
 refine gom ?_
 refine WL.oo (OW.callK rfl (whead_fn G2 wb B M c o hv v.name QA v.params qc v.result hQ (by omega)) rfl fun v' G' H' h hg=>?_)
 obtain⟨A3,c3,x3,he,hg3,h3,rfl⟩:=h
 cases he
 obtain⟨G3,rfl⟩:∃G3,G3=G':=⟨_,rfl⟩
 have hb3:(M++headI v.name v.params v.result).length=M.length+(headI v.name v.params v.result).length:=List.length_append
 refine gom ?_
 refine WQ.one kr kr (OW.callK rfl (putBool_fn G3 A3 _ c3 x3 h3 v.exp (by omega)) rfl fun v' G' H' h hg=>?_)
 obtain⟨A4,c4,x4,he,rfl,h4,rfl⟩:=h
 cases he
 have hb4:(M++headI v.name v.params v.result++[boolI v.exp]).length=M.length+(headI v.name v.params v.result).length+1:=by rw[List.length_append,hb3];rfl
 refine gom ?_
 refine WQ.one kr kr (OW.store rfl rfl atA rfl (by rfl) (by rfl) kr (by rfl) ?_ rfl)
 refine gom ?_
 refine WL.oo (OW.callK rfl (uint_fn G3 wb A4 _ c4 x4 h4 v.locals (by omega)) rfl fun v' G' H' h hg=>?_)
 obtain⟨A5,c5,x5,he,hg5,h5,rfl⟩:=h
 cases he
 have hC5:=hC.mono (Gh.le_trans hg3 hg5)
 have hb5:(M++headI v.name v.params v.result++[boolI v.exp]++uI v.locals).length=M.length+(headI v.name v.params v.result).length+1+(uI v.locals).length:=by rw[List.length_append,hb4]
 refine gom ?_
 refine WL.oo (OW.callK rfl (Bytes_fn _ CA v.code cc hC5 hcv) rfl fun v' G' H' h hg=>?_)
 obtain⟨A6,c6,x6,he,rfl,h6,rfl⟩:=h
 cases he
 refine gom ?_
 refine WL.oo (OW.append rfl rfl kr kr h5 atA (h6.rds atA) (u8s_length _) (u8s_one _) (by omega) (by omega) rfl fun A7 c7 x7 hv7=>?_)
 have h7:=BVec.more hv7
 have hen:M++headI v.name v.params v.result++[boolI v.exp]++uI v.locals++(bytesR v.code).1=M++procI v:=by simp only[procI,List.append_assoc]
 have hl7:(M++headI v.name v.params v.result++[boolI v.exp]++uI v.locals).length+(bytesR v.code).1.length=(M++procI v).length:=by rw[←hen,List.length_append (bs:=(bytesR v.code).1)]
 rw[hen]at h7
 rw[hl7]
 refine gom ?_
 refine WK.pick [wrB wb A7 (M++procI v).length c7,x7] ?_
 exact WK.again ⟨k+1,A7,c7,x7,_,(M++procI v).length⟩ (by dsimp only;omega) ⟨by dsimp only;omega,Gh.le_trans hg2 (Gh.le_trans hg3 hg5),by dsimp only;rw[hnext];exact h7,by dsimp only;rw[hnext]⟩ (by exact⟨rfl,rfl,rfl,rfl,trivial⟩) rfl (List.Sublist.refl _)
end
section
open Go.MapKept
section
variable {P:Program} {Q:Exit→Act→World→Prop} {cx:Cx} {L:List (Nat×Value)} {G:Gh} {H:List Own} {K:List (Nat×Value)→Gh→List Own→Prop}
 {d:Option Tmp} {ty:TypeId} {pos:String} {af:Array Edge} {gu:Option (Nat×Bool)}
theorem OW.buildSliceN {t e n by_ len:Nat} {z:Value} {ps:Array (Nat×Operand)} {vs:List (Nat×Value)} {cells:List Value} (hp:evP L ps=some vs) [hu:Und P t (.slice e)] [hi:Inf P e n by_ z] (hlim:leLim (len*n)=true) (hz:z.cells.size=n)
  (hf:fillS (fun i=>some (i*n,n)) (repS len z.cells.toList) vs=some cells) (hd:dOk d cx.N=true)
  (k:∀b,cx.w0.heap.size≤b→K (putL d (.slice (some ⟨b,0,none⟩) len len) L) G (.blk b (.cells cells.toArray e (0,0))::H)):OW P Q ⟨d, .buildSlice t len ps,ty,pos,af,gu⟩ cx L G H K:=by
 refine OW.gives hd fun a w st=>⟨.slice (some ⟨w.heap.size,0,none⟩) len len,w.alloc (.cells cells.toArray e),G, .blk w.heap.size (.cells cells.toArray e (0,0))::H, .inl ?_,st.sat.alloc _,Stp.alloc _,k _ st.stp.size⟩
 have hl:=Nat.le_of_ble_eq_true hlim
 have he:=Sk.evP st.slot hp
 have hl':¬(16777216<len*n):=by omega
 have hf1:=fill_of_fillS _ _ _ _ hf
 rw[←base_repS z.cells n len hz]at hf1
 have hrun:∀PS:Array (Nat×Value),PS.toList=vs→(Instr.buildSlice t len PS).run P w= .ok (.slice (some ⟨w.heap.size,0,none⟩) len len) (w.alloc (.cells cells.toArray e)):=by
  intro PS he
  by_cases h0:len*n=0
  ·rw[h0]at hf1
   simp only[Array.range_zero',List.map_toArray,List.map_nil]at hf1
   simp[Instr.buildSlice,run_underlying hu.h,hi.sizeOf,h0,he,newRow,Array.range_zero',hf1]
  ·simp[Instr.buildSlice,run_underlying hu.h,hi.sizeOf,hi.zeroValue,h0,hl',he,hf1,newRow]
 simp only[execOp,Sem.run_bind,hrun _ he,Result.andThen_ok]
 rfl
theorem OW.convMark {t e b n cap j:Nat} {x:Operand} {c:Array Value} (hx:ev L x=some (.slice (some ⟨b,0,none⟩) n cap)) [hu:Und P t (.slice e)] [he:Und P e (.int .u8)] (hj:At H j (.blk b (.cells c e (0,0)))) (hb:cx.w0.heap.size≤b) (hd:dOk d cx.N=true)
  (k:G.le (G.add b c)→K (putL d (.slice (some ⟨b,0,none⟩) n cap) L) (G.add b c) (H.eraseIdx j)):OW P Q ⟨d, .convert t t x,ty,pos,af,gu⟩ cx L G H K:=by
 intro next hn a w st
 have hh:w.heap[b]? =some (.cells c e (0,0)):=st.sat.hold _ (List.mem_of_getElem? hj.get)
 have hbl:b<w.heap.size:=(Array.getElem?_eq_some_iff.1 hh).1
 have hsh:w.shape? b=some (e,c.size):=by unfold World.shape?;rw[hh]
 have hrun:(execOp a.eval ⟨d, .convert t t x,ty,pos,af,gu⟩).run P w= .ok (.value (.slice (some ⟨b,0,none⟩) n cap)) (w.freeze ⟨b,c.size,none⟩ 1):=by
  simp[execOp,st.eval hx,convert,run_underlying hu.h,run_underlying he.h,markStringish,hsh]
 have hheap:∀b',b'≠b→(w.freeze ⟨b,c.size,none⟩ 1).heap[b']? =w.heap[b']? :=fun b' hne=>by
  unfold World.freeze
  rw[if_neg (by decide)]
  show(w.heap.modify b _)[b']? =_
  rw[Array.getElem?_modify,if_neg (fun e=>hne e.symm)]
 have hat:∃fr,(w.freeze ⟨b,c.size,none⟩ 1).heap[b]? =some (.cells c e fr):=by
  unfold World.freeze
  rw[if_neg (by decide)]
  refine⟨(c.size,c.size+1),?_⟩
  show(w.heap.modify b _)[b]? =_
  rw[Array.getElem?_modify,if_pos rfl,hh]
  rfl
 have hcell:∀b' o,(w.freeze ⟨b,c.size,none⟩ 1).cell? ⟨b',o,none⟩=w.cell? ⟨b',o,none⟩:=fun b' o=>by
  by_cases hbb:b'=b
  ·subst hbb
   obtain⟨fr,h⟩:=hat
   simp only[World.cell?,h,hh]
  ·simp only[World.cell?,hheap b' hbb]
 have hsz:(w.freeze ⟨b,c.size,none⟩ 1).heap.size=w.heap.size:=by
  unfold World.freeze
  rw[if_neg (by decide)]
  exact Array.size_modify
 have hfz:=st.sat.frozen hj
 have hap:=List.pairwise_cons.1 (st.sat.perm (perm_at hj)).apart
 have hsat:Sat (G.add b c) (H.eraseIdx j) (w.freeze ⟨b,c.size,none⟩ 1):=by
  refine⟨fun b' o v e=>by rw[hcell];exact hfz.2.agr b' o v e,fun y hy=>?_,hfz.2.apart,hfz.2.ghost⟩
  have hy0:=hfz.2.hold y hy
  have hne:=hap.1 y hy
  cases y with
  | blk b2 o2=>
   have:b2≠b:=fun e=>hne b 0 rfl e.symm
   show _=_
   rw[hheap b2 this];exact hy0
  | spare b2 lo hi=>
   intro hlt
   obtain⟨c2,T2,h1,h2⟩:=hy0 hlt
   have:b2≠b:=fun e=>hne b lo rfl ⟨e.symm,Nat.le_refl _,hlt⟩
   exact⟨c2,T2,by rw[hheap b2 this];exact h1,h2⟩
 have hstp:Stp cx.S cx.G0 cx.w0 (G.add b c) (H.eraseIdx j) (w.freeze ⟨b,c.size,none⟩ 1):=by
  refine⟨by rw[hsz];exact st.stp.size,fun b' hb'=>?_,Gh.le_trans st.stp.gle hfz.1,fun b' o v e=>?_,fun y hy=>st.stp.own y (List.mem_of_mem_eraseIdx hy),?_⟩
  ·have h:=st.stp.keep b' hb'
   have hne:b'≠b:=by omega
   unfold KeepB at h⊢
   rw[hheap b' hne];exact h
  ·unfold Gh.add at e
   split at e
   ·rename_i hbb;subst hbb;exact .inr (.inr hb)
   ·exact st.stp.gnew b' o v e
  ·have h:=st.stp.weq
   unfold World.freeze
   rw[if_neg (by decide)]
   exact h
 unfold Oper.wp
 rw[hrun]
 exact hn _ _ _ (k hfz.1) _ _ (st.put d _ hd hsat hstp)
end
attribute [local irreducible] Tryz.prog
theorem freshF_fn (G:Gh) (A:Option Addr) (l:List Int) (cap:Nat) (hA:Sl (Kd.int .u8) G A l) (hl:l.length≤100000000000000) (k:Nat) (hk:k≤1000):
  Fn Tryz.prog 151 #[.slice A l.length cap, .int .i64 k] G [] fun e G' H'=>∃A' cap' x',e= .returned (.slice A' l.length cap')∧G=G'∧BVec A' l cap' x'∧H'=[x']:=by
 refine Fn.enter Tryz.func151 rfl rfl fun w0=>?_
 have x2:IntKind.i64.wrap ((l.length:Int)+k)=((l.length+k:Nat):Int):=by rw[wrapI (by omega) (by omega)];rfl
 have hrd:∀H:List Own,Rds G H A (u8s l):=fun H=>by
  obtain⟨cs,h1,h2⟩:=hA.kfl (H:=H) (by decide)
  have:cs=u8s l:=by
   apply List.ext_getElem?
   intro i
   cases hi:l[i]? with
   | none=>
    have:cs.length≤i:=by have:=h2.len;rw[List.getElem?_eq_none_iff]at hi;simp only[Kd.int]at this;omega
    rw[List.getElem?_eq_none this,u8s,List.getElem?_map,hi];rfl
   | some z=>
    have h3:=h2.at_ i z hi
    have h4:(cs.drop (i*1)).take 1=[.int .u8 z]:=h3
    rw[u8s,List.getElem?_map,hi]
    have h5:((cs.drop (i*1)).take 1)[0]? =some (.int .u8 z):=by rw[h4];rfl
    rw[List.getElem?_take,if_pos (by decide),List.getElem?_drop,Nat.mul_one,Nat.add_zero]at h5
    exact h5
  rw[←this];exact h1
 refine gom ?_
 refine WL.oo (OW.makeSlice2 (n:=1) (z:= .int .u8 0) (m:=(l.length:Int)) (c:=((l.length+k:Nat):Int)) rfl rfl rfl (by omega) (by omega) (by omega) (by omega) rfl fun tb o1 ho1=>?_)
 rw[Int.toNat_natCast,Int.toNat_natCast]at ho1⊢
 refine gom ?_
 refine WL.oo (OW.copy rfl rfl kr ho1 .here (hrd _) (u8s_length l) (u8s_one l) (Nat.le_refl _) rfl fun o2 ho2=>?_)
 have h2:BVec (some ⟨tb,0,none⟩) l (l.length+k) o2:=by
  unfold BVec
  rw[List.drop_eq_nil_of_le (by rw[repS_length];exact Nat.le_refl _),List.append_nil]at ho2
  exact ho2
 refine gom ?_
 refine WC.rt ?_
 exact QF.p1 (.inl rfl) rfl (.tmp rfl) (⟨_,_,o2,rfl,rfl,h2,rfl⟩)
theorem putTextF_fn (G:Gh) (A:Option Addr) (l:List Int) (cap:Nat) (hA:Sl (Kd.int .u8) G A l) (SA:Option Addr) (ss:List ByteArray) (sc:Nat) (hS:Sl Kd.str G SA ss) (hsl:ss.length≤1000) (hl:l.length+(strsI ss).length≤100000000000000):
  Fn Tryz.prog 104 #[.slice A l.length cap, .slice SA ss.length sc] G [] fun e G' H'=>∃A' cap' x',e= .returned (.slice A' (l++strsI ss).length cap')∧G=G'∧BVec A' (l++strsI ss) cap' x'∧H'=[x']:=by
 refine Fn.enter Tryz.func104 rfl rfl fun w0=>?_
 refine gom ?_
 refine WL.oo (OW.callK rfl (freshF_fn G A l cap hA (by omega) 16 (by decide)) rfl fun v' G' H' h hg=>?_)
 obtain⟨A1,c1,x1,he,rfl,h1,rfl⟩:=h
 cases he
 refine gom ?_
 refine WL.oo (OW.callK rfl (texts_fn G A1 l c1 x1 h1 SA ss sc hS hsl hl) rfl fun v' G' H' h hg=>?_)
 obtain⟨A2,c2,x2,he,rfl,h2,rfl⟩:=h
 cases he
 refine gom ?_
 refine WC.rt ?_
 exact QF.p1 (.inl rfl) rfl (.tmp rfl) (⟨_,_,x2,rfl,rfl,h2,rfl⟩)
theorem textF_fn (G:Gh) (wb:Nat) (A:Option Addr) (l:List Int) (cap:Nat) (hA:Sl (Kd.int .u8) G A l) (s:ByteArray) (hl:l.length+s.size≤90000000000000):
  Fn Tryz.prog 59 #[.pointer (some ⟨wb,0,none⟩), .string s] G [wrB wb A l.length cap] (WrP wb l (txtI s) G):=by
 refine Fn.enter Tryz.func59 rfl rfl fun w0=>?_
 have hst:strsI [s]=txtI s:=by simp[strsI,txtI]
 have h10:=uintL_len10 (n:=s.size) (by omega)
 have hlt:(txtI s).length≤s.size+10:=by rw[txtI,List.length_append,strI_length];omega
 refine gom ?_
 refine WL.op kr (OW.buildSlice rfl kr kr (by rfl) rfl fun b6=>?_)
 refine WL.freezeK (k:=Kd.str) (A:=some ⟨_,0,none⟩) (T:=9) (cap:=1) (l:=[s]) (by decide) ⟨[.string s],⟨rfl, .inr ⟨_,_,rfl,rfl,Nat.le_refl _,rfl,rfl⟩⟩,KFl.one (k:=Kd.str) rfl⟩ .here fun G1 hg1 hS=>?_
 have hA1:=hA.mono hg1
 refine gom ?_
 refine WL.oo (OW.callK rfl (putTextF_fn G1 A l cap hA1 _ [s] 1 hS (by simp) (by rw[hst];omega)) rfl fun v' G' H' h hg=>?_)
 obtain⟨A1,c1,x1,he,rfl,h1,rfl⟩:=h
 cases he
 rw[hst]at h1⊢
 refine gom ?_
 refine WK.un ?_
 exact QF.p0 (.inr rfl) rfl  (⟨A1,c1,x1,rfl,hg1,h1,rfl⟩)
end
section
open Go.MapKept
attribute [local irreducible] Tryz.prog objAns bytesR
def ndI (n:Nd):List Int:=txtI n.path++headI n.name n.params n.result
def magI:List Int:=[116,79,49]
def objI (o:Ob):List Int:=magI++txtI o.path++valsI o.consts++uI o.needs.length++o.needs.flatMap ndI++procsI o.procs
noncomputable def bytesO (o:Ob):List Int:=if(objAns o).2.2=0 then objI o else []
set_option maxRecDepth 20000 in
set_option maxHeartbeats 2000000 in
theorem objBytes_fn (G:Gh) (hE:Env G) (o:Ob) (CA NA PA:Option Addr) (cc nc pc:Nat) (hO:ORep G o CA NA PA) (hL:OLim o) (hi:∀v∈o.consts, -9223372036854775808≤v.i∧v.i≤9223372036854775807) (hcl:o.consts.length≤1000000000) (hnl:o.needs.length≤1000000000) (hpl:o.procs.length≤1000000000)
  (hpc:∀p∈o.procs,p.code.length≤9000000000000) (hl:(objI o).length≤70000000000000):
  Fn Tryz.prog 27 #[.agg (obC o CA NA PA cc nc pc)] G [] fun e G' H'=>∃A' cap' x',e= .returned (.tuple #[.slice A' (bytesO o).length cap', .int .i64 (objAns o).2.2])∧G.le G'∧BVec A' (bytesO o) cap' x'∧H'=[x']:=by
 refine Fn.enter Tryz.func27 rfl rfl fun w0=>?_
 refine WC.seq ?_
 refine WC.region ?_
 refine WL.oo (OW.box rfl rfl fun b1=>?_)
 refine gom ?_
 refine WL.oo (OW.callK rfl (Object_fn G hE o CA NA PA cc nc pc hO hL) rfl fun v' G' H' h hg=>?_)
 obtain⟨he,hg1,rfl⟩:=h
 cases he
 obtain⟨G1,rfl⟩:∃G1,G1=G':=⟨_,rfl⟩
 refine gom ?_
 refine WL.oo (OW.alloc rfl fun b4=>?_)
 refine gom ?_
 cases herr:decide ((objAns o).2.2=0)with
 | false=>
  have hne:=of_decide_eq_false herr
  have e1:((objAns o).2.2 != 0)=true:=by rw[bne_iff_ne];exact hne
  have e0:((objAns o).2.2==0)=false:=by rw[beq_eq_false_iff_ne];exact hne
  have hb:bytesO o=[]:=by rw[bytesO,if_neg hne]
  rw[hb]
  first | rw[e1] | rw[e0]
  refine gom ?_
  refine WC.nothing ?_
  refine WC.rt ?_
  exact QF.p2 (.inl rfl) rfl (.tmp rfl) (.tmp rfl) (⟨none,0,_,rfl,hg1,BVec.nil,rfl⟩)
 | true=>
 have heq:=of_decide_eq_true herr
 have e1:((objAns o).2.2 != 0)=false:=by rw[heq];rfl
 have hb:bytesO o=objI o:=by rw[bytesO,if_pos heq]
 rw[hb,heq]
 have hol:(objI o).length=3+(txtI o.path).length+(valsI o.consts).length+(uI o.needs.length).length+(o.needs.flatMap ndI).length+(procsI o.procs).length:=by simp only[objI,List.length_append];rfl
 have htx:(txtI o.path).length=(uintL o.path.size).length+o.path.size:=by rw[txtI,List.length_append,strI_length]
 refine gom ?_
 refine WL.oo (OW.buildSliceN (cells:=[.int .u8 116, .int .u8 79, .int .u8 49]) rfl kr kr (by rfl) rfl fun mb hmb=>?_)
 refine WL.oo (OW.convMark rfl .here hmb rfl fun hgm=>?_)
 have hA:Sl (Kd.int .u8) (G1.add mb #[.int .u8 116, .int .u8 79, .int .u8 49]) (some ⟨mb,0,none⟩) magI:=
  KFl.sl (k:=Kd.int .u8) (l:=[116]++[79]++[49]) (by decide) (((KFl.one (cs:=[.int .u8 116]) rfl).append (KFl.one (cs:=[.int .u8 79]) rfl)).append (KFl.one (cs:=[.int .u8 49]) rfl)) (.inr ⟨mb,rfl,fun i v e=>by rw[Nat.zero_add,Gh.add_at];simpa using e⟩)
 generalize hG2:G1.add mb #[.int .u8 116, .int .u8 79, .int .u8 49]=G2 at hA hgm⊢
 refine gom ?_
 refine WL.oo (OW.box rfl rfl fun b21=>?_)
 refine gom ?_
 refine WQ.one kr kr (OW.callK rfl (textF_fn G2 b21 (some ⟨mb,0,none⟩) magI 3 hA o.path (by rw[show magI.length=3 from rfl];omega)) rfl fun v' G' H' h hg=>?_)
 obtain⟨A1,c1,x1,he,hg3,h1,rfl⟩:=h
 cases he
 obtain⟨G3,rfl⟩:∃G3,G3=G':=⟨_,rfl⟩
 have hg13:G1.le G3:=Gh.le_trans hgm hg3
 have hl1:(magI++txtI o.path).length=3+(txtI o.path).length:=List.length_append
 have hO3:=hO.mono (Gh.le_trans hg1 hg13)
 refine gom ?_
 refine WQ.one kr kr (OW.callK rfl (wvalues_fn G3 b21 A1 _ c1 x1 h1 CA o.consts cc hO3.consts hi hcl (by omega)) rfl fun v' G' H' h hg=>?_)
 obtain⟨A2,c2,x2,he,hg4,h2,rfl⟩:=h
 cases he
 obtain⟨G4,rfl⟩:∃G4,G4=G':=⟨_,rfl⟩
 have hl2:(magI++txtI o.path++valsI o.consts).length=3+(txtI o.path).length+(valsI o.consts).length:=by rw[List.length_append,hl1]
 refine gom ?_
 refine WQ.one kr kr (OW.callK rfl (uint_fn G4 b21 A2 _ c2 x2 h2 (o.needs.length:Int) (by omega)) rfl fun v' G' H' h hg=>?_)
 obtain⟨A3,c3,x3,he,hg5,h3,rfl⟩:=h
 cases he
 obtain⟨G5,rfl⟩:∃G5,G5=G':=⟨_,rfl⟩
 have hl3:(magI++txtI o.path++valsI o.consts++uI o.needs.length).length=3+(txtI o.path).length+(valsI o.consts).length+(uI o.needs.length).length:=by rw[List.length_append,hl2]
 refine gom ?_
 generalize hB:magI++txtI o.path++valsI o.consts++uI o.needs.length=N at*
 have hg15:G1.le G5:=Gh.le_trans hg13 (Gh.le_trans hg4 hg5)
 have h00:N++(o.needs.take 0).flatMap ndI=N:=by simp
 refine WC.pick [wrB b21 A3 N.length c3,x3, .blk b1 (.cells (obC o CA NA PA cc nc pc) 38 (0,0))] ?_
 refine WC.loop (X:=WrS) (fun s=>[(1, .pointer (some ⟨b1,0,none⟩)),(6, .pointer (some ⟨b21,0,none⟩)),(42, .slice NA o.needs.length nc),(43, .int .i64 o.needs.length),(44, .int .i64 s.i)]) (fun s=>s.G) (fun s=>[wrB b21 s.A s.n s.cap,s.x, .blk b1 (.cells (obC o CA NA PA cc nc pc) 38 (0,0))]) (fun s=>o.needs.length - s.i) (fun s=>s.i≤o.needs.length∧G1.le s.G∧BVec s.A (N++(o.needs.take s.i).flatMap ndI) s.cap s.x∧s.n=(N++(o.needs.take s.i).flatMap ndI).length)
  ⟨0,A3,c3,x3,G5,N.length⟩ ⟨Nat.zero_le _,hg15,by rw[h00];exact h3,by dsimp only;rw[h00]⟩ (by exact⟨rfl,rfl,rfl,rfl,rfl,trivial⟩) rfl (List.Sublist.refl _) (fun s hs=>?_)
 obtain⟨k,B,c,x,G6,n⟩:=s
 obtain⟨hk,hg6,hv,hn⟩:=hs
 dsimp only at hk hg6 hv hn
 have x2:=wrapS k (by omega)
 by_cases hlt:k<o.needs.length
 rotate_left
 ·have e2:decide ((k:Int)<(o.needs.length:Int))=false:=decide_eq_false (by omega)
  have hbk:(N++o.needs.flatMap ndI).length=N.length+(o.needs.flatMap ndI).length:=List.length_append
  rw[List.take_of_length_le (by omega)]at hv hn
  subst hn
  have hO6:=hO.mono (Gh.le_trans hg1 hg6)
  refine gom ?_
  refine WQ.one kr kr (OW.callK rfl (wprocs_fn G6 b21 B _ c x hv PA o.procs pc hO6.procs hpl hpc (by omega)) rfl fun v' G' H' h hg=>?_)
  obtain⟨A7,c7,x7,he,hg7,h7,rfl⟩:=h
  cases he
  have ht:N++o.needs.flatMap ndI++procsI o.procs=objI o:=by rw[objI,←hB]
  rw[ht]at h7⊢
  refine gom ?_
  refine WC.rt ?_
  exact QF.p2 (.inl rfl) rfl (.tmp rfl) (.tmp rfl) (⟨A7,c7,x7,rfl,Gh.le_trans hg1 (Gh.le_trans hg6 hg7),h7,rfl⟩)
 have e2:decide ((k:Int)<(o.needs.length:Int))=true:=decide_eq_true (by omega)
 obtain⟨v,hvk⟩:∃v,o.needs[k]? =some v:=⟨_,List.getElem?_eq_getElem (by omega)⟩
 have hV2:=(hO.mono (Gh.le_trans hg1 hg6)).needs
 obtain⟨ib,io,ics,rfl,hik,hic⟩:=hV2 k v hvk
 obtain⟨QA,qc,rfl,hQ⟩:=hik
 have x0:(0:Int)≤(k:Int):=by omega
 have x1':(k:Int)<(o.needs.length:Int):=by omega
 have hfs:=flat_snoc (f:=ndI) hvk
 have hfa:=flat_at (f:=ndI) hvk
 have hbk:(N++(o.needs.take k).flatMap ndI).length=N.length+((o.needs.take k).flatMap ndI).length:=List.length_append
 have hpi:(ndI v).length=(txtI v.path).length+(headI v.name v.params v.result).length:=List.length_append
 have htv:(txtI v.path).length=(uintL v.path.size).length+v.path.size:=by rw[txtI,List.length_append,strI_length]
 generalize hM:N++(o.needs.take k).flatMap ndI=M at*
 have hnext:N++(o.needs.take (k+1)).flatMap ndI=M++ndI v:=by rw[hfs,←List.append_assoc,hM]
 subst hn
 refine gom ?_
 refine WL.oo (OW.alloc rfl fun b8=>?_)
 refine gom ?_
 refine WQ.one kr kr (OW.callK rfl (text_fn G6 b21 B M c x hv v.path (by omega)) rfl fun v' G' H' h hg=>?_)
 obtain⟨A7,c7,x7,he,hg7,h7,rfl⟩:=h
 cases he
 obtain⟨G7,rfl⟩:∃G7,G7=G':=⟨_,rfl⟩
 have hl7:(M++txtI v.path).length=M.length+(txtI v.path).length:=List.length_append
 refine gom ?_
 refine WQ.one kr kr (OW.callK rfl (whead_fn G7 b21 A7 _ c7 x7 h7 v.name QA v.params qc v.result (hQ.mono hg7) (by omega)) rfl fun v' G' H' h hg=>?_)
 obtain⟨A8,c8,x8,he,hg8,h8,rfl⟩:=h
 cases he
 have hen:M++txtI v.path++headI v.name v.params v.result=M++ndI v:=by rw[ndI,List.append_assoc]
 rw[hen]at h8⊢
 refine gom ?_
 refine WK.pick [wrB b21 A8 (M++ndI v).length c8,x8, .blk b1 (.cells (obC o CA (some ⟨ib,io,none⟩) PA cc nc pc) 38 (0,0))] ?_
 exact WK.again ⟨k+1,A8,c8,x8,_,(M++ndI v).length⟩ (by dsimp only;omega) ⟨by dsimp only;omega,Gh.le_trans hg6 (Gh.le_trans hg7 hg8),by dsimp only;rw[hnext];exact h8,by dsimp only;rw[hnext]⟩ (by exact⟨rfl,rfl,rfl,rfl,rfl,trivial⟩) rfl (List.Sublist.refl _)
end
structure Rd {α:Type} (enc:α→List Int) (ok:α→Prop) (bs:List Int) (k:Nat) (f:Int×Int) (a:α) (k':Nat) (f':Int×Int):Prop where
 le:k'≤bs.length
 sound:f'=(0,0)→f=(0,0)∧ok a∧bs.drop k=enc a++bs.drop k'
 full:f=(0,0)→∀a' rest,ok a'→bs.drop k=enc a'++rest→f'=(0,0)∧a'=a
theorem Rd.rest {α:Type} {enc:α→List Int} {ok:α→Prop} {bs:List Int} {k:Nat} {f:Int×Int} {a:α} {k':Nat} {f':Int×Int} (h:Rd enc ok bs k f a k' f') (hf:f=(0,0)) {a':α} {rest:List Int} (ho:ok a') (he:bs.drop k=enc a'++rest):f'=(0,0)∧a'=a∧rest=bs.drop k':=by
 obtain⟨h1,h2⟩:=h.full hf a' rest ho he
 subst h2
 have h3:=(h.sound h1).2.2
 rw[h3]at he
 exact⟨h1,rfl,(List.append_cancel_left he).symm⟩
theorem Rd.pair {α β γ:Type} {e1:α→List Int} {o1:α→Prop} {e2:β→List Int} {o2:β→Prop} {enc:γ→List Int} {ok:γ→Prop} (mk:α→β→γ) (hmk:∀c,ok c→∃a b,mk a b=c∧o1 a∧o2 b) (hok:∀a b,o1 a→o2 b→ok (mk a b)) (he:∀a b,o1 a→o2 b→enc (mk a b)=e1 a++e2 b)
  {bs:List Int} {k k1 k2:Nat} {f f1 f2:Int×Int} {a:α} {b:β} (h1:Rd e1 o1 bs k f a k1 f1) (h2:Rd e2 o2 bs k1 f1 b k2 f2):Rd enc ok bs k f (mk a b) k2 f2:=by
 refine⟨h2.le,fun e=>?_,fun hf c rest hc hd=>?_⟩
 ·obtain⟨q1,q2,q3⟩:=h2.sound e
  obtain⟨p1,p2,p3⟩:=h1.sound q1
  exact⟨p1,hok _ _ p2 q2,by rw[p3,q3,he _ _ p2 q2,List.append_assoc]⟩
 ·obtain⟨a',b',rfl,ha,hb⟩:=hmk c hc
  rw[he _ _ ha hb,List.append_assoc]at hd
  obtain⟨p1,rfl,p3⟩:=h1.rest hf ha hd
  obtain⟨q1,rfl,_⟩:=h2.rest p1 hb p3.symm
  exact⟨q1,rfl⟩
theorem Rd.map {α γ:Type} {e1:α→List Int} {o1:α→Prop} {enc:γ→List Int} {ok:γ→Prop} (mk:α→γ) (hmk:∀c,ok c→∃a,mk a=c∧o1 a) (hok:∀a,o1 a→ok (mk a)) (he:∀a,o1 a→enc (mk a)=e1 a)
  {bs:List Int} {k k1:Nat} {f f1:Int×Int} {a:α} (h1:Rd e1 o1 bs k f a k1 f1):Rd enc ok bs k f (mk a) k1 f1:=by
 refine⟨h1.le,fun e=>?_,fun hf c rest hc hd=>?_⟩
 ·obtain⟨p1,p2,p3⟩:=h1.sound e
  exact⟨p1,hok _ p2,by rw[p3,he _ p2]⟩
 ·obtain⟨a',rfl,ha⟩:=hmk c hc
  rw[he _ ha]at hd
  obtain⟨p1,rfl,_⟩:=h1.rest hf ha hd
  exact⟨p1,rfl⟩
def encB (c:Int):List Int:=[c]
def okB (c:Int):Prop:=0≤c∧c<256
theorem rd_byte {bs:List Int} (hb:∀c∈bs,0≤c∧c<256) {k:Nat} (hk:k≤bs.length) (f:Int×Int):Rd encB okB bs k f (byteR bs k f).1 (byteR bs k f).2.1 (byteR bs k f).2.2:=by
 unfold byteR
 by_cases hf:f=(0,0)
 ·rw [if_pos hf]
  cases hc:bs[k]? with
  | none=>
   refine⟨hk,fun e=>?_,fun _ a rest _ hd=>?_⟩
   ·simp at e
   ·have:bs.drop k=[]:=List.drop_eq_nil_of_le (by rwa [List.getElem?_eq_none_iff]at hc)
    rw[this]at hd
    simp[encB]at hd
  | some c=>
   have hl:=(List.getElem?_eq_some_iff.1 hc).1
   have hd0:bs.drop k=c::bs.drop (k+1):=by
    rw[List.drop_eq_getElem_cons hl]
    congr 1
    exact(List.getElem?_eq_some_iff.1 hc).2
   refine⟨by dsimp only;omega,fun _=>⟨hf,hb c (List.mem_of_getElem? hc),hd0⟩,fun _ a rest _ hd=>⟨hf,?_⟩⟩
   rw[hd0]at hd
   simp[encB]at hd
   exact hd.1.symm
 ·rw[if_neg hf]
  exact⟨hk,fun e=>absurd e hf,fun e=>absurd e hf⟩
def encU (n:Nat):List Int:=uintL n
def encL {α:Type} (enc:α→List Int) (l:List α):List Int:=l.flatMap enc
theorem rd_nil {α:Type} {enc:α→List Int} {ok:α→Prop} {bs:List Int} {k:Nat} (hk:k≤bs.length) (f:Int×Int):Rd (encL enc) (fun l=>l.length=0∧∀a∈l,ok a) bs k f [] k f:=
 ⟨hk,fun e=>⟨e,⟨rfl,fun a h=>by cases h⟩,rfl⟩,fun hf l rest hl hd=>⟨hf,List.eq_nil_of_length_eq_zero hl.1⟩⟩
theorem Rd.snoc {α:Type} {enc:α→List Int} {ok:α→Prop} {bs:List Int} {k k1 k2 n:Nat} {f f1 f2:Int×Int} {l:List α} {a:α} (h1:Rd (encL enc) (fun l=>l.length=n∧∀a∈l,ok a) bs k f l k1 f1) (h2:Rd enc ok bs k1 f1 a k2 f2):Rd (encL enc) (fun l=>l.length=n+1∧∀a∈l,ok a) bs k f (l++[a]) k2 f2:=by
 refine Rd.pair (fun l a=>l++[a]) (fun c hc=>?_) (fun l a hl ha=>?_) (fun l a _ _=>?_) h1 h2
 ·have hne:c≠ []:=fun e=>by have:=hc.1;rw[e]at this;simp at this
  refine⟨c.dropLast,c.getLast hne,List.dropLast_concat_getLast hne,⟨by rw[List.length_dropLast,hc.1];rfl,fun a ha=>hc.2 a (List.dropLast_subset _ ha)⟩,hc.2 _ (List.getLast_mem hne)⟩
 ·exact⟨by rw[List.length_append,hl.1];rfl,fun b hb=>by
   rcases List.mem_append.1 hb with h | h
   ·exact hl.2 b h
   ·obtain rfl:=List.mem_singleton.1 h;exact ha⟩
 ·unfold encL;rw[List.flatMap_append];simp
section
open Go.MapKept
section
variable {P:Program} {L:List (Nat×Value)} {d:Option Tmp} {ty:TypeId} {pos:String} {af:Array Edge} {gu:Option (Nat×Bool)}
theorem Gp.andTo {t t':TypeId} {x y:Operand} {k:IntKind} {m n r:Int} (hx:ev L x=some (.int k m)) (hy:ev L y=some (.int k n)) (hr:bits .and k m n=r):Gp P L ⟨d, .binOp .and t x y t',ty,pos,af,gu⟩ (.int k r):=
 fun a st w=>by
  have h:Op.intBits .and k m n=pure (.int k (bits .and k m n)):=rfl
  subst hr
  simp[execOp,st.eval hx,st.eval hy,eqGuard_and,binOp_and,h]
theorem Gp.shlTo {t t':TypeId} {x y:Operand} {k k':IntKind} {m n r:Int} (hx:ev L x=some (.int k m)) (hy:ev L y=some (.int k' n)) (hn:0≤n) (hr:k.wrap (m*2^min n.toNat k.bits)=r):Gp P L ⟨d, .binOp .shl t x y t',ty,pos,af,gu⟩ (.int k r):=hr▸Gp.shl hx hy hn
end
theorem and127:∀m:Nat,m<256→bits .and .u8 (m:Int) 127=((m%128:Nat):Int):=by decide+kernel
theorem wrapU64 {x:Nat} (h:x<18446744073709551616):IntKind.u64.wrap (x:Int)=(x:Int):=by
 simp[IntKind.wrap,IntKind.signed,IntKind.bits];omega
theorem shl_num (m i:Nat) (hi:i≤9) (h:m*128^i<18446744073709551616):IntKind.u64.wrap ((m:Int)*2^min ((7*i:Nat):Int).toNat IntKind.u64.bits)=((m*128^i:Nat):Int):=by
 have e1:min ((7*i:Nat):Int).toNat IntKind.u64.bits=7*i:=by rw[Int.toNat_natCast];exact Nat.min_eq_left (by show 7*i≤64;omega)
 have hp:(128:Nat)^i=2^(7*i):=by rw[Nat.pow_mul]
 have e2:(m:Int)*2^(7*i)=((m*128^i:Nat):Int):=by rw[hp];simp
 rw[e1,e2]
 exact wrapU64 h
theorem pow128 {n m i:Nat} (hn:n<128^i) (hm:m<128):n+m*128^i<128^(i+1):=by
 rw[Nat.pow_succ,Nat.mul_comm _ 128]
 have:m*128^i≤127*128^i:=Nat.mul_le_mul_right _ (by omega)
 omega
theorem num_fits {n m i:Nat} (hn:n<128^i) (hm:m<128) (hi:i≤9) (h9:i=9→m≤1):n+m*128^i<18446744073709551616:=by
 by_cases h:i=9
 ·have:=h9 h
  subst h
  have:m*128^9≤1*128^9:=Nat.mul_le_mul_right _ this
  omega
 ·have h1:=pow128 hn hm
  have h2:(128:Nat)^(i+1)≤128^9:=Nat.pow_le_pow_right (by decide) (by omega)
  have h3:(128:Nat)^9<18446744073709551616:=by decide
  omega
attribute [local irreducible] Tryz.prog
set_option maxHeartbeats 2000000 in
set_option maxRecDepth 20000 in
theorem number_fn (G:Gh) (b k:Nat) (f:Int×Int) (BA:Option Addr) (bs:List Int) (bc:Nat) (pl:Nat) (hB:Sl (Kd.int .u8) G BA bs) (hbs:∀c∈bs,0≤c∧c<256) (hpl:pl≤bs.length) (hn:bs.length≤140737488351232):
  Fn Tryz.prog 124 #[.pointer (some ⟨b,0,none⟩), .int .i64 (pl:Int)] G [rdB b BA bs.length bc k f] fun e G' H'=>e= .returned (.tuple #[.int .u64 (numL 0 0 (bs.drop pl)).1, .int .i64 (numL 0 0 (bs.drop pl)).2.1, .int .i64 (numL 0 0 (bs.drop pl)).2.2])∧G=G'∧H'=[rdB b BA bs.length bc k f]:=by
 refine Fn.enter Tryz.func124 rfl rfl fun w0=>?_
 refine gom ?_
 refine WC.loop (X:=Nat×Nat) (fun s=>[(0, .pointer (some ⟨b,0,none⟩)),(1, .int .i64 (pl:Int)),(7, .int .u64 (s.1:Int)),(8, .int .i64 (s.2:Int))]) (fun _=>G) (fun _=>[rdB b BA bs.length bc k f]) (fun s=>10 - s.2) (fun s=>numL s.1 s.2 (bs.drop (pl+s.2))=numL 0 0 (bs.drop pl)∧s.1<128^s.2∧s.2≤9) (0,0) ⟨rfl,by decide,by decide⟩ (by exact⟨rfl,rfl,rfl,rfl,trivial⟩) rfl (List.Sublist.refl _) fun s hs=>?_
 obtain⟨n,i⟩:=s
 obtain⟨hr,hn128,hi9⟩:=hs
 dsimp only at hr hn128 hi9
 have x2:IntKind.i64.wrap ((pl:Int)+(i:Int))=((pl+i:Nat):Int):=by rw[wrapI (by omega) (by omega)];omega
 by_cases hend:bs.length≤pl+i
 ·have e3:decide ((bs.length:Int)≤((pl+i:Nat):Int))=true:=decide_eq_true (by omega)
  rw[List.drop_eq_nil_of_le hend]at hr
  rw[←hr]
  refine gom ?_
  refine WC.rt ?_
  exact QF.p3 (.inl rfl) rfl (.tmp rfl) (.tmp rfl) (.tmp rfl) (⟨rfl,rfl,rfl⟩)
 have e3:decide ((bs.length:Int)≤((pl+i:Nat):Int))=false:=decide_eq_false (by omega)
 obtain⟨c,hc⟩:∃c,bs[pl+i]? =some c:=⟨_,List.getElem?_eq_getElem (by omega)⟩
 have hcb:=hbs c (List.mem_of_getElem? hc)
 have hdrop:bs.drop (pl+i)=c::bs.drop (pl+(i+1)):=by
  rw[List.drop_eq_getElem_cons (by omega)];congr 1;exact(List.getElem?_eq_some_iff.1 hc).2
 obtain⟨m,rfl⟩:∃m:Nat,c=(m:Int):=⟨c.toNat,by omega⟩
 rw[hdrop]at hr
 simp only[numL]at hr
 obtain⟨bb,bo,cs,rfl,hks,hcs⟩:=hB (pl+i) _ hc
 obtain rfl:cs=[.int .u8 (m:Int)]:=hks
 have x0:(0:Int)≤((pl+i:Nat):Int):=by omega
 have x1:((pl+i:Nat):Int)<(bs.length:Int):=by omega
 by_cases hq:i=9
 ·have e9:((i:Int)==9)=true:=by rw[beq_iff_eq];omega
  by_cases hc1:1<m
  ·have e1:decide ((1:Int)<(m:Int))=true:=decide_eq_true (by omega)
   rw[if_pos ⟨hq,by omega⟩]at hr
   rw[←hr]
   refine gom ?_
   refine WC.rt ?_
   exact QF.p3 (.inl rfl) rfl (.tmp rfl) (.tmp rfl) (.tmp rfl) (⟨rfl,rfl,rfl⟩)
  have e1:decide ((1:Int)<(m:Int))=false:=decide_eq_false (by omega)
  have h9c:¬(i=9∧1<(m:Int)):=fun h=>hc1 (by omega)
  have hfit:=num_fits hn128 (m:=m%128) (by omega) hi9 (by omega)
  have y7:IntKind.i64.wrap (7*(i:Int))=((7*i:Nat):Int):=by rw[wrapI (by omega) (by omega)];omega
  have yI:IntKind.i64.wrap ((i:Int)+1)=((i+1:Nat):Int):=by rw[wrapI (by omega) (by omega)];rfl
  have hshl:=shl_num (m%128) i hi9 (by omega)
  have hor:=or_u64 n (m%128) i hn128 hfit
  have hpw:=pow128 hn128 (m:=m%128) (by omega)
  obtain⟨u,hu⟩:∃u:Nat,u=m%128*128^i:=⟨_,rfl⟩
  obtain⟨q,hq128⟩:∃q:Nat,q=128^(i+1):=⟨_,rfl⟩
  have hnm:(m:Int).toNat=m:=Int.toNat_natCast m
  rw[hnm]at hr
  rw[←hu]at hfit hshl hor hpw hr
  rw[←hq128]at hpw
  obtain⟨v,hv⟩:∃v:Nat,v=n+u:=⟨_,rfl⟩
  rw[←hv]at hfit hor hpw hr
  have y8:IntKind.u64.wrap ((n:Int)+(u:Int))=(v:Int):=by
   rw[show(n:Int)+(u:Int)=(v:Int) by omega];exact wrapU64 hfit
  clear hn128
  refine gom ?_
  refine WL.pp (Gp.andTo (r:=((m%128:Nat):Int)) rfl rfl (and127 _ (by omega))) ?_
  refine WL.pp (Gp.convTo (r:=((m%128:Nat):Int)) rfl (by exact wrapU64 (by omega))) ?_
  refine gom ?_
  refine WL.pp (Gp.mulTo (r:=((7*i:Nat):Int)) rfl rfl y7) ?_
  refine WL.pp (Gp.shlTo (r:=(u:Int)) rfl rfl (by omega) hshl) ?_
  refine WL.pp (Gp.orTo (r:=(v:Int)) rfl rfl hor) ?_
  clear hshl hor y8 y7
  by_cases hlt:m<128
  rotate_left
  ·have e5:decide ((m:Int)<128)=false:=decide_eq_false (by omega)
   rw[if_neg h9c,if_neg (by omega)]at hr
   have hi8:i<9:=by
    rcases Nat.lt_or_ge i 9 with h | h
    ·exact h
    ·exact absurd ⟨by omega,by omega⟩ h9c
   refine gom ?_
   exact WK.again (v,i+1) (by dsimp only;omega) ⟨by rw[←hr],by dsimp only;rw[←hq128];exact hpw,by dsimp only;omega⟩ (by exact⟨rfl,rfl,rfl,rfl,trivial⟩) rfl (List.Sublist.refl _)
  have e5:decide ((m:Int)<128)=true:=decide_eq_true (by omega)
  rw[if_neg h9c,if_pos (by omega)]at hr
  by_cases hm0:m=0
  ·subst hm0
   have e6:(((0:Nat):Int)==0)=true:=rfl
   by_cases hi0:0<i
   ·have e7:decide ((0:Int)<(i:Int))=true:=decide_eq_true (by omega)
    rw[if_pos ⟨rfl,hi0⟩]at hr
    rw[←hr]
    refine gom ?_
    refine WC.rt ?_
    exact QF.p3 (.inl rfl) rfl (.tmp rfl) (.tmp rfl) (.tmp rfl) (⟨rfl,rfl,rfl⟩)
   ·have e7:decide ((0:Int)<(i:Int))=false:=decide_eq_false (by omega)
    rw[if_neg (fun h=>hi0 h.2)]at hr
    rw[←hr]
    refine gom ?_
    refine WC.rt ?_
    exact QF.p3 (.inl rfl) rfl (.tmp rfl) (.tmp rfl) (.tmp rfl) (⟨rfl,rfl,rfl⟩)
  ·have e6:((m:Int)==0)=false:=by rw[beq_eq_false_iff_ne];omega
   rw[if_neg (fun h=>hm0 (by omega))]at hr
   rw[←hr]
   refine gom ?_
   refine WC.rt ?_
   exact QF.p3 (.inl rfl) rfl (.tmp rfl) (.tmp rfl) (.tmp rfl) (⟨rfl,rfl,rfl⟩)
 have e9:((i:Int)==9)=false:=by rw[beq_eq_false_iff_ne];omega
 have h9c:¬(i=9∧1<(m:Int)):=fun h=>hq h.1
 have hfit:=num_fits hn128 (m:=m%128) (by omega) hi9 (by omega)
 have y7:IntKind.i64.wrap (7*(i:Int))=((7*i:Nat):Int):=by rw[wrapI (by omega) (by omega)];omega
 have yI:IntKind.i64.wrap ((i:Int)+1)=((i+1:Nat):Int):=by rw[wrapI (by omega) (by omega)];rfl
 have hshl:=shl_num (m%128) i hi9 (by omega)
 have hor:=or_u64 n (m%128) i hn128 hfit
 have hpw:=pow128 hn128 (m:=m%128) (by omega)
 obtain⟨u,hu⟩:∃u:Nat,u=m%128*128^i:=⟨_,rfl⟩
 obtain⟨q,hq128⟩:∃q:Nat,q=128^(i+1):=⟨_,rfl⟩
 have hnm:(m:Int).toNat=m:=Int.toNat_natCast m
 rw[hnm]at hr
 rw[←hu]at hfit hshl hor hpw hr
 rw[←hq128]at hpw
 obtain⟨v,hv⟩:∃v:Nat,v=n+u:=⟨_,rfl⟩
 rw[←hv]at hfit hor hpw hr
 have y8:IntKind.u64.wrap ((n:Int)+(u:Int))=(v:Int):=by
  rw[show(n:Int)+(u:Int)=(v:Int) by omega];exact wrapU64 hfit
 clear hn128
 refine gom ?_
 refine WL.pp (Gp.andTo (r:=((m%128:Nat):Int)) rfl rfl (and127 _ (by omega))) ?_
 refine WL.pp (Gp.convTo (r:=((m%128:Nat):Int)) rfl (by exact wrapU64 (by omega))) ?_
 refine gom ?_
 refine WL.pp (Gp.mulTo (r:=((7*i:Nat):Int)) rfl rfl y7) ?_
 refine WL.pp (Gp.shlTo (r:=(u:Int)) rfl rfl (by omega) hshl) ?_
 refine WL.pp (Gp.orTo (r:=(v:Int)) rfl rfl hor) ?_
 clear hshl hor y8 y7
 by_cases hlt:m<128
 rotate_left
 ·have e5:decide ((m:Int)<128)=false:=decide_eq_false (by omega)
  rw[if_neg h9c,if_neg (by omega)]at hr
  have hi8:i<9:=by
   rcases Nat.lt_or_ge i 9 with h | h
   ·exact h
   ·exact absurd ⟨by omega,by omega⟩ h9c
  refine gom ?_
  exact WK.again (v,i+1) (by dsimp only;omega) ⟨by rw[←hr],by dsimp only;rw[←hq128];exact hpw,by dsimp only;omega⟩ (by exact⟨rfl,rfl,rfl,rfl,trivial⟩) rfl (List.Sublist.refl _)
 have e5:decide ((m:Int)<128)=true:=decide_eq_true (by omega)
 rw[if_neg h9c,if_pos (by omega)]at hr
 by_cases hm0:m=0
 ·subst hm0
  have e6:(((0:Nat):Int)==0)=true:=rfl
  by_cases hi0:0<i
  ·have e7:decide ((0:Int)<(i:Int))=true:=decide_eq_true (by omega)
   rw[if_pos ⟨rfl,hi0⟩]at hr
   rw[←hr]
   refine gom ?_
   refine WC.rt ?_
   exact QF.p3 (.inl rfl) rfl (.tmp rfl) (.tmp rfl) (.tmp rfl) (⟨rfl,rfl,rfl⟩)
  ·have e7:decide ((0:Int)<(i:Int))=false:=decide_eq_false (by omega)
   rw[if_neg (fun h=>hi0 h.2)]at hr
   rw[←hr]
   refine gom ?_
   refine WC.rt ?_
   exact QF.p3 (.inl rfl) rfl (.tmp rfl) (.tmp rfl) (.tmp rfl) (⟨rfl,rfl,rfl⟩)
 ·have e6:((m:Int)==0)=false:=by rw[beq_eq_false_iff_ne];omega
  rw[if_neg (fun h=>hm0 (by omega))]at hr
  rw[←hr]
  refine gom ?_
  refine WC.rt ?_
  exact QF.p3 (.inl rfl) rfl (.tmp rfl) (.tmp rfl) (.tmp rfl) (⟨rfl,rfl,rfl⟩)
end
section
open Go.MapKept
theorem Sl.u8s {G:Gh} {H:List Own} {A:Option Addr} {l:List Int} (h:Sl (Kd.int .u8) G A l):Rds G H A (u8s l):=by
 cases l with
 | nil=>exact .inl rfl
 | cons z l=>
  obtain⟨b,o,cs,rfl,_,_⟩:=h 0 z rfl
  refine .inr ⟨b,o,rfl,fun w s j v e=>?_⟩
  rw[Gb.u8s,List.getElem?_map]at e
  cases hz:(z::l)[j]? with
  | none=>rw[hz]at e;cases e
  | some y=>
   rw[hz]at e
   simp only[Option.map_some,Option.some.injEq]at e
   subst e
   obtain⟨b',o',cs',he,hk,hc⟩:=h j y hz
   cases he
   obtain rfl:cs'=[.int .u8 y]:=hk
   have:=hc 0 _ rfl
   exact s.agr _ _ _ (by simpa [Kd.int]using this)
theorem BVec.sl {G:Gh} {A:Option Addr} {l:List Int} (hz:u8s l=[]∨∃b,A=some ⟨b,0,none⟩∧Cs G b 0 (u8s l)):Sl (Kd.int .u8) G A l:=Sl.ofCs (k:=Kd.int .u8) hz (u8s_length l) (by decide) (fun i x hx=>by
 have hl:=(List.getElem?_eq_some_iff.1 hx).1
 have h1:(u8s l)[i]? =some (.int .u8 x):=by rw[u8s,List.getElem?_map,hx];rfl
 have hl':i<(u8s l).length:=(List.getElem?_eq_some_iff.1 h1).1
 show((u8s l).drop (i*1)).take 1=[.int .u8 x]
 rw[Nat.mul_one,List.drop_eq_getElem_cons hl']
 rw[List.getElem?_eq_getElem hl']at h1
 rw[Option.some.inj h1];rfl)
theorem Sl.take {α:Type} {k:Kd α} {G:Gh} {A:Option Addr} {xs:List α} (h:Sl k G A xs) (n:Nat):Sl k G A (xs.take n):=fun i x hx=>h i x (by
 rw[List.getElem?_take]at hx
 split at hx
 ·exact hx
 ·cases hx)
theorem nums_drop {bs:List Int} (h:∀c∈bs,0≤c∧c<256) (k:Nat):∀c∈bs.drop k,0≤c∧c<256:=fun c hc=>h c (List.mem_of_mem_drop hc)
theorem numL_lt:∀(bs:List Int) (n k:Nat),(∀c∈bs,0≤c∧c<256)→n<128^k→k≤9→0≤(numL n k bs).1∧(numL n k bs).1<18446744073709551616
 | [],n,k,_,_,_=>by simp[numL]
 | c::bs,n,k,hb,hn,hk=>by
  have hc:=hb c (List.mem_cons_self ..)
  simp only[numL]
  split
  ·simp
  ·rename_i h9
   have hfit:=num_fits (m:=c.toNat%128) hn (by omega) hk (fun e=>by have:¬1<c:=fun h=>h9 ⟨e,h⟩;omega)
   split
   ·split
    ·simp
    ·dsimp only;omega
   ·rename_i h128
    have hk9:k<9:=by
     rcases Nat.lt_or_ge k 9 with h | h
     ·exact h
     ·exact absurd ⟨by omega,by omega⟩ h9
    exact numL_lt bs _ _ (fun x hx=>hb x (List.mem_cons_of_mem _ hx)) (pow128 hn (by omega)) (by omega)
inductive CntIs (bs:List Int) (most:Int) (k:Nat):Prop where
 | bad (e:Int) (hn:numL 0 0 (bs.drop k)=(0,0,e)) (he:e≠0) (hr:cntR bs most k (0,0)=(0,k,(e,(k:Int))))
 | big (r w:Nat) (hn:numL 0 0 (bs.drop k)=((r:Int),(w:Int),0)) (hw:k+w≤bs.length) (h64:r<18446744073709551616) (hlt:most<r) (hr:cntR bs most k (0,0)=(0,k,(11,(k:Int))))
 | good (r w:Nat) (hn:numL 0 0 (bs.drop k)=((r:Int),(w:Int),0)) (hw:k+w≤bs.length) (h64:r<18446744073709551616) (hle:(r:Int)≤most) (hr:cntR bs most k (0,0)=((r:Int),k+w,(0,0)))
theorem cntR_is {bs:List Int} (most:Int) {k:Nat} (hb:∀c∈bs,0≤c∧c<256) (hk:k≤bs.length):CntIs bs most k:=by
 obtain⟨r,w,e,he,hz⟩:=numL_pos (bs.drop k) 0 0 (nums_drop hb k)
 have h64:=(numL_lt (bs.drop k) 0 0 (nums_drop hb k) (by decide) (by decide)).2
 by_cases h0:e=0
 ·subst h0
  obtain⟨m,e1,e2,_,e4,e5⟩:=uintL_numL (bs.drop k) 0 0 r w (nums_drop hb k) he
  rw[List.length_drop]at e5
  rw[he]at h64
  dsimp only at h64
  by_cases hm:most<(r:Int)
  ·exact .big r w he (by omega) (by omega) hm (by unfold cntR;rw[if_pos rfl,he];dsimp only;rw[if_pos rfl,if_pos hm])
  ·exact .good r w he (by omega) (by omega) (by omega) (by unfold cntR;rw[if_pos rfl,he];dsimp only;rw[if_pos rfl,if_neg hm];rfl)
 ·obtain⟨rfl,rfl⟩:=hz h0
  exact .bad e he h0 (by unfold cntR;rw[if_pos rfl,he];dsimp only;rw[if_neg h0])
theorem cntR_bad {bs:List Int} {most:Int} {k:Nat} {f:Int×Int} (h:f≠(0,0)):cntR bs most k f=(0,k,f):=by unfold cntR;rw[if_neg h]
attribute [local irreducible] Tryz.prog
attribute [local irreducible] numL cntR
set_option maxHeartbeats 1000000 in
theorem count_fn (G:Gh) (b:Nat) (BA:Option Addr) (bs:List Int) (bc k:Nat) (f:Int×Int) (most:Int) (hB:Sl (Kd.int .u8) G BA bs) (hbs:∀c∈bs,0≤c∧c<256) (hk:k≤bs.length) (hn:bs.length≤140737488351232) (hm0:0≤most) (hm1:most≤9223372036854775807):
  Fn Tryz.prog 79 #[.pointer (some ⟨b,0,none⟩), .int .i64 most] G [rdB b BA bs.length bc k f] fun e G' H'=>e= .returned (.int .i64 (cntR bs most k f).1)∧G=G'∧H'=[rdB b BA bs.length bc (cntR bs most k f).2.1 (cntR bs most k f).2.2]:=by
 refine Fn.enter Tryz.func79 rfl rfl fun w0=>?_
 refine gom ?_
 refine WL.oo (OW.callK rfl (well_fn G b BA bs.length bc k f) rfl fun v' G' H' h hg=>?_)
 obtain⟨he,rfl,rfl⟩:=h
 cases he
 by_cases hf:f=(0,0)
 rotate_left
 ·rw[decide_eq_false hf,cntR_bad hf]
  refine gom ?_
  refine WC.rt ?_
  exact QF.p1 (.inl rfl) rfl (.tmp rfl) (⟨rfl,rfl,rfl⟩)
 subst hf
 rw[decide_eq_true rfl]
 have e0:decide (most<0)=false:=decide_eq_false (by omega)
 refine gom ?_
 refine WL.oo (OW.callK rfl (number_fn G b k (0,0) BA bs bc k hB hbs hk hn) rfl fun v' G' H' h hg=>?_)
 obtain⟨he,rfl,rfl⟩:=h
 cases he
 have hw64:IntKind.u64.wrap most=most:=by
  obtain⟨q,rfl⟩:∃q:Nat,most=q:=⟨most.toNat,by omega⟩
  exact wrapU64 (by omega)
 cases cntR_is most hbs hk with
 | bad e hnum h0 hr=>
  have e1:(e==0)=false:=by rw[beq_eq_false_iff_ne];exact h0
  have e2:(e != 0)=true:=by rw[bne_iff_ne];exact h0
  rw[hnum,hr]
  refine gom ?_
  refine WL.oo (OW.callK rfl (fails_fn G b BA bs.length bc k (0,0) e (k:Int)) rfl fun v' G' H' h hg=>?_)
  obtain⟨he,rfl,rfl⟩:=h
  cases he
  refine gom ?_
  refine WC.rt ?_
  exact QF.p1 (.inl rfl) rfl (.tmp rfl) (⟨rfl,rfl,rfl⟩)
 | big r w hnum hw h64 hlt hr=>
  have e1:decide (most<(r:Int))=true:=decide_eq_true hlt
  rw[hnum,hr]
  refine gom ?_
  refine WL.pp (Gp.convTo (r:=most) rfl hw64) ?_
  refine gom ?_
  refine WL.oo (OW.callK rfl (fails_fn G b BA bs.length bc k (0,0) 11 (k:Int)) rfl fun v' G' H' h hg=>?_)
  obtain⟨he,rfl,rfl⟩:=h
  cases he
  refine gom ?_
  refine WC.rt ?_
  exact QF.p1 (.inl rfl) rfl (.tmp rfl) (⟨rfl,rfl,rfl⟩)
 | good r w hnum hw h64 hle hr=>
  have e1:decide (most<(r:Int))=false:=decide_eq_false (by omega)
  have x2:IntKind.i64.wrap ((k:Int)+(w:Int))=((k+w:Nat):Int):=by rw[wrapI (by omega) (by omega)];omega
  rw[hnum,hr]
  refine gom ?_
  refine WL.pp (Gp.convTo (r:=most) rfl hw64) ?_
  refine gom ?_
  refine WL.pp (Gp.convTo (r:=(r:Int)) rfl (by rw[IntKind.wrap_i64];omega)) ?_
  refine gom ?_
  refine WC.rt ?_
  exact QF.p1 (.inl rfl) rfl (.tmp rfl) (⟨rfl,rfl,rfl⟩)
theorem fresh0_fn (G:Gh) (A:Option Addr) (l:List Int) (cap:Nat) (hA:Sl (Kd.int .u8) G A l) (hl:l.length≤140737488355328):
  Fn Tryz.prog 151 #[.slice A l.length cap, .int .i64 0] G [] fun e G' H'=>∃A' cap' x',e= .returned (.slice A' l.length cap')∧G=G'∧BVec A' l cap' x'∧H'=[x']:=by
 refine Fn.enter Tryz.func151 rfl rfl fun w0=>?_
 have x2:IntKind.i64.wrap ((l.length:Int)+0)=(l.length:Int):=by rw[wrapI (by omega) (by omega)];omega
 refine gom ?_
 refine WL.oo (OW.makeSlice2 (n:=1) (z:= .int .u8 0) (m:=(l.length:Int)) (c:=(l.length:Int)) rfl rfl rfl (by omega) (by omega) (by omega) (by omega) rfl fun tb o1 ho1=>?_)
 rw[Int.toNat_natCast]at ho1⊢
 refine gom ?_
 refine WL.oo (OW.copy rfl rfl kr ho1 .here hA.u8s (u8s_length l) (u8s_one l) (Nat.le_refl _) rfl fun o2 ho2=>?_)
 have h2:BVec (some ⟨tb,0,none⟩) l l.length o2:=by
  unfold BVec
  rw[List.drop_eq_nil_of_le (by rw[repS_length];exact Nat.le_refl _),List.append_nil]at ho2
  exact ho2
 refine gom ?_
 refine WC.rt ?_
 exact QF.p1 (.inl rfl) rfl (.tmp rfl) (⟨_,_,o2,rfl,rfl,h2,rfl⟩)
def rrC (BA:Option Addr) (n bc:Nat) (k:Nat) (f:Int×Int):Array Value:= #[.slice BA n bc, .int .i64 (k:Int), .int .i64 f.1, .int .i64 f.2]
end
theorem strI_ofNums {l:List Int} (h:∀c∈l,0≤c∧c<256):strI (strOfNums l)=l:=by
 unfold strI
 rw[strOfNums_data,List.map_map]
 conv=>rhs;rw[←List.map_id l]
 refine List.map_congr_left fun c hc=>?_
 obtain⟨h0,h1⟩:=h c hc
 simp only[Function.comp,id]
 rw[UInt8.toNat_ofNat']
 omega
theorem ofNums_strI (s:ByteArray):strOfNums (strI s)=s:=by
 apply ByteArray.ext
 apply Array.ext'
 rw[strOfNums_data,strI,List.map_map]
 conv=>rhs;rw[←List.map_id s.data.toList]
 refine List.map_congr_left fun c hc=>?_
 simp
theorem num_enc {bs rest:List Int} {k m:Nat} (h:m<18446744073709551616) (hd:bs.drop k=uintL m++rest):numL 0 0 (bs.drop k)=((m:Int),(((uintL m).length:Nat):Int),0):=by
 rw[hd,numL_uintL rest m 0 0 (by omega) (by omega) (.inl rfl)]
 simp
theorem num_dec {bs:List Int} {k r w:Nat} (hb:∀c∈bs,0≤c∧c<256) (h:numL 0 0 (bs.drop k)=((r:Int),(w:Int),0)):bs.drop k=uintL r++bs.drop (k+w)∧(uintL r).length=w:=by
 obtain⟨m,e1,e2,_,e4,e5⟩:=uintL_numL (bs.drop k) 0 0 r w (nums_drop hb k) h
 obtain rfl:r=m:=by simpa using e2
 rw[Nat.sub_zero]at e1 e5
 exact⟨by rw[e1,←List.drop_drop,List.take_append_drop],by rw[e1,List.length_take];omega⟩
def okT (most:Int) (s:ByteArray):Prop:=(s.size:Int)≤most
def NoRd {α:Type} (enc:α→List Int) (ok:α→Prop) (bs:List Int) (k:Nat):Prop:=∀a rest,ok a→bs.drop k≠enc a++rest
theorem Rd.no {α:Type} {enc:α→List Int} {ok:α→Prop} {bs:List Int} {k k':Nat} {f f':Int×Int} {a:α} (hk:k'≤bs.length) (hf:f'≠(0,0)) (h:f=(0,0)→NoRd enc ok bs k):Rd enc ok bs k f a k' f':=
 ⟨hk,fun e=>absurd e hf,fun e a' rest ho hd=>absurd hd (h e a' rest ho)⟩
theorem Rd.stay {α:Type} {enc:α→List Int} {ok:α→Prop} {bs:List Int} {k:Nat} {f:Int×Int} {a:α} (hk:k≤bs.length) (hf:f≠(0,0)):Rd enc ok bs k f a k f:=Rd.no hk hf fun e=>absurd e hf
theorem rd_text {bs:List Int} {k r w:Nat} {most:Int} (hb:∀c∈bs,0≤c∧c<256) (h:numL 0 0 (bs.drop k)=((r:Int),(w:Int),0)) (hr:(r:Int)≤most) (hm:most<18446744073709551616) (hl:k+w+r≤bs.length):
  Rd txtI (okT most) bs k (0,0) (strOfNums ((bs.drop (k+w)).take r)) (k+w+r) (0,0):=by
 obtain⟨h1,h2⟩:=num_dec hb h
 have hz:(strOfNums ((bs.drop (k+w)).take r)).size=r:=by rw[strOfNums_size,List.length_take,List.length_drop];omega
 refine⟨hl,fun _=>⟨rfl,?_,?_⟩,fun _ a rest ha hd=>⟨rfl,?_⟩⟩
 ·show((strOfNums _).size:Int)≤most
  rw[hz];exact hr
 ·unfold txtI
  rw[hz,strI_ofNums fun c hc=>hb c (List.mem_of_mem_drop (List.mem_of_mem_take hc)),List.append_assoc,←List.drop_drop (i:=r),List.take_append_drop]
  exact h1
 ·have h3:a.size<18446744073709551616:=by have h5:(a.size:Int)≤most:=ha;omega
  unfold txtI at hd
  rw[List.append_assoc]at hd
  have h6:=num_enc h3 hd
  rw[h]at h6
  have h7:r=a.size:=by have:=congrArg Prod.fst h6;dsimp only at this;omega
  subst h7
  rw[h1]at hd
  have h8:=List.append_cancel_left hd
  rw[h8,List.take_left' (strI_length a),ofNums_strI]
theorem no_text_num {bs:List Int} {k:Nat} {most:Int} {q:Int×Int×Int} (hm:most<18446744073709551616) (h:numL 0 0 (bs.drop k)=q) (he:q.2.2≠0):NoRd txtI (okT most) bs k:=fun a rest ha hd=>by
 have h5:(a.size:Int)≤most:=ha
 unfold txtI at hd
 rw[List.append_assoc]at hd
 rw[num_enc (by omega) hd]at h
 subst h
 exact he rfl
theorem no_text_long {bs:List Int} {k:Nat} {most r w e:Int} (hm:most<18446744073709551616) (h:numL 0 0 (bs.drop k)=(r,w,e)) (he:most<r):NoRd txtI (okT most) bs k:=fun a rest ha hd=>by
 have h5:(a.size:Int)≤most:=ha
 unfold txtI at hd
 rw[List.append_assoc]at hd
 rw[num_enc (by omega) hd]at h
 have:=congrArg Prod.fst h;dsimp only at this;omega
theorem no_text_short {bs:List Int} {k r w:Nat} {most:Int} (hk:k≤bs.length) (hm:most<18446744073709551616) (h:numL 0 0 (bs.drop k)=((r:Int),(w:Int),0)) (he:bs.length<k+w+r):NoRd txtI (okT most) bs k:=fun a rest ha hd=>by
 have h5:(a.size:Int)≤most:=ha
 unfold txtI at hd
 rw[List.append_assoc]at hd
 rw[num_enc (by omega) hd]at h
 have h1:=congrArg Prod.fst h
 have h2:=congrArg (fun x=>x.2.1) h
 dsimp only at h1 h2
 have h3:=congrArg List.length hd
 rw[List.length_append,List.length_append,strI_length,List.length_drop]at h3
 omega
theorem rd_uint {bs:List Int} (hb:∀c∈bs,0≤c∧c<256) {k:Nat} (hk:k≤bs.length) (f:Int×Int) (most:Nat) (hm:most≤18446744073709551615):Rd encU (fun n=>n≤most) bs k f (cntR bs most k f).1.toNat (cntR bs most k f).2.1 (cntR bs most k f).2.2:=by
 obtain⟨h1,h2,h3,h4,h5⟩:=cntR_le (bs:=bs) (most:=(most:Int)) (k:=k) (f:=f) hb hk (by omega)
 refine⟨h1,fun e=>?_,fun hf a rest ha hd=>?_⟩
 ·by_cases hf:f=(0,0)
  ·subst hf
   obtain⟨m,e1,e2,e3,_,_⟩:=cntR_ok (n:=(cntR bs most k (0,0)).1) (k':=(cntR bs most k (0,0)).2.1) hb hk (Prod.ext rfl (Prod.ext rfl e))
   rw[e1]
   exact⟨rfl,by show(m:Int).toNat≤most;omega,by rw[Int.toNat_natCast];exact e3⟩
  ·exact absurd (h4 hf▸e) hf
 ·subst hf
  have hbs:bs=bs.take k++uintL a++rest:=by rw[List.append_assoc,show uintL a++rest=bs.drop k from hd.symm,List.take_append_drop]
  have hlk:(bs.take k).length=k:=by rw[List.length_take];omega
  have:=cntR_uintL (pre:=bs.take k) (rest:=rest) (m:=a) (most:=(most:Int)) (by have:a≤most:=ha;omega) (by have:a≤most:=ha;omega)
  rw[←hbs,hlk]at this
  rw[this]
  exact⟨rfl,by simp⟩
def unzz (n:Nat):Int:=if n%2=0 then(n:Int) / 2 else -((n:Int) / 2) - 1
theorem unzz_zz (n:Int):unzz (zzN n)=n:=by unfold unzz zzN;split<;>split<;>omega
theorem zz_unzz (n:Nat):zzN (unzz n)=n:=by unfold unzz zzN;split<;>split<;>omega
theorem unzz_rng {n:Nat} (h:n<18446744073709551616): -9223372036854775808≤unzz n∧unzz n≤9223372036854775807:=by unfold unzz;split<;>omega
theorem zz_rng {n:Int} (h: -9223372036854775808≤n∧n≤9223372036854775807):zzN n≤18446744073709551615:=by unfold zzN;split<;>omega
def ok64 (n:Int):Prop:= -9223372036854775808≤n∧n≤9223372036854775807
def encZ (n:Int):List Int:=uintL (zzN n)
theorem rd_int {bs:List Int} (hb:∀c∈bs,0≤c∧c<256) {k:Nat} (hk:k≤bs.length) (f:Int×Int):Rd encZ ok64 bs k f (unzz (cntR bs 18446744073709551615 k f).1.toNat) (cntR bs 18446744073709551615 k f).2.1 (cntR bs 18446744073709551615 k f).2.2:=
 Rd.map (e1:=encU) (o1:=fun n=>n≤18446744073709551615) unzz (fun c hc=>⟨zzN c,unzz_zz c,zz_rng hc⟩) (fun a ha=>unzz_rng (by omega)) (fun a _=>by unfold encZ encU;rw[zz_unzz]) (rd_uint hb hk f 18446744073709551615 (Nat.le_refl _))
theorem bits_xor_i64 (m:Nat) (h:m<9223372036854775808):bits .xor .i64 (m:Int) (-1)= -(m:Int) - 1:=by
 have h1:(BitVec.ofInt 64 (m:Int)).toNat=m:=by rw[BitVec.ofInt_natCast,BitVec.toNat_ofNat];exact Nat.mod_eq_of_lt (by omega)
 have h2:(BitVec.ofInt 64 (-1:Int)).toNat=18446744073709551615:=by decide
 have hx:∀m:Nat,m<2^64→m^^^(2^64 - 1)=2^64 - 1 - m:=fun m hm=>by
  apply Nat.eq_of_testBit_eq
  intro i
  rw[Nat.testBit_xor,Nat.testBit_two_pow_sub_one,show 2^64 - 1 - m=2^64 - (m+1) by omega,Nat.testBit_two_pow_sub_succ hm]
  by_cases hi:i<64
  ·simp[hi]
  ·have:m.testBit i=false:=Nat.testBit_lt_two_pow (Nat.lt_of_lt_of_le hm (Nat.pow_le_pow_right (by decide) (by omega)))
   simp[hi,this]
 have h3:=hx m (by omega)
 show IntKind.i64.wrap ((BitVec.ofInt 64 (m:Int)^^^BitVec.ofInt 64 (-1:Int)).toNat:Int)=_
 rw[BitVec.toNat_xor,h1,h2,show(18446744073709551615:Nat)=2^64 - 1 from rfl,h3]
 simp[IntKind.wrap,IntKind.signed,IntKind.bits]
 omega
theorem bits_xor_i64z (m:Nat) (h:m<9223372036854775808):bits .xor .i64 (m:Int) 0=(m:Int):=by
 have h1:(BitVec.ofInt 64 (m:Int)).toNat=m:=by rw[BitVec.ofInt_natCast,BitVec.toNat_ofNat];exact Nat.mod_eq_of_lt (by omega)
 show IntKind.i64.wrap ((BitVec.ofInt 64 (m:Int)^^^BitVec.ofInt 64 (0:Int)).toNat:Int)=_
 rw[BitVec.toNat_xor,h1,show(BitVec.ofInt 64 (0:Int)).toNat=0 by decide,Nat.xor_zero]
 simp[IntKind.wrap,IntKind.signed,IntKind.bits]
 omega
theorem zz_back (n:Nat) (h:n<18446744073709551616):bits .xor .i64 (((n / 2:Nat):Int)) (if n%2=0 then 0 else -1)=unzz n:=by
 unfold unzz
 split
 ·rw[bits_xor_i64z _ (by omega)];omega
 ·rw[bits_xor_i64 _ (by omega)];omega
def encT (b:Bool):List Int:=[boolI b]
theorem rd_bool {bs:List Int} {k:Nat} {c:Int} (hc:bs[k]? =some c) (h0:0≤c) (h1:c≤1):Rd encT (fun _=>True) bs k (0,0) (c==1) (k+1) (0,0):=by
 have hl:=(List.getElem?_eq_some_iff.1 hc).1
 have hd0:bs.drop k=c::bs.drop (k+1):=by
  rw[List.drop_eq_getElem_cons hl]
  congr 1
  exact(List.getElem?_eq_some_iff.1 hc).2
 have h2:boolI (c==1)=c:=by
  rcases(by omega:c=0∨c=1)with rfl | rfl<;>rfl
 refine⟨by omega,fun _=>⟨rfl,trivial,by rw[hd0];unfold encT;rw[h2];rfl⟩,fun _ a rest _ hd=>⟨rfl,?_⟩⟩
 rw[hd0]at hd
 unfold encT at hd
 simp only[List.cons_append,List.nil_append,List.cons.injEq]at hd
 rw[hd.1]
 cases a<;>rfl
theorem no_bool {bs:List Int} {k:Nat} (h:∀c,bs[k]? =some c→1<c):NoRd encT (fun _=>True) bs k:=fun a rest _ hd=>by
 have h1:bs[k]? =some (boolI a):=by rw[←List.head?_drop,hd];rfl
 have:=h _ h1
 cases a<;>simp[boolI]at this
theorem rd_raw {bs:List Int} {k n:Nat} (h:k+n≤bs.length):Rd (fun l:List Int=>l) (fun l=>l.length=n) bs k (0,0) ((bs.drop k).take n) (k+n) (0,0):=by
 refine⟨h,fun _=>⟨rfl,by rw[List.length_take,List.length_drop];omega,by rw[←List.drop_drop,List.take_append_drop]⟩,fun _ a rest ha hd=>⟨rfl,by rw[hd,List.take_left' ha]⟩⟩
theorem no_raw {bs:List Int} {k n:Nat} (hk:k≤bs.length) (h:bs.length<k+n):NoRd (fun l:List Int=>l) (fun l=>l.length=n) bs k:=fun a rest ha hd=>by
 have h1:(bs.drop k).length=(a++rest).length:=congrArg List.length hd
 rw[List.length_append,List.length_drop]at h1
 have h2:a.length=n:=ha
 omega
theorem Rd.stop {α:Type} {enc:α→List Int} {ok:α→Prop} {bs:List Int} {k k' m n:Nat} {f f':Int×Int} {l l2:List α} (h:Rd (encL enc) (fun l=>l.length=m∧∀a∈l,ok a) bs k f l k' f') (hm:m≤n) (hf:f'≠(0,0)):Rd (encL enc) (fun l=>l.length=n∧∀a∈l,ok a) bs k f l2 k' f':=by
 refine⟨h.le,fun e=>absurd e hf,fun e c rest hc hd=>?_⟩
 refine absurd (h.full e (c.take m) ((c.drop m).flatMap enc++rest) ⟨by rw[List.length_take];have:=hc.1;omega,fun a ha=>hc.2 a (List.mem_of_mem_take ha)⟩ ?_).1 hf
 rw[hd]
 unfold encL
 rw[←List.append_assoc,←List.flatMap_append,List.take_append_drop]
section
open Go.MapKept
attribute [local irreducible] Tryz.prog
attribute [local irreducible] numL cntR txtI encZ encT
theorem and1_u64 (m:Nat) (h:m<18446744073709551616):bits .and .u64 (m:Int) 1=((m%2:Nat):Int):=by
 have:=bits_and_u64_nat m 1 h (by decide)
 rw[Nat.and_one_is_mod]at this
 exact this
section
variable {P:Program} {L:List (Nat×Value)} {d:Option Tmp} {ty:TypeId} {pos:String} {af:Array Edge} {gu:Option (Nat×Bool)}
theorem Gp.slice2R {t e n by_:Nat} {z:Value} {x y y':Operand} {A:Option Addr} {len cap:Nat} {k k':IntKind} {i j:Int} {v:Value} (hx:ev L x=some (.slice A len cap)) (hy:ev L y=some (.int k i)) (hy':ev L y'=some (.int k' j)) [hu:Und P t (.slice e)] [hi:Inf P e n by_ z] (h0:0≤i) (h1:i≤j) (h2:j≤cap)
  (h:(.slice (if cap=i.toNat then A else A.map (·.add (i.toNat*n))) (j.toNat - i.toNat) (cap - i.toNat):Value)=v):Gp P L ⟨d, .slice t x (some y) (some y') none,ty,pos,af,gu⟩ v:=h▸Gp.slice2 hx hy hy' h0 h1 h2
theorem Gp.negR2 {t:TypeId} {x:Operand} {k:IntKind} {m r:Int} (hx:ev L x=some (.int k m)) (h:k.wrap (0 - m)=r):Gp P L ⟨d, .unOp .neg t x,ty,pos,af,gu⟩ (.int k r):=h▸Gp.negI hx
end
section
variable (G:Gh) (b:Nat) (BA:Option Addr) (bs:List Int) (bc k:Nat) (f:Int×Int) (hB:Sl (Kd.int .u8) G BA bs) (hbs:∀c∈bs,0≤c∧c<256) (hk:k≤bs.length) (hn:bs.length≤140737488351232)
include hB hbs hk hn
set_option maxHeartbeats 1000000 in
theorem uint2_fn:
  Fn Tryz.prog 157 #[.pointer (some ⟨b,0,none⟩)] G [rdB b BA bs.length bc k f] fun e G' H'=>e= .returned (.int .u64 (cntR bs 18446744073709551615 k f).1)∧G=G'∧H'=[rdB b BA bs.length bc (cntR bs 18446744073709551615 k f).2.1 (cntR bs 18446744073709551615 k f).2.2]:=by
 refine Fn.enter Tryz.func157 rfl rfl fun w0=>?_
 refine gom ?_
 refine WL.oo (OW.callK rfl (well_fn G b BA bs.length bc k f) rfl fun v' G' H' h hg=>?_)
 obtain⟨he,rfl,rfl⟩:=h
 cases he
 by_cases h0:f=(0,0)
 rotate_left
 ·rw[decide_eq_false h0,cntR_bad h0]
  refine gom ?_
  refine WC.rt ?_
  exact QF.p1 (.inl rfl) rfl (.tmp rfl) (⟨rfl,rfl,rfl⟩)
 subst h0
 rw[decide_eq_true rfl]
 refine gom ?_
 refine WL.oo (OW.callK rfl (number_fn G b k (0,0) BA bs bc k hB hbs hk hn) rfl fun v' G' H' h hg=>?_)
 obtain⟨he,rfl,rfl⟩:=h
 cases he
 cases cntR_is 18446744073709551615 hbs hk with
 | bad e hnum h0 hr=>
  have e1:(e==0)=false:=by rw[beq_eq_false_iff_ne];exact h0
  have e2:(e != 0)=true:=by rw[bne_iff_ne];exact h0
  rw[hnum,hr]
  refine gom ?_
  refine WL.oo (OW.callK rfl (fails_fn G b BA bs.length bc k (0,0) e (k:Int)) rfl fun v' G' H' h hg=>?_)
  obtain⟨he,rfl,rfl⟩:=h
  cases he
  refine gom ?_
  refine WC.rt ?_
  exact QF.p1 (.inl rfl) rfl (.tmp rfl) (⟨rfl,rfl,rfl⟩)
 | big r w hnum hw h64 hlt hr=>omega
 | good r w hnum hw h64 hle hr=>
  have x2:IntKind.i64.wrap ((k:Int)+(w:Int))=((k+w:Nat):Int):=by rw[wrapI (by omega) (by omega)];omega
  rw[hnum,hr]
  refine gom ?_
  refine WC.rt ?_
  exact QF.p1 (.inl rfl) rfl (.tmp rfl) (⟨rfl,rfl,rfl⟩)
set_option maxHeartbeats 1000000 in
theorem rInt2_fn:
  Fn Tryz.prog 119 #[.pointer (some ⟨b,0,none⟩)] G [rdB b BA bs.length bc k f] fun e G' H'=>∃n k' f',e= .returned (.int .i64 n)∧G=G'∧ok64 n∧Rd encZ ok64 bs k f n k' f'∧H'=[rdB b BA bs.length bc k' f']:=by
 refine Fn.enter Tryz.func119 rfl rfl fun w0=>?_
 refine gom ?_
 refine WL.oo (OW.callK rfl (uint2_fn G b BA bs bc k f hB hbs hk hn) rfl fun v' G' H' h hg=>?_)
 obtain⟨he,rfl,rfl⟩:=h
 cases he
 have hrd:=rd_int hbs hk f
 have hm:∃m:Nat,(cntR bs 18446744073709551615 k f).1=(m:Int)∧m<18446744073709551616:=by
  obtain⟨_,h2,h3,_,_⟩:=cntR_le (bs:=bs) (most:=18446744073709551615) (k:=k) (f:=f) hbs hk (by decide)
  exact⟨(cntR bs 18446744073709551615 k f).1.toNat,by omega,by omega⟩
 obtain⟨m,hm,h64⟩:=hm
 generalize cntR bs 18446744073709551615 k f=q at hrd hm⊢
 obtain⟨q1,q2,q3⟩:=q
 dsimp only at hm hrd⊢
 subst hm
 rw[Int.toNat_natCast]at hrd
 have hz:=zz_back m h64
 have hor:=unzz_rng h64
 refine gom ?_
 refine WL.pp (Gp.shrTo (r:=((m / 2:Nat):Int)) rfl rfl (by decide) (by show(m:Int) / 2^1=_;omega)) ?_
 refine WL.pp (Gp.convTo (r:=((m / 2:Nat):Int)) rfl (by rw[IntKind.wrap_i64];omega)) ?_
 refine gom ?_
 refine WL.pp (Gp.andTo rfl rfl (and1_u64 m h64)) ?_
 refine WL.pp (Gp.convTo (r:=((m%2:Nat):Int)) rfl (wrapI (by omega) (by omega))) ?_
 refine WL.pp (Gp.negR2 (r:=if m%2=0 then 0 else -1) rfl (by split<;>rw[wrapI (by omega) (by omega)]<;>omega)) ?_
 refine WL.pp (Gp.xorT rfl rfl hz) ?_
 refine gom ?_
 refine WC.rt ?_
 exact QF.p1 (.inl rfl) rfl (.tmp rfl) (⟨_,_,_,rfl,rfl,hor,hrd,rfl⟩)
set_option maxHeartbeats 1000000 in
theorem rBool2_fn:
  Fn Tryz.prog 120 #[.pointer (some ⟨b,0,none⟩)] G [rdB b BA bs.length bc k f] fun e G' H'=>∃n k' f',e= .returned (.bool n)∧G=G'∧Rd encT (fun _=>True) bs k f n k' f'∧H'=[rdB b BA bs.length bc k' f']:=by
 refine Fn.enter Tryz.func120 rfl rfl fun w0=>?_
 refine gom ?_
 refine WL.oo (OW.callK rfl (well_fn G b BA bs.length bc k f) rfl fun v' G' H' h hg=>?_)
 obtain⟨he,rfl,rfl⟩:=h
 cases he
 by_cases hf:f=(0,0)
 rotate_left
 ·rw[decide_eq_false hf]
  refine gom ?_
  refine WC.rt ?_
  exact QF.p1 (.inl rfl) rfl (.tmp rfl) (⟨_,_,_,rfl,rfl,Rd.stay hk hf,rfl⟩)
 rw[decide_eq_true hf]
 refine gom ?_
 refine WL.oo (OW.callK rfl (left_fn G b BA bs.length bc k f hk (by omega)) rfl fun v' G' H' h hg=>?_)
 obtain⟨he,rfl,rfl⟩:=h
 cases he
 by_cases hlt:k<bs.length
 rotate_left
 ·have e2:decide (((bs.length - k:Nat):Int)<1)=true:=decide_eq_true (by omega)
  refine gom ?_
  refine WL.oo (OW.callK rfl (fails_fn G b BA bs.length bc k f 4 (k:Int)) rfl fun v' G' H' h hg=>?_)
  obtain⟨he,rfl,rfl⟩:=h
  cases he
  refine gom ?_
  refine WC.rt ?_
  exact QF.p1 (.inl rfl) rfl (.tmp rfl) (⟨false,k,(4,(k:Int)),rfl,rfl,Rd.no hk (by simp) (fun _=>no_bool fun c hc=>absurd (List.getElem?_eq_some_iff.1 hc).1 hlt),rfl⟩)
 have e2:decide (((bs.length - k:Nat):Int)<1)=false:=decide_eq_false (by omega)
 obtain⟨c,hc⟩:∃c,bs[k]? =some c:=⟨_,List.getElem?_eq_getElem hlt⟩
 have hcr:=hbs c (List.mem_of_getElem? hc)
 obtain⟨bb,bo,cs,rfl,hks,hcs⟩:=hB k c hc
 obtain rfl:cs=[.int .u8 c]:=hks
 have x0:(0:Int)≤(k:Int):=by omega
 have x1:(k:Int)<(bs.length:Int):=by omega
 by_cases hc1:1<c
 ·have e3:decide (1<c)=true:=decide_eq_true hc1
  refine gom ?_
  refine gom ?_
  refine WL.oo (OW.callK rfl (fails_fn G b (some ⟨bb,bo,none⟩) bs.length bc k f 5 (k:Int)) rfl fun v' G' H' h hg=>?_)
  obtain⟨he,rfl,rfl⟩:=h
  cases he
  refine gom ?_
  refine WC.rt ?_
  exact QF.p1 (.inl rfl) rfl (.tmp rfl) (⟨false,k,(5,(k:Int)),rfl,rfl,Rd.no hk (by simp) (fun _=>no_bool fun d hd=>by rw[hc]at hd;cases hd;exact hc1),rfl⟩)
 ·have e3:decide (1<c)=false:=decide_eq_false hc1
  have x2:IntKind.i64.wrap ((k:Int)+1)=((k+1:Nat):Int):=by rw[wrapI (by omega) (by omega)];rfl
  have x3:IntKind.i64.wrap (((k+1:Nat):Int) - 1)=(k:Int):=by rw[wrapI (by omega) (by omega)];omega
  subst hf
  refine go ?_
  refine WC.draw mixed ?_
  refine za.move 0 ?_
  refine za.nil 1 ?_
  refine za.fa 2 ?_
  refine za.fa 3 ?_
  refine za.ld 4 ?_
  refine za.move 5 ?_
  refine za.nil 6 ?_
  refine za.fa 7 ?_
  refine za.fa 8 ?_
  refine za.ld 9 ?_
  refine za.ix 10 ?_
  refine WA.vv 11 rfl (Gv.loadG1 (i:=0) rfl hcs rfl) ?_
  refine WA.pp 12 rfl (Gp.gtI' rfl rfl e3) ?_
  refine za.assign 13 ?_
  refine WA.done kr ?_
  refine WK.un ?_
  refine go ?_
  refine WC.pick [rdB b (some ⟨bb,bo,none⟩) bs.length bc (k+1) (0,0)] ?_
  refine WC.drawS (Hs:=[rdB b (some ⟨bb,bo,none⟩) bs.length bc (k+1) (0,0)]) mixed pkA ?_
  refine zb.move 0 ?_
  refine zb.nil 1 ?_
  refine zb.fa 2 ?_
  refine zb.fa 3 ?_
  refine zb.move 5 ?_
  refine zb.nil 6 ?_
  refine zb.fa 7 ?_
  refine zb.fa 8 ?_
  refine zb.ld 9 ?_
  refine WB.pp 10 rfl (Gp.subTo rfl rfl x3) ?_
  refine zb.ld 4 ?_
  refine zb.ix 11 ?_
  refine WB.vv 12 rfl (Gv.loadG1 (i:=0) rfl hcs rfl) ?_
  refine WB.pp 13 rfl (Gp.eqI rfl rfl) ?_
  refine zb.assign 14 ?_
  refine WB.done kr ?_
  refine WK.un ?_
  refine WC.rt ?_
  exact QF.p1 (.inl rfl) rfl (.tmp rfl) (⟨_,_,_,rfl,rfl,rd_bool hc hcr.1 (by omega),rfl⟩)
def TxtP (bs:List Int) (most:Int) (k:Nat) (s:ByteArray) (en e:Int):Prop:=(e≠0∧NoRd txtI (okT most) bs k)∨(e=0∧∃k':Nat,en=(k':Int)∧(s.size:Int)≤most∧Rd txtI (okT most) bs k (0,0) s k' (0,0))
set_option maxHeartbeats 1000000 in
theorem text2_fn (hbc:bs.length≤bc) (most:Int) (hm0:0≤most) (hm1:most≤1000000000000):
  Fn Tryz.prog 117 #[.pointer (some ⟨b,0,none⟩), .int .i64 (k:Int), .int .i64 most] G [rdB b BA bs.length bc k f] fun e G' H'=>∃s en er,e= .returned (.tuple #[.string s, .int .i64 en, .int .i64 er])∧G=G'∧TxtP bs most k s en er∧H'=[rdB b BA bs.length bc k f]:=by
 refine Fn.enter Tryz.func117 rfl rfl fun w0=>?_
 refine gom ?_
 refine WL.oo (OW.callK rfl (number_fn G b k f BA bs bc k hB hbs hk hn) rfl fun v' G' H' h hg=>?_)
 obtain⟨he,rfl,rfl⟩:=h
 cases he
 have hw64:IntKind.u64.wrap most=most:=by
  obtain⟨q,rfl⟩:∃q:Nat,most=q:=⟨most.toNat,by omega⟩
  exact wrapU64 (by omega)
 cases cntR_is most hbs hk with
 | bad e hnum h0 hr=>
  have e1:(e==0)=false:=by rw[beq_eq_false_iff_ne];exact h0
  have e2:(e != 0)=true:=by rw[bne_iff_ne];exact h0
  rw[hnum]
  refine gom ?_
  refine WC.rt ?_
  exact QF.p3 (.inl rfl) rfl (.tmp rfl) (.tmp rfl) (.tmp rfl) (⟨_,_,_,rfl,rfl, .inl ⟨h0,no_text_num (by omega) hnum h0⟩,rfl⟩)
 | big r w hnum hw h64 hlt hr=>
  have e1:decide (most<(r:Int))=true:=decide_eq_true hlt
  rw[hnum]
  refine gom ?_
  refine WL.pp (Gp.convTo (r:=most) rfl hw64) ?_
  refine gom ?_
  refine WC.rt ?_
  exact QF.p3 (.inl rfl) rfl (.tmp rfl) (.tmp rfl) (.tmp rfl) (⟨_,_,_,rfl,rfl, .inl ⟨by decide,no_text_long (by omega) hnum hlt⟩,rfl⟩)
 | good r w hnum hw h64 hle hr=>
  have e1:decide (most<(r:Int))=false:=decide_eq_false (by omega)
  have x1:IntKind.i64.wrap ((bs.length:Int) - (k:Int))=((bs.length - k:Nat):Int):=by rw[wrapI (by omega) (by omega)];omega
  have x2:IntKind.i64.wrap (((bs.length - k:Nat):Int) - (w:Int))=((bs.length - k - w:Nat):Int):=by rw[wrapI (by omega) (by omega)];omega
  rw[hnum]
  refine gom ?_
  refine WL.pp (Gp.convTo (r:=most) rfl hw64) ?_
  by_cases hlr:bs.length<k+w+r
  ·have e3:decide (((bs.length - k - w:Nat):Int)<(r:Int))=true:=decide_eq_true (by omega)
   refine gom ?_
   refine WL.pp (Gp.convTo (r:=((bs.length - k - w:Nat):Int)) rfl (wrapU64 (by omega))) ?_
   refine gom ?_
   refine WC.rt ?_
   exact QF.p3 (.inl rfl) rfl (.tmp rfl) (.tmp rfl) (.tmp rfl) (⟨_,_,_,rfl,rfl, .inl ⟨by decide,no_text_short hk (by omega) hnum hlr⟩,rfl⟩)
  ·have e3:decide (((bs.length - k - w:Nat):Int)<(r:Int))=false:=decide_eq_false (by omega)
   have x3:IntKind.i64.wrap ((k:Int)+(w:Int))=((k+w:Nat):Int):=by rw[wrapI (by omega) (by omega)];omega
   have x4:IntKind.i64.wrap (((k+w:Nat):Int)+(r:Int))=((k+w+r:Nat):Int):=by rw[wrapI (by omega) (by omega)];omega
   have hrd:=rd_text hbs hnum hle (by omega) (by omega)
   have hsz:((strOfNums ((bs.drop (k+w)).take r)).size:Int)≤most:=by rw[strOfNums_size,List.length_take];omega
   refine gom ?_
   refine WL.pp (Gp.convTo (r:=((bs.length - k - w:Nat):Int)) rfl (wrapU64 (by omega))) ?_
   refine gom ?_
   refine WL.pp (Gp.convTo (r:=(r:Int)) rfl (wrapI (by omega) (by omega))) ?_
   refine gom ?_
   have hl3:((bs.drop (k+w)).take r).length=r:=by rw[List.length_take,List.length_drop];omega
   have hsl:=(hB.fromG hbc (lo:=k+w)).take r
   refine WL.pp (Gp.slice2R (v:= .slice (if bc=k+w then BA else BA.map (·.add ((k+w)*1))) ((bs.drop (k+w)).take r).length (bc - (k+w))) rfl rfl rfl (by omega) (by omega) (by omega) (by rw[hl3,Int.toNat_natCast,Int.toNat_natCast,Nat.add_sub_cancel_left])) ?_
   refine WL.vv (Gv.convBytes (xs:=(bs.drop (k+w)).take r) rfl hsl.u8s hsl.none_zero) ?_
   refine gom ?_
   refine WC.rt ?_
   exact QF.p3 (.inl rfl) rfl (.tmp rfl) (.tmp rfl) (.tmp rfl) (⟨_,_,_,rfl,rfl, .inr ⟨rfl,_,rfl,hsz,hrd⟩,rfl⟩)
set_option maxHeartbeats 1000000 in
theorem rText2_fn (hbc:bs.length≤bc) (most:Int) (hm0:0≤most) (hm1:most≤1000000000000):
  Fn Tryz.prog 71 #[.pointer (some ⟨b,0,none⟩), .int .i64 most] G [rdB b BA bs.length bc k f] fun e G' H'=>∃s k' f',e= .returned (.string s)∧G=G'∧(s.size:Int)≤most∧Rd txtI (okT most) bs k f s k' f'∧H'=[rdB b BA bs.length bc k' f']:=by
 refine Fn.enter Tryz.func71 rfl rfl fun w0=>?_
 refine gom ?_
 refine WL.oo (OW.callK rfl (well_fn G b BA bs.length bc k f) rfl fun v' G' H' h hg=>?_)
 obtain⟨he,rfl,rfl⟩:=h
 cases he
 by_cases hf:f=(0,0)
 rotate_left
 ·rw[decide_eq_false hf]
  refine gom ?_
  refine WC.rt ?_
  exact QF.p1 (.inl rfl) rfl (.tmp rfl) (⟨⟨#[]⟩,k,f,rfl,rfl,hm0,Rd.stay hk hf,rfl⟩)
 rw[decide_eq_true hf]
 have e0:decide (most<0)=false:=decide_eq_false (by omega)
 refine gom ?_
 refine WL.oo (OW.callK rfl (text2_fn G b BA bs bc k f hB hbs hk hn hbc most hm0 hm1) rfl fun v' G' H' h hg=>?_)
 obtain⟨s,en,er,he,rfl,ht,rfl⟩:=h
 cases he
 rcases ht with⟨h0,hno⟩ | ⟨rfl,k',rfl,hsz,hrd⟩
 ·have e1:(er==0)=false:=by rw[beq_eq_false_iff_ne];exact h0
  have e2:(er != 0)=true:=by rw[bne_iff_ne];exact h0
  refine gom ?_
  refine WL.oo (OW.callK rfl (fails_fn G b BA bs.length bc k f er (k:Int)) rfl fun v' G' H' h hg=>?_)
  obtain⟨he,rfl,rfl⟩:=h
  cases he
  refine gom ?_
  refine WC.rt ?_
  exact QF.p1 (.inl rfl) rfl (.tmp rfl) (⟨⟨#[]⟩,k,(er,(k:Int)),rfl,rfl,hm0,Rd.no hk (fun e=>h0 (congrArg Prod.fst e)) (fun _=>hno),rfl⟩)
 ·subst hf
  refine gom ?_
  refine WC.rt ?_
  exact QF.p1 (.inl rfl) rfl (.tmp rfl) (⟨s,k',(0,0),rfl,rfl,hsz,hrd,rfl⟩)
set_option maxHeartbeats 1000000 in
theorem rRaw2_fn (hbc:bs.length≤bc) (n:Nat) (hnn:n≤1000000000000):
  Fn Tryz.prog 114 #[.pointer (some ⟨b,0,none⟩), .int .i64 (n:Int)] G [rdB b BA bs.length bc k f] fun e G' H'=>∃l A' cap x' k' f',e= .returned (.slice A' l.length cap)∧G=G'∧BVec A' l cap x'∧(f'≠(0,0)→l=[])∧Rd (fun l:List Int=>l) (fun l=>l.length=n) bs k f l k' f'∧H'=[x',rdB b BA bs.length bc k' f']:=by
 refine Fn.enter Tryz.func114 rfl rfl fun w0=>?_
 refine gom ?_
 refine WL.oo (OW.callK rfl (well_fn G b BA bs.length bc k f) rfl fun v' G' H' h hg=>?_)
 obtain⟨he,rfl,rfl⟩:=h
 cases he
 by_cases hf:f=(0,0)
 rotate_left
 ·rw[decide_eq_false hf]
  refine gom ?_
  refine WC.nothing ?_
  refine WC.rt ?_
  exact QF.p1 (.inl rfl) rfl (.tmp rfl) (⟨[],none,0,_,k,f,rfl,rfl,BVec.nil,fun _=>rfl,Rd.stay hk hf,rfl⟩)
 rw[decide_eq_true hf]
 have e0:decide ((n:Int)<0)=false:=decide_eq_false (by omega)
 refine gom ?_
 refine WL.oo (OW.callK rfl (left_fn G b BA bs.length bc k f hk (by omega)) rfl fun v' G' H' h hg=>?_)
 obtain⟨he,rfl,rfl⟩:=h
 cases he
 by_cases hlt:bs.length<k+n
 ·have e2:decide (((bs.length - k:Nat):Int)<(n:Int))=true:=decide_eq_true (by omega)
  refine gom ?_
  refine WL.oo (OW.callK rfl (fails_fn G b BA bs.length bc k f 4 (k:Int)) rfl fun v' G' H' h hg=>?_)
  obtain⟨he,rfl,rfl⟩:=h
  cases he
  refine gom ?_
  refine WC.nothing ?_
  refine WC.rt ?_
  exact QF.p1 (.inl rfl) rfl (.tmp rfl) (⟨[],none,0,_,k,(4,(k:Int)),rfl,rfl,BVec.nil,fun _=>rfl,Rd.no hk (by simp) (fun _=>no_raw hk hlt),rfl⟩)
 have e2:decide (((bs.length - k:Nat):Int)<(n:Int))=false:=decide_eq_false (by omega)
 have x2:IntKind.i64.wrap ((k:Int)+(n:Int))=((k+n:Nat):Int):=by rw[wrapI (by omega) (by omega)];omega
 have x4:IntKind.i64.wrap (((k+n:Nat):Int) - (n:Int))=(k:Int):=by rw[wrapI (by omega) (by omega)];omega
 have hlen:((bs.drop k).take n).length=n:=by rw[List.length_take,List.length_drop];omega
 have hsl:=(hB.fromG hbc (lo:=k)).take n
 subst hf
 refine go ?_
 refine WC.pick [rdB b BA bs.length bc (k+n) (0,0)] ?_
 refine WC.drawS (Hs:=[rdB b BA bs.length bc (k+n) (0,0)]) mixed pkA ?_
 refine zb.move 0 ?_
 refine zb.nil 1 ?_
 refine zb.fa 2 ?_
 refine zb.fa 3 ?_
 refine zb.move 5 ?_
 refine zb.nil 6 ?_
 refine zb.fa 7 ?_
 refine zb.fa 8 ?_
 refine zb.ld 9 ?_
 refine zb.move 10 ?_
 refine WB.pp 11 rfl (Gp.subTo rfl rfl x4) ?_
 refine zb.ld 4 ?_
 refine zb.move 12 ?_
 refine zb.nil 13 ?_
 refine zb.fa 14 ?_
 refine zb.fa 15 ?_
 refine zb.ld 16 ?_
 refine WB.pp 17 rfl (Gp.slice2R (v:= .slice (if bc=k then BA else BA.map (·.add (k*1))) ((bs.drop k).take n).length (bc - k)) rfl rfl rfl (by omega) (by omega) (by omega) (by rw[hlen,Int.toNat_natCast,Int.toNat_natCast,Nat.add_sub_cancel_left])) ?_
 refine WB.oo 18 rfl (OW.callK rfl (fresh0_fn G _ _ (bc - k) hsl (by rw[hlen];omega)) rfl fun v' G' H' h hg=>?_)
 obtain⟨A1,c1,x1,he,rfl,h1,rfl⟩:=h
 cases he
 refine⟨fun w hw=>hw.pk pkA,?_⟩
 refine zb.assign 19 ?_
 refine WB.done kr ?_
 refine WK.un ?_
 refine WC.rt ?_
 exact QF.p1 (.inl rfl) rfl (.tmp rfl) (⟨_,A1,c1,x1,_,_,rfl,rfl,h1,fun e=>absurd rfl e,rd_raw (by omega),rfl⟩)
end
end
section
theorem Rd.dep {α β γ:Type} {e1:α→List Int} {o1:α→Prop} {e2:β→List Int} {o2:β→Prop} {enc:γ→List Int} {ok:γ→Prop} {bs:List Int} {k k1 k2:Nat} {f f1 f2:Int×Int} {a:α} {b:β} (c:γ) (h1:Rd e1 o1 bs k f a k1 f1) (h2:Rd e2 o2 bs k1 f1 b k2 f2)
  (hs:o1 a→o2 b→ok c∧enc c=e1 a++e2 b) (hf:∀c',ok c'→∃a' r,o1 a'∧enc c'=e1 a'++r∧(a'=a→∃b',o2 b'∧r=e2 b'∧(b'=b→c'=c))):Rd enc ok bs k f c k2 f2:=by
 refine⟨h2.le,fun e=>?_,fun h0 c' rest hc hd=>?_⟩
 ·obtain⟨q1,q2,q3⟩:=h2.sound e
  obtain⟨p1,p2,p3⟩:=h1.sound q1
  obtain⟨r1,r2⟩:=hs p2 q2
  exact⟨p1,r1,by rw[p3,q3,r2,List.append_assoc]⟩
 ·obtain⟨a',r,ha,he,hr⟩:=hf c' hc
  rw[he,List.append_assoc]at hd
  obtain⟨p1,p2,p3⟩:=h1.rest h0 ha hd
  obtain⟨b',hb,rfl,hcc⟩:=hr p2
  obtain⟨q1,q2⟩:=h2.full p1 b' rest hb p3.symm
  exact⟨q1,hcc q2⟩
def encN {α:Type} (enc:α→List Int) (l:List α):List Int:=uintL l.length++l.flatMap enc
def okN {α:Type} (most:Nat) (ok:α→Prop) (l:List α):Prop:=l.length≤most∧∀a∈l,ok a
theorem Rd.list {α:Type} {enc:α→List Int} {ok:α→Prop} {bs:List Int} {k k1 k2 n most:Nat} {f f1 f2:Int×Int} {l:List α} (h1:Rd encU (fun n=>n≤most) bs k f n k1 f1) (h2:Rd (encL enc) (fun l=>l.length=n∧∀a∈l,ok a) bs k1 f1 l k2 f2):Rd (encN enc) (okN most ok) bs k f l k2 f2:=
 Rd.dep l h1 h2 (fun a b=>⟨⟨by rw[b.1];exact a,b.2⟩,by unfold encN encU encL;rw[b.1]⟩) fun c' hc=>⟨c'.length,c'.flatMap enc,hc.1,rfl,fun e=>⟨c',⟨e,hc.2⟩,rfl,fun e=>e⟩⟩
theorem ok64_0:ok64 0:=⟨by decide,by decide⟩
def okH (x:ByteArray×List Int×Int):Prop:=okT 32 x.1∧okN 64 okB x.2.1∧okB x.2.2
def encH (x:ByteArray×List Int×Int):List Int:=txtI x.1++(encN encB x.2.1++encB x.2.2)
def numb (c:Int):Bool:=c==1 || (c==2 || (c==3 || (c==5 || (c==6 || (c==7 || c==8)))))
def enI (i:Int×Int):List Int:=i.1::if numb i.1 then uintL i.2.toNat else []
def okIn (i:Int×Int):Prop:=okB i.1∧0≤i.2∧i.2≤2147483647∧(numb i.1=false→i.2=0)
def enV (v:V):List Int:=v.t::if v.t=1 then encZ v.i else if v.t=2 then encT v.b else if v.t=3 then txtI v.s else []
def okVl (v:V):Prop:=okB v.t∧ok64 v.i∧okT 4096 v.s∧(v.t≠1→v.i=0)∧(v.t≠2→v.b=false)∧(v.t≠3→v.s=⟨#[]⟩)
def enP (p:Pr):List Int:=encH (p.name,p.params,p.result)++(encT p.exp++(encU p.locals.toNat++encN enI p.code))
def okPr (p:Pr):Prop:=okH (p.name,p.params,p.result)∧0≤p.locals∧p.locals≤64∧okN 16384 okIn p.code
def enN (n:Nd):List Int:=txtI n.path++encH (n.name,n.params,n.result)
def okNd (n:Nd):Prop:=okT 4096 n.path∧okH (n.name,n.params,n.result)
def enT (x:Pt):List Int:=txtI x.path++(txtI x.name++encU x.proc.toNat)
def okPt (x:Pt):Prop:=okT 4096 x.path∧okT 32 x.name∧0≤x.proc∧x.proc≤4096
section
variable {bs:List Int} {k k1 k2:Nat} {f f1 f2:Int×Int}
theorem okB_byte {bs:List Int} (hb:∀c∈bs,0≤c∧c<256) (k:Nat) (f:Int×Int):okB (byteR bs k f).1:=by
 unfold byteR
 split
 ·cases hc:bs[k]? with
  | none=>exact⟨Int.le_refl 0,(by decide:(0:Int)<256)⟩
  | some c=>exact hb c (List.mem_of_getElem? hc)
 ·exact⟨Int.le_refl 0,(by decide:(0:Int)<256)⟩
theorem rd_head {s:ByteArray} {ps:List Int} {r:Int} {k3:Nat} {f3:Int×Int} (h1:Rd txtI (okT 32) bs k f s k1 f1) (h2:Rd (encN encB) (okN 64 okB) bs k1 f1 ps k2 f2) (h3:Rd encB okB bs k2 f2 r k3 f3):Rd encH okH bs k f (s,ps,r) k3 f3:=
 Rd.pair (fun a (b:List Int×Int)=>(a,b.1,b.2)) (fun c hc=>⟨c.1,(c.2.1,c.2.2),rfl,hc.1,hc.2⟩) (fun a b ha hb=>⟨ha,hb⟩) (fun a b _ _=>rfl) h1
  (Rd.pair (e1:=encN encB) (o1:=okN 64 okB) (e2:=encB) (o2:=okB) (enc:=fun x:List Int×Int=>encN encB x.1++encB x.2) (ok:=fun x=>okN 64 okB x.1∧okB x.2) (fun a b=>(a,b)) (fun c hc=>⟨c.1,c.2,rfl,hc.1,hc.2⟩) (fun a b ha hb=>⟨ha,hb⟩) (fun a b _ _=>rfl) h2 h3)
theorem rd_ins1 {c:Int} {n:Nat} (hn:numb c=true) (h1:Rd encB okB bs k f c k1 f1) (h2:Rd encU (fun n=>n≤2147483647) bs k1 f1 n k2 f2):Rd enI okIn bs k f (c,(n:Int)) k2 f2:=
 Rd.dep (c,(n:Int)) h1 h2 (fun a b=>⟨⟨a,by dsimp only;omega,by dsimp only;omega,fun e=>by dsimp only at e;rw[hn]at e;cases e⟩,by unfold enI encB encU;dsimp only;rw[hn,Int.toNat_natCast];rfl⟩) fun c' hc=>
  ⟨c'.1,if numb c'.1 then uintL c'.2.toNat else [],hc.1,rfl,fun e=>⟨c'.2.toNat,by have:=hc.2.1;have:=hc.2.2.1;omega,by rw[e,hn];rfl,fun e2=>by
   have:=hc.2.1
   obtain⟨c1,c2⟩:=c'
   dsimp only at e e2 this
   rw[e]
   congr 1;omega⟩⟩
theorem rd_ins0 {c:Int} (hn:numb c=false) (h1:Rd encB okB bs k f c k1 f1):Rd enI okIn bs k f (c,0) k1 f1:=
 ⟨h1.le,fun e=>by
  obtain⟨p1,p2,p3⟩:=h1.sound e
  exact⟨p1,⟨p2,Int.le_refl 0,(by decide:(0:Int)≤2147483647),fun _=>rfl⟩,by unfold enI;dsimp only;rw[hn];exact p3⟩,fun hf c' rest hc hd=>by
  unfold enI at hd
  obtain⟨q1,q2⟩:=h1.full hf c'.1 _ hc.1 (by rw[hd];unfold encB;rw[List.cons_append,List.cons_append,List.nil_append])
  obtain⟨c1,c2⟩:=c'
  dsimp only at q2
  subst q2
  have:c2=0:=hc.2.2.2 hn
  rw[this]
  exact⟨q1,rfl⟩⟩
theorem rd_int1 {n:Int} (h1:Rd encB okB bs k f 1 k1 f1) (h2:Rd encZ ok64 bs k1 f1 n k2 f2):Rd enV okVl bs k f ⟨1,n,false,⟨#[]⟩⟩ k2 f2:=
 Rd.dep (⟨1,n,false,⟨#[]⟩⟩:V) h1 h2 (fun a b=>⟨⟨a,b,by show((0:Nat):Int)≤4096;decide,fun e=>absurd rfl e,fun _=>rfl,fun _=>rfl⟩,rfl⟩) fun c' hc=>
  ⟨c'.t,if c'.t=1 then encZ c'.i else if c'.t=2 then encT c'.b else if c'.t=3 then txtI c'.s else [],hc.1,rfl,fun e=>⟨c'.i,hc.2.1,by rw[if_pos e],fun e2=>by
   obtain⟨t,i,b,s⟩:=c'
   dsimp only at e e2
   subst e
   have h5:b=false:=hc.2.2.2.2.1 (by dsimp only;decide)
   have h6:s=⟨#[]⟩:=hc.2.2.2.2.2 (by dsimp only;decide)
   rw[h5,h6,e2]⟩⟩
theorem rd_bool2 {n:Bool} (h1:Rd encB okB bs k f 2 k1 f1) (h2:Rd encT (fun _=>True) bs k1 f1 n k2 f2):Rd enV okVl bs k f ⟨2,0,n,⟨#[]⟩⟩ k2 f2:=
 Rd.dep (⟨2,0,n,⟨#[]⟩⟩:V) h1 h2 (fun a b=>⟨⟨a,ok64_0,by show((0:Nat):Int)≤4096;decide,fun _=>rfl,fun e=>absurd rfl e,fun _=>rfl⟩,rfl⟩) fun c' hc=>
  ⟨c'.t,if c'.t=1 then encZ c'.i else if c'.t=2 then encT c'.b else if c'.t=3 then txtI c'.s else [],hc.1,rfl,fun e=>⟨c'.b,trivial,by rw[if_neg (by omega),if_pos e],fun e2=>by
   obtain⟨t,i,b,s⟩:=c'
   dsimp only at e e2
   subst e
   have h5:i=0:=hc.2.2.2.1 (by dsimp only;decide)
   have h6:s=⟨#[]⟩:=hc.2.2.2.2.2 (by dsimp only;decide)
   rw[h5,h6,e2]⟩⟩
theorem rd_text3 {n:ByteArray} (h1:Rd encB okB bs k f 3 k1 f1) (h2:Rd txtI (okT 4096) bs k1 f1 n k2 f2):Rd enV okVl bs k f ⟨3,0,false,n⟩ k2 f2:=
 Rd.dep (⟨3,0,false,n⟩:V) h1 h2 (fun a b=>⟨⟨a,ok64_0,b,fun _=>rfl,fun _=>rfl,fun e=>absurd rfl e⟩,rfl⟩) fun c' hc=>
  ⟨c'.t,if c'.t=1 then encZ c'.i else if c'.t=2 then encT c'.b else if c'.t=3 then txtI c'.s else [],hc.1,rfl,fun e=>⟨c'.s,hc.2.2.1,by rw[if_neg (by omega),if_neg (by omega),if_pos e],fun e2=>by
   obtain⟨t,i,b,s⟩:=c'
   dsimp only at e e2
   subst e
   have h5:i=0:=hc.2.2.2.1 (by dsimp only;decide)
   have h6:b=false:=hc.2.2.2.2.1 (by dsimp only;decide)
   rw[h5,h6,e2]⟩⟩
theorem rd_other {t:Int} (n1:t≠1) (n2:t≠2) (n3:t≠3) (h1:Rd encB okB bs k f t k1 f1):Rd enV okVl bs k f ⟨t,0,false,⟨#[]⟩⟩ k1 f1:=
 ⟨h1.le,fun e=>by
  obtain⟨p1,p2,p3⟩:=h1.sound e
  exact⟨p1,⟨p2,ok64_0,by show((0:Nat):Int)≤4096;decide,fun _=>rfl,fun _=>rfl,fun _=>rfl⟩,by unfold enV;dsimp only;rw[if_neg n1,if_neg n2,if_neg n3];exact p3⟩,fun hf c' rest hc hd=>by
  unfold enV at hd
  obtain⟨q1,q2⟩:=h1.full hf c'.t _ hc.1 (by rw[hd];unfold encB;rw[List.cons_append,List.cons_append,List.nil_append])
  obtain⟨t',i,b,s⟩:=c'
  dsimp only at q2
  subst q2
  have h4:i=0:=hc.2.2.2.1 n1
  have h5:b=false:=hc.2.2.2.2.1 n2
  have h6:s=⟨#[]⟩:=hc.2.2.2.2.2 n3
  rw[h4,h5,h6]
  exact⟨q1,rfl⟩⟩
theorem rd_proc {s:ByteArray} {ps:List Int} {r:Int} {x:Bool} {n:Nat} {cd:List (Int×Int)} {k3 k4:Nat} {f3 f4:Int×Int} (h1:Rd encH okH bs k f (s,ps,r) k1 f1) (h2:Rd encT (fun _=>True) bs k1 f1 x k2 f2) (h3:Rd encU (fun n=>n≤64) bs k2 f2 n k3 f3) (h4:Rd (encN enI) (okN 16384 okIn) bs k3 f3 cd k4 f4):
  Rd enP okPr bs k f ⟨s,x,ps,(n:Int),r,cd⟩ k4 f4:=
 Rd.pair (fun(a:ByteArray×List Int×Int) (b:Bool×Nat×List (Int×Int))=>(⟨a.1,b.1,a.2.1,(b.2.1:Int),a.2.2,b.2.2⟩:Pr)) (fun c hc=>⟨(c.name,c.params,c.result),(c.exp,c.locals.toNat,c.code),by
   have:=hc.2.1
   obtain⟨nm,ex,pa,lo,re,co⟩:=c
   dsimp only at this⊢
   rw[show((lo.toNat:Nat):Int)=lo by omega],hc.1,trivial,by have:=hc.2.2.1;show c.locals.toNat≤64;omega,hc.2.2.2⟩) (fun a b ha hb=>⟨ha,by dsimp only;omega,by have:=hb.2.1;dsimp only;omega,hb.2.2⟩) (fun a b _ _=>by unfold enP;dsimp only;rw[Int.toNat_natCast]) h1
  (Rd.pair (e1:=encT) (o1:=fun _=>True) (e2:=fun y:Nat×List (Int×Int)=>encU y.1++encN enI y.2) (o2:=fun y=>y.1≤64∧okN 16384 okIn y.2) (enc:=fun y:Bool×Nat×List (Int×Int)=>encT y.1++(encU y.2.1++encN enI y.2.2)) (ok:=fun y=>True∧y.2.1≤64∧okN 16384 okIn y.2.2) (fun a b=>(a,b)) (fun c hc=>⟨c.1,c.2,rfl,hc⟩) (fun a b ha hb=>⟨ha,hb⟩) (fun a b _ _=>rfl) h2
   (Rd.pair (fun a b=>(a,b)) (fun c hc=>⟨c.1,c.2,rfl,hc⟩) (fun a b ha hb=>⟨ha,hb⟩) (fun a b _ _=>rfl) h3 h4))
theorem rd_need {p s:ByteArray} {ps:List Int} {r:Int} (h1:Rd txtI (okT 4096) bs k f p k1 f1) (h2:Rd encH okH bs k1 f1 (s,ps,r) k2 f2):Rd enN okNd bs k f ⟨p,s,ps,r⟩ k2 f2:=
 Rd.pair (fun(a:ByteArray) (b:ByteArray×List Int×Int)=>(⟨a,b.1,b.2.1,b.2.2⟩:Nd)) (fun c hc=>⟨c.path,(c.name,c.params,c.result),rfl,hc⟩) (fun a b ha hb=>⟨ha,hb⟩) (fun a b _ _=>rfl) h1 h2
theorem rd_point {p s:ByteArray} {n:Nat} {k3:Nat} {f3:Int×Int} (h1:Rd txtI (okT 4096) bs k f p k1 f1) (h2:Rd txtI (okT 32) bs k1 f1 s k2 f2) (h3:Rd encU (fun n=>n≤4096) bs k2 f2 n k3 f3):Rd enT okPt bs k f ⟨p,s,(n:Int)⟩ k3 f3:=
 Rd.pair (fun(a:ByteArray) (b:ByteArray×Nat)=>(⟨a,b.1,(b.2:Int)⟩:Pt)) (fun c hc=>⟨c.path,(c.name,c.proc.toNat),by
   have:=hc.2.2.1
   obtain⟨a,b,n⟩:=c
   dsimp only at this⊢
   rw[show((n.toNat:Nat):Int)=n by omega],hc.1,hc.2.1,by have:=hc.2.2.2;show c.proc.toNat≤4096;omega⟩) (fun a b ha hb=>⟨ha,hb.1,by dsimp only;omega,by have:=hb.2;dsimp only;omega⟩) (fun a b _ _=>by unfold enT;dsimp only;rw[Int.toNat_natCast]) h1
  (Rd.pair (e1:=txtI) (o1:=okT 32) (e2:=encU) (o2:=fun n=>n≤4096) (enc:=fun y:ByteArray×Nat=>txtI y.1++encU y.2) (ok:=fun y=>okT 32 y.1∧y.2≤4096) (fun a b=>(a,b)) (fun c hc=>⟨c.1,c.2,rfl,hc⟩) (fun a b ha hb=>⟨ha,hb⟩) (fun a b _ _=>rfl) h2 h3)
end
end
section
open Go.MapKept
attribute [local irreducible] Tryz.prog
attribute [local irreducible] numL cntR byteR txtI encZ encT
abbrev rvA (b:Nat):Value:= .agg #[.pointer (some ⟨b,0,none⟩)]
abbrev bxB (b rb:Nat):Own:= .blk b (.cells #[.pointer (some ⟨rb,0,none⟩)] 129 (0,0))
theorem bad_fn (G:Gh) (b:Nat) (BA:Option Addr) (n bc k:Nat) (f:Int×Int):Fn Tryz.prog 75 #[rvA b] G [rdB b BA n bc k f] fun e G' H'=>e= .returned (.bool (!decide (f=(0,0))))∧G=G'∧H'=[rdB b BA n bc k f]:=by
 refine Fn.enter Tryz.func75 rfl rfl fun w0=>?_
 refine WC.seq ?_
 refine WC.region ?_
 refine WL.oo (OW.box rfl rfl fun b1=>?_)
 refine gom ?_
 refine WL.oo (OW.callK rfl (rfault_fn G b BA n bc k f) rfl fun v' G' H' h hg=>?_)
 obtain⟨he,rfl,rfl⟩:=h
 cases he
 refine gom ?_
 refine WL.pp (Gp.neFault rfl rfl) ?_
 refine gom ?_
 refine WC.rt ?_
 exact QF.p1 (.inl rfl) rfl (.tmp rfl) (⟨rfl,rfl,rfl⟩)
section
variable (G:Gh) (b:Nat) (BA:Option Addr) (bs:List Int) (bc k:Nat) (f:Int×Int) (hB:Sl (Kd.int .u8) G BA bs) (hbs:∀c∈bs,0≤c∧c<256) (hk:k≤bs.length) (hn:bs.length≤140737488351232)
include hB hbs hk hn
theorem kind2_fn:Fn Tryz.prog 118 #[rvA b] G [rdB b BA bs.length bc k f] fun e G' H'=>∃t k' f',e= .returned (.int .i64 t)∧G=G'∧okB t∧Rd encB okB bs k f t k' f'∧H'=[rdB b BA bs.length bc k' f']:=by
 refine Fn.enter Tryz.func118 rfl rfl fun w0=>?_
 have ho:=okB_byte hbs k f
 have hr:=rd_byte hbs hk f
 refine WC.seq ?_
 refine WC.region ?_
 refine WL.oo (OW.box rfl rfl fun b1=>?_)
 refine gom ?_
 refine WL.oo (OW.callK rfl (rbyte_fn G b BA bs bc k f hB hk (by omega)) rfl fun v' G' H' h hg=>?_)
 obtain⟨he,rfl,rfl⟩:=h
 cases he
 refine WL.pp (Gp.convTo (r:=(byteR bs k f).1) rfl (by rw[IntKind.wrap_i64];have:=ho.1;have:=ho.2;omega)) ?_
 refine gom ?_
 refine WC.rt ?_
 exact QF.p1 (.inl rfl) rfl (.tmp rfl) (⟨_,_,_,rfl,rfl,ho,hr,rfl⟩)
theorem cnt2_fn (most:Nat) (hm:most≤9223372036854775807):Fn Tryz.prog 73 #[rvA b, .int .i64 (most:Int)] G [rdB b BA bs.length bc k f] fun e G' H'=>∃n k' f',e= .returned (.int .i64 ((n:Nat):Int))∧G=G'∧n≤most∧(f'≠(0,0)→n=0)∧Rd encU (fun n=>n≤most) bs k f n k' f'∧H'=[rdB b BA bs.length bc k' f']:=by
 refine Fn.enter Tryz.func73 rfl rfl fun w0=>?_
 refine WC.seq ?_
 refine WC.region ?_
 refine WL.oo (OW.box rfl rfl fun b2=>?_)
 refine gom ?_
 refine WL.oo (OW.callK rfl (count_fn G b BA bs bc k f most hB hbs hk hn (by omega) (by omega)) rfl fun v' G' H' h hg=>?_)
 obtain⟨he,rfl,rfl⟩:=h
 cases he
 have hr:=rd_uint hbs hk f most (by omega)
 obtain⟨h1,h2,h3,_,h5⟩:=cntR_le (bs:=bs) (most:=(most:Int)) (k:=k) (f:=f) hbs hk (by omega)
 generalize cntR bs most k f=q at hr h1 h2 h3 h5⊢
 obtain⟨q1,q2,q3⟩:=q
 dsimp only at hr h1 h2 h3 h5⊢
 obtain⟨n,rfl⟩:∃n:Nat,q1=(n:Int):=⟨q1.toNat,by omega⟩
 rw[Int.toNat_natCast]at hr
 refine gom ?_
 refine WL.oo (OW.callK rfl (bad_fn G b BA bs.length bc q2 q3) rfl fun v' G' H' h hg=>?_)
 obtain⟨he,rfl,rfl⟩:=h
 cases he
 by_cases hf:q3=(0,0)
 ·rw[decide_eq_true hf]
  refine gom ?_
  refine WC.rt ?_
  exact QF.p1 (.inl rfl) rfl (.tmp rfl) (⟨n,q2,q3,rfl,rfl,by omega,fun e=>absurd hf e,hr,rfl⟩)
 ·rw[decide_eq_false hf]
  have hn0:n=0:=by have:=(h5 hf).1;omega
  subst hn0
  refine gom ?_
  refine WC.rt ?_
  exact QF.p1 (.inl rfl) rfl (.tmp rfl) (⟨0,q2,q3,rfl,rfl,Nat.zero_le _,fun _=>rfl,hr,rfl⟩)
set_option maxHeartbeats 2000000 in
theorem head2_fn (hbc:bs.length≤bc):Fn Tryz.prog 74 #[rvA b] G [rdB b BA bs.length bc k f] fun e G' H'=>∃s A' ps cap r k' f',e= .returned (.tuple #[.string s, .slice A' ps.length cap, .int .i64 r])∧G.le G'∧(s.size:Int)≤32∧ps.length≤64∧Sl (Kd.int .i64) G' A' ps∧Rd encH okH bs k f (s,ps,r) k' f'∧H'=[rdB b BA bs.length bc k' f']:=by
 refine Fn.enter Tryz.func74 rfl rfl fun w0=>?_
 refine WC.seq ?_
 refine WC.region ?_
 refine WL.oo (OW.box rfl rfl fun b1=>?_)
 refine gom ?_
 refine WL.oo (OW.callK rfl (rText2_fn G b BA bs bc k f hB hbs hk hn hbc 32 (by decide) (by decide)) rfl fun v' G' H' h hg=>?_)
 obtain⟨s,k1,f1,he,rfl,hsz,hr1,rfl⟩:=h
 cases he
 refine gom ?_
 refine WL.oo (OW.callK rfl (cnt2_fn G b BA bs bc k1 f1 hB hbs hr1.le hn 64 (by decide)) rfl fun v' G' H' h hg=>?_)
 obtain⟨n,k2,f2,he,rfl,hnm,hn0,hr2,rfl⟩:=h
 cases he
 refine gom ?_
 refine WC.nothing ?_
 refine WC.loop (X:=Nat×Nat×(Int×Int)×List Int×Option Addr×Nat×Own) (fun x=>[(1, .pointer (some ⟨b1,0,none⟩)),(5, .string s),(6, .slice x.2.2.2.2.1 x.2.2.2.1.length x.2.2.2.2.2.1),(11, .int .i64 (n:Int)),(12, .int .i64 (x.1:Int))]) (fun _=>G) (fun x=>[x.2.2.2.2.2.2,rdB b BA bs.length bc x.2.1 x.2.2.1,bxB b1 b]) (fun x=>n - x.1) (fun x=>x.1≤n∧x.2.2.2.1.length=x.1∧Rd (encL encB) (fun l=>l.length=x.1∧∀a∈l,okB a) bs k2 f2 x.2.2.2.1 x.2.1 x.2.2.1∧KVec (Kd.int .i64) 44 G x.2.2.2.2.1 x.2.2.2.2.2.1 x.2.2.2.1 x.2.2.2.2.2.2)
  (0,k2,f2,[],none,0, .spare 0 0 0) ⟨Nat.zero_le _,rfl,rd_nil hr2.le f2,KVec.nil⟩ (by exact⟨rfl,rfl,rfl,rfl,rfl,trivial⟩) rfl (List.Sublist.refl _) fun x hx=>?_
 obtain⟨i,k3,f3,ps,A1,c1,o1⟩:=x
 obtain⟨hi,hpl,hr3,hv⟩:=hx
 dsimp only at hi hpl hr3 hv
 have x2:=wrapS i (by omega)
 by_cases hlt:i<n
 rotate_left
 ·have e2:decide ((i:Int)<(n:Int))=false:=decide_eq_false (by omega)
  obtain rfl:i=n:=by omega
  have hr4:=Rd.list hr2 hr3
  refine gom ?_
  refine WL.oo (OW.callK rfl (kind2_fn G b BA bs bc k3 f3 hB hbs hr3.le hn) rfl fun v' G' H' h hg=>?_)
  obtain⟨r,k5,f5,he,rfl,hok,hr5,rfl⟩:=h
  cases he
  refine WL.freezeK (by decide) hv atA fun G6 hg6 hS=>?_
  refine gom ?_
  refine WC.rt ?_
  exact QF.p3 (.inl rfl) rfl (.tmp rfl) (.tmp rfl) (.tmp rfl) (⟨s,A1,ps,c1,r,k5,f5,rfl,hg6,hsz,by omega,hS,rd_head hr1 hr4 hr5,rfl⟩)
 have e2:decide ((i:Int)<(n:Int))=true:=decide_eq_true (by omega)
 refine gom ?_
 refine WL.oo (OW.callK rfl (kind2_fn G b BA bs bc k3 f3 hB hbs hr3.le hn) rfl fun v' G' H' h hg=>?_)
 obtain⟨t,k5,f5,he,rfl,hok,hr5,rfl⟩:=h
 cases he
 refine WL.op kr (OW.buildSlice rfl kr kr (by rfl) rfl fun b17=>?_)
 refine WL.oo (OW.append1 (k:=Kd.int .i64) (u:=t) rfl rfl kr rfl hv atA atA rfl rfl (by dsimp only;omega) (by dsimp only;omega) rfl fun A6 c6 o6 hv6=>?_)
 refine gom ?_
 refine WK.pick [o6,rdB b BA bs.length bc k5 f5,bxB b1 b] ?_
 exact WK.again (i+1,k5,f5,ps++[t],A6,c6,o6) (by dsimp only;omega) ⟨by dsimp only;omega,by rw[List.length_append,hpl];rfl,hr3.snoc hr5,hv6⟩ (by exact⟨rfl,rfl,rfl,rfl,rfl,trivial⟩) rfl (List.Sublist.refl _)
end
end
section
def l2 (t:Int):List SS:=[⟨true,false,[],[]⟩,⟨true,false,[],[t]⟩]
section
variable {w:Wd} {p:Pr} {i0:Int×Int} {t:Int} (hc:p.code=[i0,(10,0)]) (hp:p.params=[]) (hl:p.locals=0) (hn:nextR i0 0=[1]) (hw:behR w i0 ⟨true,false,[],[]⟩=⟨true,false,[],[t]⟩)
include hc hp hl hn hw
theorem two_closed:Closed w p (l2 t) where
 len:=by rw[hc];rfl
 wf s hs:=by
  simp only[l2,List.mem_cons,List.not_mem_nil,or_false]at hs
  rcases hs with rfl | rfl<;>exact⟨fun h=>(by cases h),fun _=>by rw[hl];rfl,fun h=>(by cases h),by simp⟩
 zero s hs:=by
  obtain rfl:_=s:=Option.some.inj hs
  have:beginS p=⟨true,false,[],[]⟩:=by unfold beginS;rw[hp,hl];rfl
  rw[this]
  exact SS.le_refl _
 step k i s hi hs hr x hx j s' hj ht:=by
  rw[hc]at hi
  match k,hi,hs with
  | 0,hi,hs=>
   obtain rfl:_=i:=Option.some.inj hi
   obtain rfl:_=s:=Option.some.inj hs
   rw[hn]at hx
   have hx1:x=1:=by simpa using hx
   obtain rfl:j=1:=by omega
   obtain rfl:_=s':=Option.some.inj ht
   rw[hw];exact SS.le_refl _
  | 1,hi,hs=>
   obtain rfl:_=i:=Option.some.inj hi
   exact absurd hx (by simp[nextR])
  | k+2,hi,hs=>cases hs
theorem two_least:Least w p (l2 t) where
 closed:=two_closed hc hp hl hn hw
 low m hm:=by
  have hcl:=two_closed hc hp hl hn hw
  have hlen:m.length=2:=by rw[hm.len,hc];rfl
  obtain⟨m0,h0⟩:∃s,m[0]? =some s:=⟨_,List.getElem?_eq_getElem (by omega)⟩
  obtain⟨m1,h1⟩:∃s,m[1]? =some s:=⟨_,List.getElem?_eq_getElem (by omega)⟩
  have hbe:beginS p=⟨true,false,[],[]⟩:=by unfold beginS;rw[hp,hl];rfl
  have hb:(beginS p).le m0:=hm.zero m0 h0
  rw[hbe]at hb
  have hr:m0.reached=true:=(hb rfl).1
  have h2:=hm.step 0 i0 m0 (by rw[hc];rfl) h0 hr 1 (by rw[hn];simp) 1 m1 rfl h1
  have h3:(behR w i0 ⟨true,false,[],[]⟩).le (behR w i0 m0):=behR_mono (hcl.wf _ (List.mem_cons_self ..)) (hm.wf _ (List.mem_of_getElem? h0)) hb
  have h4:=SS.le_trans h3 h2
  intro k s s' hs ht
  match k,hs,ht with
  | 0,hs,ht=>
   obtain rfl:_=s:=Option.some.inj hs
   rw[h0]at ht
   obtain rfl:_=s':=Option.some.inj ht
   exact hb
  | 1,hs,ht=>
   obtain rfl:_=s:=Option.some.inj hs
   rw[h1]at ht
   obtain rfl:_=s':=Option.some.inj ht
   rw[hw]at h4;exact h4
  | k+2,hs,ht=>cases hs
end
def p1:Pr:=⟨⟨#[102]⟩,true,[],0,1,[(1,0),(10,0)]⟩
def o1:Ob:=⟨⟨#[97]⟩,[⟨1,7,false,⟨#[]⟩⟩],[],[p1]⟩
def p2:Pr:=⟨⟨#[109,97,105,110]⟩,true,[],0,1,[(8,0),(10,0)]⟩
def n2:Nd:=⟨⟨#[97]⟩,⟨#[102]⟩,[],1⟩
def o2:Ob:=⟨⟨#[98]⟩,[],[n2],[p2]⟩
theorem word_f':wordR ⟨#[102]⟩=true:=by decide+kernel
theorem word_main:wordR ⟨#[109,97,105,110]⟩=true:=by decide+kernel
theorem file_a':fileR ⟨#[97]⟩=true:=by decide+kernel
theorem file_b':fileR ⟨#[98]⟩=true:=by decide+kernel
theorem least_1:Least o1.wd p1 (l2 1):=two_least rfl rfl rfl (by decide+kernel) (by decide+kernel)
theorem least_2:Least o2.wd p2 (l2 1):=two_least rfl rfl rfl (by decide+kernel) (by decide+kernel)
theorem procR_1:procR p1=true:=by rw[procR,show p1.name=⟨#[102]⟩from rfl,word_f'];rfl
theorem procR_2:procR p2=true:=by rw[procR,show p2.name=⟨#[109,97,105,110]⟩from rfl,word_main];rfl
theorem objR_1:objR o1=true:=by rw[objR,show o1.path=⟨#[97]⟩from rfl,file_a'];decide+kernel
theorem needR_2:needR n2=true:=by rw[needR,show n2.path=⟨#[97]⟩from rfl,show n2.name=⟨#[102]⟩from rfl,file_a',word_f'];rfl
theorem objR_2:objR o2=true:=by rw[objR,show o2.path=⟨#[98]⟩from rfl,file_b',show o2.needs=[n2]from rfl,List.all_cons,needR_2];rfl
theorem out_1:outAt o1.wd 0=(0,0):=by
 rw[outAt_eq (p:=p1) rfl,procOut,if_neg (by rw[procR_1];simp),if_neg (by decide+kernel),least_1.flow]
 decide+kernel
theorem out_2:outAt o2.wd 0=(0,0):=by
 rw[outAt_eq (p:=p2) rfl,procOut,if_neg (by rw[procR_2];simp),if_neg (by decide+kernel),least_2.flow]
 decide+kernel
theorem ans_1:objAns o1=(0,0,0):=by
 rw[objAns,objR_1,if_pos rfl]
 exact allR_none fun j hj=>by
  obtain rfl:j=0:=by simp[o1,Ob.wd]at hj;exact hj
  rw[out_1]
theorem ans_2:objAns o2=(0,0,0):=by
 rw[objAns,objR_2,if_pos rfl]
 exact allR_none fun j hj=>by
  obtain rfl:j=0:=by simp[o2,Ob.wd]at hj;exact hj
  rw[out_2]
end
section
open Go.MapKept
attribute [local irreducible] Tryz.prog
theorem two_ins {G:Gh} {bi:Nat} {a:Int} (h:Cs G bi 0 [.int .i64 a, .int .i64 0, .int .i64 10, .int .i64 0]):Sl Kd.ins G (some ⟨bi,0,none⟩) [(a,0),(10,0)]:=
 KFl.sl (k:=Kd.ins) (l:=[(a,0)]++[(10,0)]) (by decide) ((KFl.one (cs:=[.int .i64 a, .int .i64 0]) rfl).append (KFl.one (cs:=[.int .i64 10, .int .i64 0]) rfl)) (.inr ⟨bi,rfl,h⟩)
theorem sl_none {α:Type} {k:Kd α} {G:Gh} :Sl k G none []:=fun i x hx=>by cases hx
theorem rep_1 {G:Gh} {bc bp bi:Nat} (h1:Cs G bc 0 (vcells ⟨1,7,false,⟨#[]⟩⟩)) (h2:Cs G bp 0 (prC p1 none 0 (some ⟨bi,0,none⟩) 2).toList) (h3:Cs G bi 0 [.int .i64 1, .int .i64 0, .int .i64 10, .int .i64 0]):ORep G o1 (some ⟨bc,0,none⟩) none (some ⟨bp,0,none⟩) where
 consts:=KFl.sl (k:=Kd.val) (by decide) (KFl.one (k:=Kd.val) (x:=⟨1,7,false,⟨#[]⟩⟩) rfl) (.inr ⟨bc,rfl,h1⟩)
 needs:=sl_none
 procs:=KFl.sl (k:=Kd.prc) (by decide) (KFl.one (k:=Kd.prc) (cs:=(prC p1 none 0 (some ⟨bi,0,none⟩) 2).toList) (x:=p1) ⟨none,0,some ⟨bi,0,none⟩,2,rfl,sl_none,two_ins h3⟩) (.inr ⟨bp,rfl,h2⟩)
theorem rep_2 {G:Gh} {bn bp bi:Nat} (h1:Cs G bn 0 [.string n2.path, .string n2.name, .slice none 0 0, .int .i64 1]) (h2:Cs G bp 0 (prC p2 none 0 (some ⟨bi,0,none⟩) 2).toList) (h3:Cs G bi 0 [.int .i64 8, .int .i64 0, .int .i64 10, .int .i64 0]):ORep G o2 none (some ⟨bn,0,none⟩) (some ⟨bp,0,none⟩) where
 consts:=sl_none
 needs:=KFl.sl (k:=Kd.ned) (by decide) (KFl.one (k:=Kd.ned) (x:=n2) (cs:=[.string n2.path, .string n2.name, .slice none 0 0, .int .i64 1]) ⟨none,0,rfl,sl_none⟩) (.inr ⟨bn,rfl,h1⟩)
 procs:=KFl.sl (k:=Kd.prc) (by decide) (KFl.one (k:=Kd.prc) (cs:=(prC p2 none 0 (some ⟨bi,0,none⟩) 2).toList) (x:=p2) ⟨none,0,some ⟨bi,0,none⟩,2,rfl,sl_none,two_ins h3⟩) (.inr ⟨bp,rfl,h2⟩)
theorem lawOne_fn (G:Gh):Fn Tryz.prog 20 #[] G [] fun e G' H'=>∃CA PA,e= .returned (.agg (obC o1 CA none PA 1 0 1))∧G.le G'∧ORep G' o1 CA none PA∧H'=[]:=by
 refine Fn.enter Tryz.func20 rfl rfl fun w0=>?_
 refine gom ?_
 refine WL.oo (OW.alloc rfl fun b0=>?_)
 refine gom ?_
 refine WL.op kr (OW.buildSlice rfl kr kr (by rfl) rfl fun b4=>?_)
 refine gom ?_
 refine WL.oo (OW.alloc rfl fun b1=>?_)
 refine gom ?_
 refine WL.op kr (OW.buildSlice rfl kr kr (by rfl) rfl fun b7=>?_)
 refine gom ?_
 refine WL.op kr (OW.buildSlice rfl kr kr (by rfl) rfl fun b9=>?_)
 refine gom ?_
 refine WC.freezeC .here rfl fun G1 hg1 h1=>?_
 refine WC.freezeC .here rfl fun G2 hg2 h2=>?_
 refine WC.freezeC (.there .here) rfl fun G3 hg3 h3=>?_
 refine WC.rt ?_
 exact QF.p1 (.inl rfl) rfl (.cell rfl inferInstance inferInstance atA rfl rfl) (⟨_,_,rfl,Gh.le_trans hg1 (Gh.le_trans hg2 hg3),rep_1 (h2.mono hg3) (h1.mono (Gh.le_trans hg2 hg3)) h3,rfl⟩)
theorem lawTwo_fn (G:Gh):Fn Tryz.prog 43 #[] G [] fun e G' H'=>∃NA PA,e= .returned (.agg (obC o2 none NA PA 0 1 1))∧G.le G'∧ORep G' o2 none NA PA∧H'=[]:=by
 refine Fn.enter Tryz.func43 rfl rfl fun w0=>?_
 refine gom ?_
 refine WL.oo (OW.alloc rfl fun b0=>?_)
 refine gom ?_
 refine WL.op kr (OW.buildSlice rfl kr kr (by rfl) rfl fun b4=>?_)
 refine gom ?_
 refine WL.oo (OW.alloc rfl fun b1=>?_)
 refine gom ?_
 refine WL.op kr (OW.buildSlice rfl kr kr (by rfl) rfl fun b7=>?_)
 refine gom ?_
 refine WL.op kr (OW.buildSlice rfl kr kr (by rfl) rfl fun b9=>?_)
 refine gom ?_
 refine WC.freezeC .here rfl fun G1 hg1 h1=>?_
 refine WC.freezeC .here rfl fun G2 hg2 h2=>?_
 refine WC.freezeC (.there .here) rfl fun G3 hg3 h3=>?_
 refine WC.rt ?_
 exact QF.p1 (.inl rfl) rfl (.cell rfl inferInstance inferInstance atA rfl rfl) (⟨_,_,rfl,Gh.le_trans hg1 (Gh.le_trans hg2 hg3),rep_2 (h2.mono hg3) (h1.mono (Gh.le_trans hg2 hg3)) h3,rfl⟩)
end
section
attribute [local irreducible] Tryz.prog
theorem wrap_small {x:Int} (h0: -1000000000000000≤x) (h1:x≤1000000000000000):IntKind.i64.wrap x=x:=by rw[IntKind.wrap_i64];omega
def halted (n:Int):Ending:= .panicked [{ v:= .iface 251 (.agg #[.int .i64 n]),recovered:=false }]
theorem stuck_fn (G:Gh):Fn Tryz.prog 209 #[] G [] fun e G' H'=>e=halted 6∧G=G'∧H'=[]:=by
 refine Fn.enter (vs:=[]) Tryz.func209 rfl rfl fun w0=>?_
 refine WC.region ?_
 refine zw.build ?_
 refine zw.iface ?_
 refine WL.oo (OW.panic rfl (QF.panic (List.Sublist.refl _) ⟨rfl,rfl,rfl⟩))
theorem need_ok (G:Gh):Fn Tryz.prog 193 #[.bool true] G [] fun e G' H'=>e= .returned (.tuple #[])∧G=G'∧H'=[]:=by
 refine Fn.enter Tryz.func193 rfl rfl fun w0=>?_
 refine WC.seq ?_
 refine WC.region ?_
 refine zw.move ?_
 refine zw.not ?_
 refine WL.nil ?_
 refine WK.un ?_
 refine WC.cond_false rfl ?_
 exact WC.skip (QF.ret0 (.inr rfl) rfl (List.Sublist.refl _) ⟨rfl,rfl,rfl⟩)
theorem need_no (G:Gh):Fn Tryz.prog 193 #[.bool false] G [] fun e G' H'=>e=halted 6∧G=G'∧H'=[]:=by
 refine Fn.enter Tryz.func193 rfl rfl fun w0=>?_
 refine WC.seq ?_
 refine WC.region ?_
 refine zw.move ?_
 refine zw.not ?_
 refine WL.nil ?_
 refine WK.un ?_
 refine WC.cond_true rfl ?_
 refine WC.region ?_
 refine WL.oo (OW.call rfl (F:=[]) (List.Perm.refl _) (stuck_fn G) rfl (fun v G' H' h _=>by cases h.1) (fun ch G' H' h _=>?_) (fun G' H' h=>by cases h.1))
 obtain⟨he,rfl,rfl⟩:=h
 cases he
 exact QF.panic (List.Sublist.refl _) ⟨rfl,rfl,rfl⟩
theorem pop_fn (G:Gh) (b:Nat) (A:Option Addr) (cap:Nat) (p a:Int) (B:Option Addr) (m cm:Nat) (l1 l2:List V) (x:Own) (hv:Vec 52 4 A (l1.length+l2.length) cap (vflat (l1++l2)) x) (hb:l1.length+l2.length≤1000000000):
  Fn Tryz.prog 212 #[.pointer (some ⟨b,0,none⟩), .int .i64 l2.length] G [.blk b (.cells (frC A (l1.length+l2.length) cap p a B m cm) 245 (0,0)),x]
   fun e G' H'=>∃A' cap' x',e= .returned (.slice A' l2.length cap')∧G=G'∧H'=[x', .blk b (.cells (frC A l1.length cap p a B m cm) 245 (0,0)),x]∧Vec 52 4 A' l2.length cap' (vflat l2) x'∧Vec 52 4 A l1.length cap (vflat l1) x:=by
 have e1:IntKind.i64.wrap (((l1.length+l2.length:Nat):Int) - (l2.length:Int))=(l1.length:Int):=by rw[wrap_small]<;>omega
 have hd:(vflat (l1++l2)).drop (l1.length*4)=vflat l2:=by rw[vflat_append,←vflat_length,List.drop_left]
 have ht:(vflat (l1++l2)).take (l1.length*4)=vflat l1:=by rw[vflat_append,←vflat_length,List.take_left]
 have hle:=hv.le
 have hv2:Vec 52 4 A l1.length cap (vflat l1) x:=ht▸hv.cut (m:=l1.length) (by omega)
 refine Fn.enter Tryz.func212 rfl rfl fun w0=>?_
 refine WC.seq ?_
 refine WC.region ?_
 refine zw.assign ?_
 refine WL.nil ?_
 refine WK.un ?_
 refine WC.seq ?_
 refine WC.region ?_
 refine zw.move ?_
 refine zw.nil ?_
 refine zw.fa ?_
 refine zw.ld ?_
 refine zw.len ?_
 refine zw.move ?_
 refine zw.sub ?_
 rw[e1]
 refine zw.assign ?_
 refine WL.nil ?_
 refine WK.un ?_
 refine WC.seq ?_
 refine WC.region ?_
 refine zw.move ?_
 refine zw.nil ?_
 refine zw.fa ?_
 refine zw.ld ?_
 refine zw.move ?_
 refine WL.pp (Gp.sliceFrom rfl rfl (by omega) (by omega)) ?_
 have hr:=hv.rdsFrom (G:=G) (H:=[.blk b (.cells (frC A (l1.length+l2.length) cap p a B m cm) 245 (0,0)),x]) (.there .here) (lo:=l1.length) (by omega)
 rw[hd]at hr
 simp only[Int.toNat_natCast,Nat.add_sub_cancel_left]
 refine WL.oo (OW.callR rfl (perm_all _) (clone_vals G _ _ _ _ _ hr (vflat_length _) (vflat_one _) (fun hA=>?_) (by omega)) rfl (by rintro e G' H' ⟨A',cap',x',h,_⟩;exact⟨_,h⟩) fun v G' H' h hg=>?_)
 ·split at hA
  ·omega
  ·rcases hv.2 with⟨h1,h2,_⟩ | ⟨b',c',h1,_⟩
   ·omega
   ·rw[h1]at hA;cases hA
 obtain⟨A',cap',x',he,rfl,rfl,hv'⟩:=h
 cases he
 refine zw.assign ?_
 refine WL.nil ?_
 refine WK.un ?_
 refine WC.seq ?_
 refine WC.region ?_
 refine zw.move ?_
 refine zw.move ?_
 refine zw.nil ?_
 refine zw.fa ?_
 refine zw.ld ?_
 refine zw.move ?_
 refine WL.pp (Gp.sliceTo rfl rfl (by omega) (by omega)) ?_
 refine zw.nil ?_
 refine zw.fa ?_
 refine zw.st ?_
 refine WL.nil ?_
 refine WK.un ?_
 refine WC.seq ?_
 refine WC.region ?_
 refine zw.move ?_
 refine zw.assign ?_
 refine WL.nil ?_
 refine WK.un ?_
 refine WC.ret ?_
 (refine WK.un ?_)
 exact QF.ret1 (.inl rfl) rfl (.tmp rfl) (List.Sublist.refl _) ⟨A',cap',x',rfl,rfl,rfl,hv',hv2⟩
end
section
attribute [local irreducible] Tryz.prog
def vOK (v:V):Bool:=if v.t=1 then !v.b&&v.s==⟨#[]⟩else if v.t=2 then v.i==0&&v.s==⟨#[]⟩else if v.t=3 then v.i==0&& !v.b&&decide ((v.s.size:Int)≤4096)else false
theorem value_fnQ (G:Gh) (v:V):Fn Tryz.prog 138 #[.agg #[.int .i64 v.t, .int .i64 v.i, .bool v.b, .string v.s]] G [] fun e G' H'=>e= .returned (.bool (vOK v))∧G=G'∧H'=[]:=by
 refine Fn.enter Tryz.func138 rfl rfl fun w0=>?_
 refine WC.seq ?_
 refine WC.region ?_
 refine WL.oo (OW.box rfl rfl fun b1=>?_)
 refine zw.assign ?_
 refine WL.nil ?_
 refine WK.un ?_
 refine WC.seq ?_
 refine WC.seq ?_
 refine WC.region ?_
 refine zw.fa ?_
 refine zw.ld ?_
 refine WL.nil ?_
 refine WK.un ?_
 refine WC.block ?_  -- 0
 refine WC.seq ?_
 refine WC.region ?_
 refine zw.eq ?_
 refine zw.assign ?_
 refine WL.nil ?_
 refine WK.un ?_
 refine WC.cond rfl (fun hc=>?_) (fun hc=>?_)
 ·-- yes
  have ht:v.t=1:=by simpa using hc
  refine WC.seq ?_
  refine WC.region ?_
  refine zw.fa ?_
  refine zw.ld ?_
  refine zw.not ?_
  refine zw.move ?_
  generalize hb:v.b=b
  cases b
  all_goals (first | refine WL.p (Gp.fieldAddr rfl) (by rfl) rfl ?_ | refine WL.skip (by rfl) rfl ?_)
  all_goals (first | (first | (refine WL.v (Gv.load1 rfl atA (by first | rfl | assumption)) (by rfl) rfl ?_) | (refine WL.v (Gv.loadN rfl atA (by rfl) (by rfl)) (by rfl) rfl ?_) | (refine WL.v (Gv.loadG1 rfl (by assumption) rfl) (by rfl) rfl ?_) | (refine WL.v (Gv.loadG0 rfl (by assumption) rfl) (by rfl) rfl ?_) | (refine WL.v (Gv.loadGN rfl (by assumption) rfl) (by rfl) rfl ?_)) | refine WL.skip (by rfl) rfl ?_)
  all_goals (first | (first | refine WL.p (Gp.eqI rfl rfl) (by rfl) rfl ?_ | refine WL.p (Gp.eqS rfl rfl) (by rfl) rfl ?_ | refine WL.p (Gp.nilSl rfl) (by rfl) rfl ?_ | refine WL.p (Gp.eqB rfl rfl) (by rfl) rfl ?_) | refine WL.skip (by rfl) rfl ?_)
  all_goals (first | (first | refine WL.p (Gp.pickT rfl rfl) (by rfl) rfl ?_ | refine WL.p (Gp.pickF rfl rfl) (by rfl) rfl ?_) | refine WL.skip (by rfl) rfl ?_)
  all_goals (first | refine WL.p (Gp.assign rfl) (by rfl) rfl ?_ | refine WL.skip (by rfl) rfl ?_)
  all_goals refine WL.nil ?_
  all_goals (refine WK.un ?_)
  all_goals refine WC.ret ?_
  all_goals (refine WK.un ?_)
  all_goals exact QF.ret1 (.inl rfl) rfl (.tmp rfl) (List.nil_sublist _) ⟨by simp[vOK,ht,hb],rfl,rfl⟩
 ·-- no
  have ht1:¬v.t=1:=by simpa using hc
  refine WC.seq ?_
  refine WC.region ?_
  refine zw.eq ?_
  refine zw.assign ?_
  refine WL.nil ?_
  refine WK.un ?_
  refine WC.cond rfl (fun hc=>?_) (fun hc=>?_)
  ·-- yes
   have ht:v.t=2:=by simpa using hc
   refine WC.seq ?_
   refine WC.region ?_
   refine zw.fa ?_
   refine zw.ld ?_
   refine zw.eq ?_
   refine zw.move ?_
   generalize hb:(v.i==0)=b
   cases b
   all_goals (first | refine WL.p (Gp.fieldAddr rfl) (by rfl) rfl ?_ | refine WL.skip (by rfl) rfl ?_)
   all_goals (first | (first | (refine WL.v (Gv.load1 rfl atA (by first | rfl | assumption)) (by rfl) rfl ?_) | (refine WL.v (Gv.loadN rfl atA (by rfl) (by rfl)) (by rfl) rfl ?_) | (refine WL.v (Gv.loadG1 rfl (by assumption) rfl) (by rfl) rfl ?_) | (refine WL.v (Gv.loadG0 rfl (by assumption) rfl) (by rfl) rfl ?_) | (refine WL.v (Gv.loadGN rfl (by assumption) rfl) (by rfl) rfl ?_)) | refine WL.skip (by rfl) rfl ?_)
   all_goals (first | (first | refine WL.p (Gp.eqI rfl rfl) (by rfl) rfl ?_ | refine WL.p (Gp.eqS rfl rfl) (by rfl) rfl ?_ | refine WL.p (Gp.nilSl rfl) (by rfl) rfl ?_ | refine WL.p (Gp.eqB rfl rfl) (by rfl) rfl ?_) | refine WL.skip (by rfl) rfl ?_)
   all_goals (first | (first | refine WL.p (Gp.pickT rfl rfl) (by rfl) rfl ?_ | refine WL.p (Gp.pickF rfl rfl) (by rfl) rfl ?_) | refine WL.skip (by rfl) rfl ?_)
   all_goals (first | refine WL.p (Gp.assign rfl) (by rfl) rfl ?_ | refine WL.skip (by rfl) rfl ?_)
   all_goals refine WL.nil ?_
   all_goals (refine WK.un ?_)
   all_goals refine WC.ret ?_
   all_goals (refine WK.un ?_)
   all_goals exact QF.ret1 (.inl rfl) rfl (.tmp rfl) (List.nil_sublist _) ⟨by simp[vOK,ht,hb],rfl,rfl⟩
  ·-- no
   have ht2:¬v.t=2:=by simpa using hc
   refine WC.seq ?_
   refine WC.region ?_
   refine zw.eq ?_
   refine zw.assign ?_
   refine WL.nil ?_
   refine WK.un ?_
   refine WC.cond rfl (fun hc=>?_) (fun hc=>?_)
   ·-- yes
    have ht:v.t=3:=by simpa using hc
    refine WC.seq ?_
    refine WC.region ?_
    refine zw.fa ?_
    refine zw.ld ?_
    refine zw.eq ?_
    refine zw.move ?_
    generalize hb:(v.i==0)=b
    generalize hb':v.b=b'
    cases b<;>cases b'
    all_goals (first | refine WL.p (Gp.fieldAddr rfl) (by rfl) rfl ?_ | refine WL.skip (by rfl) rfl ?_)
    all_goals (first | (first | (refine WL.v (Gv.load1 rfl atA (by first | rfl | assumption)) (by rfl) rfl ?_) | (refine WL.v (Gv.loadN rfl atA (by rfl) (by rfl)) (by rfl) rfl ?_) | (refine WL.v (Gv.loadG1 rfl (by assumption) rfl) (by rfl) rfl ?_) | (refine WL.v (Gv.loadG0 rfl (by assumption) rfl) (by rfl) rfl ?_) | (refine WL.v (Gv.loadGN rfl (by assumption) rfl) (by rfl) rfl ?_)) | refine WL.skip (by rfl) rfl ?_)
    all_goals (first | refine WL.p (Gp.notB rfl) (by rfl) rfl ?_ | refine WL.skip (by rfl) rfl ?_)
    all_goals (first | (first | refine WL.p (Gp.pickT rfl rfl) (by rfl) rfl ?_ | refine WL.p (Gp.pickF rfl rfl) (by rfl) rfl ?_) | refine WL.skip (by rfl) rfl ?_)
    all_goals (first | refine WL.p (Gp.move rfl) (by rfl) rfl ?_ | refine WL.skip (by rfl) rfl ?_)
    all_goals (first | refine WL.p (Gp.fieldAddr rfl) (by rfl) rfl ?_ | refine WL.skip (by rfl) rfl ?_)
    all_goals (first | (first | (refine WL.v (Gv.load1 rfl atA (by first | rfl | assumption)) (by rfl) rfl ?_) | (refine WL.v (Gv.loadN rfl atA (by rfl) (by rfl)) (by rfl) rfl ?_) | (refine WL.v (Gv.loadG1 rfl (by assumption) rfl) (by rfl) rfl ?_) | (refine WL.v (Gv.loadG0 rfl (by assumption) rfl) (by rfl) rfl ?_) | (refine WL.v (Gv.loadGN rfl (by assumption) rfl) (by rfl) rfl ?_)) | refine WL.skip (by rfl) rfl ?_)
    all_goals (first | (first | refine WL.p (Gp.lenSl rfl) (by rfl) rfl ?_ | refine WL.p (Gp.lenS rfl) (by rfl) rfl ?_) | refine WL.skip (by rfl) rfl ?_)
    all_goals (first | (first | refine WL.p (Gp.leI rfl rfl) (by rfl) rfl ?_ | refine WL.p (Gp.leS rfl rfl) (by rfl) rfl ?_) | refine WL.skip (by rfl) rfl ?_)
    all_goals (first | (first | refine WL.p (Gp.pickT rfl rfl) (by rfl) rfl ?_ | refine WL.p (Gp.pickF rfl rfl) (by rfl) rfl ?_) | refine WL.skip (by rfl) rfl ?_)
    all_goals (first | refine WL.p (Gp.assign rfl) (by rfl) rfl ?_ | refine WL.skip (by rfl) rfl ?_)
    all_goals refine WL.nil ?_
    all_goals (refine WK.un ?_)
    all_goals refine WC.ret ?_
    all_goals (refine WK.un ?_)
    all_goals exact QF.ret1 (.inl rfl) rfl (.tmp rfl) (List.nil_sublist _) ⟨by simp[vOK,ht,hb,hb'],rfl,rfl⟩
   ·-- no
    have ht3:¬v.t=3:=by simpa using hc
    refine WC.skip ?_
    refine WK.un ?_
    refine WC.seq ?_
    refine WC.region ?_
    refine zw.assign ?_
    refine WL.nil ?_
    refine WK.un ?_
    refine WC.ret ?_
    (refine WK.un ?_)
    exact QF.ret1 (.inl rfl) rfl (.tmp rfl) (List.nil_sublist _) ⟨by simp[vOK,ht1,ht2,ht3],rfl,rfl⟩
end
section
attribute [local irreducible] Tryz.prog
def cmpI (a b:Int):Int:=if a<b then -1 else if b<a then 1 else 0
def cmpS (a b:ByteArray):Int:=if Op.bytesLess a.toList b.toList then -1 else if Op.bytesLess b.toList a.toList then 1 else 0
def reckonS (c a b:Int):Option Int:=
 if c=18 then some (IntKind.i64.wrap (a+b))else if c=19 then some (IntKind.i64.wrap (a - b))else if c=21 then some (IntKind.i64.wrap (a*b))
 else if c=22 then(if b=0 then none else some (IntKind.i64.wrap (a.tdiv b)))else if c=23 then(if b=0 then none else some (a.tmod b))else none
end
end Go.Proofs.YtcnlkfocbbkdhaaGreatDoor.Gb
