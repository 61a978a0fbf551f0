/- Texts joined. -/
import Derived.Shelf.SlIterI.Nil
import Derived.Ground.GgzProg
import Derived.Test.YtkabjcanamcbeaaGreatDoorProg
import Derived.Test.YtkabjcanamcbeaaGreatDoorRows
import Derived.ChangeVars
import Derived.JoinedOf
import Derived.RowKit
import Derived.WalkKit
import Derived.ProofKit
import Derived.OpenShut
import Derived.ChangeOld
import Derived.Carry
import Derived.Test.YtkabjcanamcbeaaGreatDoorA6
set_option linter.unusedVariables false
set_option linter.unusedSimpArgs false
namespace Go.Ar
open Go Go.Vc Go.Proofs
variable {σ w w':Hp}{F P Q X:Rg}{L:LayH}{H H':Hw}{held:List Pc}{s0:Sp}{t n:Nat}{g:Th}
structure PlayOk (σ0 σ:Hp) (L:LayH) (H:Hw) (held:List Pc) (s0:Sp) (P Q:Rg) (addrs:Sl) (ad:List Int):Prop where
 e:Ext0 σ0 σ
 h:HH σ P L H
 hi:HI H held s0
 cf:CfOk H
 pg:H.cf.pages<=128
 pP:∀b,P b->σ0.size<=b/\b<σ.size
 pQ:∀b,Q b->σ0.size<=b/\b<σ.size/\¬P b
 row:RowR addrs 1 (Wu ad) σ Q
 al:ad.length<=60
 g0:Off (λb=>σ0.size<=b)/\¬σ0.size<=1
variable {σ0:Hp}{addrs:Sl}{ad:List Int}
theorem PlayOk.step (p:PlayOk σ0 σ L H held s0 P Q addrs ad){ts':List LayT}(e:Ext P σ w)(h':HH w (Grow P σ) {L with ts:=ts'} H'){held':List Pc}{s0':Sp}(hi':HI H' held' s0')(k:ZW H' H) :
 PlayOk σ0 w {L with ts:=ts'} H' held' s0' (Cut (Grow P σ) w) Q addrs ad:=by
 have hz:=e.1;refine⟨Ext.newT p.e e λb hb=>.inr (p.pP b hb).1,h'.cut,hi',p.cf.keep k,by rw[k.2.1];exact p.pg,λb hb=>⟨?_,hb.2⟩,λb hb=>?_,(RowR.loc _ _ _).keep p.row e λb _ hq hp=>(p.pQ b hq).2.2 hp,p.al,p.g0⟩
 ·have:=p.e.1;rcases hb.1 with h1|h1
  ·exact(p.pP b h1).1
  ·omega
 ·obtain⟨q1,q2,q3⟩:=p.pQ b hb;exact⟨q1,by omega,λhx=>by
   rcases hx.1 with h1|h1
   ·exact q3 h1
   ·omega⟩
theorem PlayOk.fr (p:PlayOk σ0 σ L H held s0 P Q addrs ad)(e:Ext0 σ w):PlayOk σ0 w L H held s0 P Q addrs ad:=
 ⟨p.e.trans e,p.h.keep0 e,p.hi,p.cf,p.pg,λb hb=>⟨(p.pP b hb).1,by have:=(p.pP b hb).2;have:=e.1;omega⟩,λb hb=>⟨(p.pQ b hb).1,by have:=(p.pQ b hb).2.1;have:=e.1;omega,(p.pQ b hb).2.2⟩,(RowR.loc _ _ _).keep0 p.row e,p.al,p.g0⟩
theorem PlayOk.out (p:PlayOk σ0 σ L H held s0 P Q addrs ad){T:Rg}(e:Ext T σ w)(hT:∀b,b<σ.size->T b->¬P b/\¬Q b/\σ0.size<=b):PlayOk σ0 w L H held s0 P Q addrs ad:=by
 have hz:=e.1;have e':Ext (λb=>T b/\b<σ.size) σ w:=⟨e.1,λb hb hf=>e.2 b hb λht=>hf ⟨ht,hb⟩⟩;refine⟨Ext.newT p.e e' λb hb=>.inr (hT b hb.2 hb.1).2.2,p.h.keep e' (λb hb hp ht=>(hT b hb ht.1).1 hp) (λb hb=>?_) (λhb=>?_),p.hi,p.cf,p.pg,λb hb=>⟨(p.pP b hb).1,by have:=(p.pP b hb).2;omega⟩,λb hb=>⟨(p.pQ b hb).1,by have:=(p.pQ b hb).2.1;omega,(p.pQ b hb).2.2⟩,(RowR.loc _ _ _).keep p.row e' λb hb hq ht=>(hT b hb ht.1).2.1 hq,p.al,p.g0⟩
 ·exact p.g0.1 b (hT b hb.2 hb.1).2.2
 ·exact p.g0.2 (hT _ hb.2 hb.1).2.2
end Go.Ar
namespace Go.Proofs
open Go.Shelf
def Tryz.keysBL_ren:Go.Shelf.Ren:=⟨fun|7=>67|10=>95|n=>n,fun|23=>44|26=>3|3=>76|28=>117|0=>0|27=>116|33=>152|4=>4|n=>n,fun|n=>n⟩
theorem Tryz.keysBL:Go.Proofs.SlLaysZI.n7 Tryz.prog Tryz.keysBL_ren:={
 mixed:=by kernel_rfl
 f7:=⟨Tryz.f67.name,by decide,Tryz.func67.trans (congrArg some (by kernel_rfl))⟩
 f10:=⟨Tryz.f95.name,by decide,Tryz.func95.trans (congrArg some (by kernel_rfl))⟩
 t0:=Tryz.underlying0
 a0:=Tryz.isAgg0
 z0:=Tryz.sizeOf0
 v0:=Tryz.zeroValue0
 t4:=Tryz.underlying4
 a4:=Tryz.isAgg4
 z4:=Tryz.sizeOf4
 v4:=Tryz.zeroValue4
 t23:=Tryz.underlying44
 a23:=Tryz.isAgg44
 z23:=Tryz.sizeOf44
 v23:=Tryz.zeroValue44
 t26:=Tryz.underlying3
 a26:=Tryz.isAgg3
 z26:=Tryz.sizeOf3
 v26:=Tryz.zeroValue3
 t27:=Tryz.underlying116
 a27:=Tryz.isAgg116
 z27:=Tryz.sizeOf116
 v27:=Tryz.zeroValue116
 t28:=Tryz.underlying117
 a28:=Tryz.isAgg117
 z28:=Tryz.sizeOf117
 v28:=Tryz.zeroValue117
 t33:=Tryz.underlying152
 a33:=Tryz.isAgg152
 z33:=Tryz.sizeOf152
 v33:=Tryz.zeroValue152}
end Go.Proofs
namespace Go.Ar
open Go Go.Vc Go.Proofs Go.RowKit Go.Maps Go.Sort Go.Shelf
open Go.Vc (mget mset mdel)
open Go.Bu (SlF WaL Uu WaO VJ Wln)
variable {σ w w':Hp}{F P Q X S:Rg}{L:LayH}{H H':Hw}{held:List Pc}{s0 sp:Sp}{t n:Nat}{g:Th}{σ0:Hp}
def UE:Nat:=Tryz.keysBL_ren.f 10
def Wcn:Nat:=Tryz.keysBL_ren.t 23
theorem Whc (m:Option Nat){R:Fv->Hp->Prop}(hR:R ⟨UE,#[],#[.pointer (some ⟨σ.size,0,none⟩)]⟩ (σ.push (.cells #[.map m] Wcn (0,0)))) :
 Za.c m σ R:=by
 rintro w rfl;refine(callsIn_wide.1 (AnyZI.keys_in Tryz.keysBL Fence.wide 5 trivial rfl m w)).mono ?_;rintro e w' ⟨rfl,rfl⟩;exact⟨⟨rfl,rfl,rfl,zCD (by show _<(w.heap.push _).size;simp)⟩,[.func (.func UE) #[] #[.pointer (some ⟨w.heap.size,0,none⟩)]],rfl,⟨UE,#[],#[.pointer (some ⟨w.heap.size,0,none⟩)]⟩,rfl,hR⟩
theorem WfA {w:World}{c m:Nat}{B:List (Int×Bk)}(hc:cell w.heap ⟨c,0,none⟩=some (.map (some m)))(hm:MapL w.heap m .i64 (.ag 4) B)(hb:∀x∈B,Go.Bu.I64 x.1)(hs:B.length<=1000000)(n:Nat)(hn:1<=n) :
 SeqGives Fence.wide n Tryz.prog UE #[.pointer (some ⟨c,0,none⟩)] encZ (λss=>ss.Perm (B.map (·.1))) B.length w:=by
 obtain⟨D,hD,hp,hsz⟩:=VJ (P:=Tryz.prog) Tryz.keysBL.t26 hm hb hs;have hcl:c<w.heap.size:=by
  unfold cell at hc;split at hc
  ·rename_i h;exact(zAJ.1 h).1
  ·cases hc
 have:=AnyZI.keys_gives (ρ:=Tryz.keysBL_ren) {Tryz.keysBL with} Fence.wide n trivial rfl hn c m B.length D w hcl hc hD;intro l J W hW hJ hY h0;rw[hsz]at this;refine(this l J W hW hJ hY h0).mono ?_;rintro e W' ⟨he,ss,h1,h2⟩;exact⟨he,ss,h1.trans hp,h2⟩
theorem Wec {c m:Nat}{B:List (Int×Bk)}(hc:cell σ ⟨c,0,none⟩=some (.map (some m)))(hm:MapL σ m .i64 (.ag 4) B)(hb:∀x∈B,Go.Bu.I64 x.1)(hs:B.length<=1000000){R:Sl->Hp->Prop}
 (hR:∀(s:Sl) (σ':Hp) (ss:List Int),Ext0 σ σ'->ss.Perm (B.map (·.1))->ss.Pairwise (· <= ·)->SlF σ.size σ' s (ss.map (Value.int .i64))->R s σ') :
 Ky.c ⟨UE,#[],#[.pointer (some ⟨c,0,none⟩)]⟩ σ R:=by
 rintro w rfl;have hseq:=WfA hc hm hb hs 2 (by omega);have hml:B.length<=maxLen:=by unfold maxLen;omega
 have cS:=AnyZI.sorted_in Tryz.sortedL Fence.wide 5 trivial trivial trivial trivial rfl (by omega) (Wln _) (Tryz.sortL.f5.enters rfl) UE #[.pointer (some ⟨c,0,none⟩)] trivial (Tryz.keysBL.f10.enters rfl) _ _ hml (by omega) _ hseq;refine(callsIn_wide.1 cS).mono ?_;rintro e w' ⟨v,ss,rfl,hp,hrow,hnil,hbe⟩;obtain⟨s,rfl,hsl⟩:=WaL hrow;refine⟨WaO hbe,[.slice s.a s.len s.cap],rfl,s,rfl,?_⟩;refine hR s _ (ss.mergeSort λx y=>decide (x<=y)) (Uu hbe) ((List.mergeSort_perm _ _).trans hp) ?_ hsl;have:=List.pairwise_mergeSort (le:=λx y:Int=>decide (x<=y)) (λa b c h1 h2=>by simp at *;omega) (λa b=>by simp;omega) ss;exact this.imp (λh=>by simpa using h)
def bkV (b:Bk):List Value:=[.int .i64 b.1,.int .i64 b.2.1,.int .i64 b.2.2.1,.int .i64 b.2.2.2]
def bksV (bs:List Bk):List Value:=bs.flatMap bkV
theorem UZ (bs:List Bk):(bksV bs).length=bs.length*4:=by
 unfold bksV
 induction bs with
 | nil=>rfl
 | cons b bs ih=>rw[zBK,zJ,ih];simp[bkV];omega
theorem WaT:∀{bs:List Bk} {i:Nat} {b:Bk},bs[i]?=some b->∀{j:Nat} {v:Value},(bkV b)[j]?=some v->(bksV bs)[4*i+j]?=some v
 | [],i,b,h,_,_,_=>by simp at h
 | a::bs,0,b,h,j,v,hv=>by
  simp only[zEI,Option.some.injEq]at h;subst h;have hj:=(gSi.1 hv).1;show(bkV a++bksV bs)[4*0+j]?=_;rw[show 4*0+j=j by omega,zb hj];exact hv
 | a::bs,i+1,b,h,j,v,hv=>by
  have ih:=WaT (bs:=bs) (i:=i) (b:=b) (by simpa using h) hv;show(bkV a++bksV bs)[4*(i+1)+j]?=_;rw[zk (by simp[bkV];omega)];have:4*(i+1)+j-(bkV a).length=4*i+j:=by simp[bkV];omega
  rw[this];exact ih
structure LiveL (live:List (Int×Bk)) (bs:List Bk):Prop where
 len:bs.length=live.length
 mem:∀b,b∈bs↔(b.1,b)∈live
 srt:bs.Pairwise λa b=>a.1<b.1
theorem HI.live_len (h:HI H held s0):H.live.length<=1000000:=by
 have hn:(H.live.map λe=>e.1.toNat).Nodup:=by
  have h1:=zAF.1 h.lk;refine zAF.2 λi j hi hj hij e=>?_;have hi':i<H.live.length:=by simpa using hi
  have hj':j<H.live.length:=by simpa using hj
  refine h1 i j (by simpa using hi') (by simpa using hj') hij ?_;simp only[zCG]at e ⊢;have a1:=(h.size8 (zj hi')).2.1;have a2:=(h.size8 (zj hj')).2.1;omega
 have:=WaZ 270000 _ hn λx hx=>by
  obtain⟨e,he,rfl⟩:=zD.1 hx;have:=h.size8 he;omega
 have hl:(H.live.map λe=>e.1.toNat).length=H.live.length:=by simp
 omega
theorem SlR.of_slF {B:Nat}{s:Sl}{xs:List Value}(h:SlF B σ s xs):SlR s 1 xs σ (λb=>B<=b):=by
 refine⟨by have:=h.1;omega,?_⟩;rcases h.2 with⟨h0,_⟩|⟨b,cs,hb,ha,hk,hc⟩
 ·exact .inl h0
 ·exact .inr ⟨b,0,cs,hb,ha,hk.q,λj hj=>by rw[zG];exact hc j hj⟩
set_option maxRecDepth 8000 in
theorem Wdy (h:HH σ F L H)(hi:HI H held s0){R:Sl->Hp->Prop}(hR:∀s σ' bs,Ext0 σ σ'->LiveL H.live bs->RowR s 4 (bksV bs) σ' (λb=>σ.size<=b)->R s σ'):Yo.c (some ⟨L.p,0,none⟩) σ R:=by
 refine Yo.o ?_;unfold Yo.v;have hi64:∀x∈H.live,Go.Bu.I64 x.1:=λx hx=>by have:=hi.size8 hx;unfold Go.Bu.I64;omega
 have hll:=hi.live_len;refine Vy h (ifF rfl (nilP (h.hd.rM rfl (Whc _ ?_))));have e1:Ext0 σ (σ.push (.cells #[.map (some L.lm)] Wcn (0,0))):=Ext.push _ _ _;have h1:=h.keep0 e1;refine Wec (by unfold cell;simp) h1.liveM hi64 hll λs v2 ss e2 hp hsrt hs=>?_;have e02:=e1.trans e2;have hss:=SlR.of_slF hs;have hnd:ss.Nodup:=hp.nodup_iff.2 hi.lk;have hslen:ss.length=H.live.length:=by rw[hp.length_eq];simp
 have hsl:s.len=ss.length:=by have:=hss.1;simp at this;omega
 have hget:∀x∈ss,∃b,mget H.live x=some b/\b.1=x:=λx hx=>by
  obtain⟨e,he,rfl⟩:=zD.1 (hp.mem_iff.1 hx);exact⟨e.2,KG hi.lk he,(hi.lv e he).1⟩
 let f:Int->Bk:=λx=>(mget H.live x).getD (0,0,0,0)
 have hf1:∀x∈ss,(f x).1=x/\mget H.live x=some (f x):=λx hx=>by
  obtain⟨b,hb,hbx⟩:=hget x hx;have:f x=b:=by show(mget H.live x).getD _=b;rw[hb];rfl
  rw[this];exact⟨hbx,hb⟩
 have hz1:σ.size<v2.size:=by
  have h1:=e2.1;have h2:(σ.push (.cells #[.map (some L.lm)] Wcn (0,0))).size=σ.size+1:=by simp
  omega
 refine Kr (a:=.s) (bb:=.i .i64) (λ(out:Sl) (z:Int) w=>∃i:Nat,z=i/\i<=ss.length/\Ext0 v2 w/\RowR out 4 (bksV ((ss.take i).map f)) w (λb=>v2.size<=b)) (λ_ z _=>ss.length-z.toNat) ⟨0,rfl,by omega,Ext.refl _ _,⟨by simp[bksV],.inl ⟨rfl,rfl⟩⟩⟩ ?_;rintro(out:Sl) (z:Int) w ⟨i,rfl,hil,ew,hr⟩;have hw:=h1.keep0 (e2.trans ew);refine ifD (λhlt=>?_) λhge=>?_
 ·have hx:ss[i]?=some (ss[i]'(by omega)):=gGe _;have hol:out.len=i:=by have:=hr.1;rw[UZ]at this;simp at this;omega
  refine((SlR.loc _ _ _).keep0 ((SlR.loc _ _ _).cut hss) ew).ixI hx (nilP (hw.hd.rM rfl ⟨H.live,hw.liveM,?_⟩));refine hr.push (F:=λb=>v2.size<=b) (vs:=bkV (f (ss[i]'(by omega)))) (λb hb=>by have:=ew.1;omega) rfl rfl (by simp[bkV,one1]) (by omega) (by omega) λs' w' hsl' ew' hr'=>?_;have e3:Ext0 v2 w':=Ext.fresh ew ew' λb hb=>hb;refine arN (m:=i+1) (by omega) (by omega) ⟨⟨i+1,rfl,by omega,e3,?_⟩,by omega⟩;have:bksV ((ss.take (i+1)).map f)=bksV ((ss.take i).map f)++bkV (f (ss[i]'(by omega))):=by
   unfold bksV;rw[zq,hx,zAD,zGA];simp only[zDK,zI,zBU,zBK,List.flatMap_nil,zAK]
  rw[this];exact hr'
 ·have hin:i=ss.length:=by omega
  subst hin;rw[zAA]at hr;refine hR out w (ss.map f) (e02.trans ew) ⟨by simp[hslen],λb=>?_,?_⟩ ((RowR.loc _ _ _).mono hr λb _ hb=>by
   show σ.size<=b;have hb:v2.size<=b:=hb;omega)
  ·constructor
   ·intro hb;obtain⟨x,hx,rfl⟩:=zD.1 hb;obtain⟨q1,q2⟩:=hf1 x hx;rw[q1];exact KH q2
   ·intro hb;have hx:b.1∈ss:=hp.mem_iff.2 (zD.2 ⟨_,hb,rfl⟩);refine zD.2 ⟨b.1,hx,?_⟩;have:=(hf1 _ hx).2;rw[KG hi.lk hb]at this;exact(Option.some.inj this).symm
  ·rw[zBY];have hlt:ss.Pairwise (· < ·):=(hsrt.and hnd).imp λ⟨h1,h2⟩=>by
    have:_≠_:=h2;omega
   refine zAF.2 λi j hi hj hij=>?_;rw[(hf1 _ (zj hi)).1,(hf1 _ (zj hj)).1];exact zAF.1 hlt i j hi hj hij
theorem WkK {s:Sl}{bs:List Bk}(hs:SlR s 4 (bksV bs) σ F){i:Nat}{b:Bk}(hb:bs[i]?=some b){K:Addr->Prop}(hK:∀bb o,(∀(j:Nat) v,(bkV b)[j]?=some v->cell σ ⟨bb,o+j,none⟩=some v)->K ⟨bb,o,none⟩):Ix s.a s.len (i:Int) 4 K:=by
 have hil:=(gSi.1 hb).1;have hl:s.len=bs.length:=by have:=hs.1;rw[UZ]at this;omega
 obtain⟨bb,o,ha,h0⟩:=hs.cell (WaT hb (j:=0) rfl);rw[ha];refine ix (by omega) (by omega) ?_;rw[add_lit,iTn];refine hK bb _ λj v hv=>?_;obtain⟨b',o',ha',hc⟩:=hs.cell (WaT hb hv);rw[ha]at ha';cases ha';rw[←hc];congr 2;omega
end Go.Ar
namespace Go.Ar
open Go.Bu (cnt)
variable {W:Wd}{k:Nat}{A:AR}
def at2 {α:Type}(f:Cls->α->Nat)(tb:List Cls)(l:List α)(j:Nat):Nat:=match tb[j]?,l[j]? with
 | some c,some a=>f c a
 | _,_=>0
theorem Wkx {α:Type}{f:Cls->α->Nat}{tb:List Cls}{l:List α}{j:Nat}{c:Cls}{a:α}(h1:tb[j]?=some c)(h2:l[j]?=some a):at2 f tb l j=f c a:=by unfold at2;rw[h1,h2]
theorem WgD {α:Type}(f:Cls->α->Nat):∀(tb:List Cls) (l:List α),l.length=tb.length->((tb.zip l).map λx=>f x.1 x.2).sum=((List.range tb.length).map (at2 f tb l)).sum
 | [],l,h=>by simp
 | c::tb,[],h=>by simp at h
 | c::tb,a::l,h=>by
  have ih:=WgD f tb l (by simpa using h);rw[zGG,zI,zo,ih,zR,zGE,zI,zo,zAI];rfl
def pgL (c:Cls)(ss:List SpA):List Nat:=ss.flatMap λs=>(List.range c.pages).map (s.st + ·)
theorem Wkr (c:Cls)(ss:List SpA):(pgL c ss).length=ss.length*c.pages:=by
 induction ss with
 | nil=>simp[pgL]
 | cons s ss ih=>
  have e:pgL c (s::ss)=(List.range c.pages).map (s.st + ·)++pgL c ss:=rfl;rw[e,zJ,ih];simp[ze];omega
theorem WcD {c:Cls}{ss:List SpA}{p:Nat}:p∈pgL c ss↔Cov c ss p:=by
 simp only[pgL,zFH,zD,zW,Cov];constructor
 ·rintro⟨s,hs,i,hi,rfl⟩;exact⟨s,hs,by omega,by omega⟩
 ·rintro⟨s,hs,h1,h2⟩;exact⟨s,hs,p-s.st,by omega,by omega⟩
theorem WeN {c:Cls}{ss:List SpA}(h:ss.Pairwise λa b=>a.st+c.pages<=b.st):(pgL c ss).Nodup:=by
 induction ss with
 | nil=>exact zCB
 | cons s ss ih=>
  have hp:=zBQ.1 h;have e:pgL c (s::ss)=(List.range c.pages).map (s.st + ·)++pgL c ss:=rfl;rw[e,zAU];refine⟨?_,ih hp.2,λa ha b hb e=>?_⟩
  ·exact List.Pairwise.map (R:=(· ≠ ·)) _ (λa b hab e=>hab (by omega)) zEY
  ·subst e;obtain⟨i,hi,rfl⟩:=zD.1 ha;obtain⟨t,ht,h1,h2⟩:=WcD.1 hb;have:=hp.1 t ht;have:=zW.1 hi;omega
def rnL (l:List (Nat×Nat)):List Nat:=l.flatMap λr=>(List.range r.2).map (r.1 + ·)
theorem WjM (l:List (Nat×Nat)):(rnL l).length=(l.map (·.2)).sum:=by
 induction l with
 | nil=>rfl
 | cons r l ih=>
  have e:rnL (r::l)=(List.range r.2).map (r.1 + ·)++rnL l:=rfl;rw[e,zJ,ih];simp
theorem Wcg {l:List (Nat×Nat)}{p:Nat}:p∈rnL l↔inR l p:=by
 simp only[rnL,zFH,zD,zW,inR];constructor
 ·rintro⟨s,hs,i,hi,rfl⟩;exact⟨s,hs,by omega,by omega⟩
 ·rintro⟨s,hs,h1,h2⟩;exact⟨s,hs,p-s.1,by omega,by omega⟩
theorem Wgh {l:List (Nat×Nat)}(h:l.Pairwise λa b=>a.1+a.2<=b.1\/b.1+b.2<=a.1):(rnL l).Nodup:=by
 induction l with
 | nil=>exact zCB
 | cons s ss ih=>
  have hp:=zBQ.1 h;have e:rnL (s::ss)=(List.range s.2).map (s.1 + ·)++rnL ss:=rfl;rw[e,zAU];refine⟨?_,ih hp.2,λa ha b hb e=>?_⟩
  ·exact List.Pairwise.map (R:=(· ≠ ·)) _ (λa b hab e=>hab (by omega)) zEY
  ·subst e;obtain⟨i,hi,rfl⟩:=zD.1 ha;obtain⟨t,ht,h1,h2⟩:=Wcg.1 hb;have:=hp.1 t ht;have:=zW.1 hi;omega
theorem Wag {n:Nat}{l:List Nat}(hn:l.Nodup)(hl:∀x∈l,x<n){f:Nat->Bool}(hf:∀p,p<n->(f p=true↔p∈l)):(List.range n).countP f=l.length:=by
 rw[zEE];refine List.Perm.length_eq ?_;rw[zED (List.nodup_range.filter _) hn];intro x;rw[zH,zW];exact⟨λ⟨a,b⟩=>(hf x a).1 b,λhx=>⟨hl x hx,(hf x (hl x hx)).2 hx⟩⟩
theorem WfL (ga:GA A):KT A+KX A+cnt A.n A.S=(List.range A.n).countP λ(p:Nat)=>VB A (p:Int):=by
 have key:∀m,m<=A.tb.length->(List.range A.n).countP (λp=>A.ow p != 0&&decide (A.ow p<=m))=((List.range m).map (at2 (λc ss=>ss.length*c.pages) A.tb A.cen)).sum:=by
  intro m
  induction m with
  | zero=>
   intro _;simp
  | succ m ih=>
   intro hm;rw[zAZ,zAD,zDR,←ih (by omega),List.map_singleton,List.sum_singleton];obtain⟨c,ss,t,hc,_⟩:=ga.cl (k:=m) (by omega);have hC:=ga.cen m c ss hc;rw[Wkx hc.1 hc.2,←Wkr c ss,←Wag (n:=A.n) (WeN hC.far) (λx hx=>by
    obtain⟨s,hs,h1,h2⟩:=WcD.1 hx;exact ga.pg.lt (by rw[(ga.used hc hs h1 h2).1];omega)) (f:=λp=>A.ow p==m+1) (λp _=>by rw[WcD,←ga.ow m c ss hc p];simp)]
   symm
   apply Go.Bu.countP_add;intro p _;by_cases h1:A.ow p=m+1
   ·simp[h1]
   ·by_cases h2:A.ow p<=m
    ·have:(A.ow p==m+1)=false:=by simpa using h1
     have h3:decide (A.ow p<=m+1)=true:=by simp;omega
     simp[this,h2,h3]
    ·have:(A.ow p==m+1)=false:=by simpa using h1
     have h3:¬A.ow p<=m+1:=by omega
     simp[this,h2,h3]
 have k1:=key A.tb.length (zC _);have e1:KT A=(List.range A.n).countP (λp=>A.ow p != 0&&decide (A.ow p<=A.tb.length)):=by
  rw[k1];unfold KT;rw[WgD (λc ss=>ss.length*c.pages) A.tb A.cen ga.lc]
 have e2:KX A=(List.range A.n).countP (λp=>A.ow p==41):=by
  unfold KX;rw[←WjM,Wag (Wgh ga.rdis) (λx hx=>by
   obtain⟨r,hr,h1,h2⟩:=Wcg.1 hx;exact ga.pg.lt (by rw[(ga.usedR hr h1 h2).1];omega)) (f:=λp=>A.ow p==41) (λp _=>by rw[Wcg,←ga.ow41];simp)]
 have htb:=ga.tb;have e3:(List.range A.n).countP (λp=>A.ow p != 0&&decide (A.ow p<=A.tb.length))+(List.range A.n).countP (λp=>A.ow p==41)=(List.range A.n).countP (λp=>A.ow p != 0):=by
  apply Go.Bu.countP_add;intro p _;rcases ga.owb p with h1|h1
  ·have:¬A.ow p<=A.tb.length:=by omega
   simp[h1];omega
  ·have:(A.ow p==41)=false:=by simp;omega
   simp[this,h1]
 have e4:(List.range A.n).countP (λp=>A.ow p != 0)+(List.range A.n).countP A.S=(List.range A.n).countP λ(p:Nat)=>VB A (p:Int):=by
  apply Go.Bu.countP_add;intro p _;have hu:=ga.pg.us p;have hs:=ga.pg.fr p;have ho:VB A (p:Int)=decide (A.f p≠0):=by
   unfold VB AR.f gf;rw[zV (show(0:Int)<=p by omega),zDS,iTn]
  rw[ho];have hle:=ga.pg.le p;by_cases h0:A.f p=0
  ·have:A.ow p=0:=Classical.byContradiction λhn=>by have:=hu.2 hn;omega
   have hS:A.S p=false:=by apply zAP.2;intro hx;have:=hs.1 hx;omega
   simp[h0,this,hS]
  ·by_cases h1:A.f p=1
   ·have hw:=hu.1 h1;have hS:A.S p=false:=by apply zAP.2;intro hx;have:=hs.1 hx;omega
    simp[h1,hw,hS]
   ·have:A.ow p=0:=Classical.byContradiction λhn=>h1 (hu.2 hn);have hS:A.S p=true:=hs.2 (by omega);simp[h0,this,hS]
 unfold cnt;rw[e1,e2,e3,e4]
theorem Wa9 (ga:GA A):KX A<=1024:=by
 have h1:=WfL ga;have h2:(List.range A.n).countP (λ(p:Nat)=>VB A (p:Int))<=A.n:=by
  refine zc zEF ?_;rw[zCW];exact zC _
 have:=ga.pg.n2;omega
end Go.Ar
namespace Go.Ar
open Go Go.Vc Go.Proofs
open Go.Vc (mget mset mdel)
open Go.Bu (cnt)
variable {σ v w w':Hp}{F P Q X:Rg}{L:LayH}{H H':Hw}{held:List Pc}{s0:Sp}{t n:Nat}{g:Th}{nb sb m:Nat}{x:List Int}
def sz0 (b:Bk):Int:=if 0<=b.2.2.1 then b.2.1 else 0
def VX (l:List (Int×Bk)):Int:=(l.map λe=>sz0 e.2).sum
def KQ (H:Hw):Nat:=(H.ths.map λg=>ZJ H.tb g.ls).sum
def Kb (f:AR->Nat)(H:Hw):Nat:=(H.ars.map f).sum
def Km (A:AR):Nat:=cnt A.n A.S
theorem WdP {α:Type}(f:α->Int):∀{l:List (Int×α)} {n:Int} {x:α},(l.map (·.1)).Nodup->(n,x)∈l->(l.map λe=>f e.2).sum=f x+((l.filter λy=>!(y.1==n)).map λe=>f e.2).sum
 | [],_,_,_,h=>by simp at h
 | y::l,n,x,hn,h=>by
  simp only[zI,zl]at hn;rcases zU.1 h with h1|h1
  ·subst h1;have:l.filter (λy=>!(y.1==n))=l:=by
    rw[zBC];intro z hz;have:z.1≠n:=λe=>hn.1 (zD.2 ⟨z,hz,e⟩);simpa using this
   rw[zEJ (by simp),this];simp
  ·have hne:y.1≠n:=λe=>hn.1 (zD.2 ⟨_,h1,e.symm⟩);rw[zEK (by simpa using hne)];simp only[zI,zo];rw[WdP f hn.2 h1];omega
theorem Ui {α:Type}{f:α->Int}{c:Int}:∀{l:List α},(∀e∈l,0<=f e/\f e<=c)->0<=(l.map f).sum/\(l.map f).sum<=l.length*c
 | [],_=>by simp
 | a::l,h=>by
  have h1:=h a zBZ;have h2:=Ui λe he=>h e (zBH _ he);simp only[zI,zo,zR,Int.natCast_add,Int.add_mul];omega
theorem WgF (hi:HI H held s0){e:Int×Bk}(he:e∈H.live):0<=sz0 e.2/\sz0 e.2<=270000:=by
 have:=hi.size8 he;unfold sz0;split<;>omega
theorem Wb8 {α:Type}(f:α->Nat){l:List α}{i:Nat}{a:α}(h:l[i]?=some a):((l.take (i+1)).map f).sum=((l.take i).map f).sum+f a:=by
 rw[zq,h];simp
theorem WjF {α:Type}{f:α->Nat}{c:Nat}{l:List α}(h:∀a∈l,f a<=c):(l.map f).sum<=l.length*c:=by
 induction l with
 | nil=>simp
 | cons a l ih=>
  have h1:=h a zBZ;have h2:=ih λe he=>h e (zBH _ he);simp only[zI,zo,zR,ze];omega
theorem Wea {α:Type}{f:α->Nat}{c:Nat}{l:List α}(h:∀a∈l,f a<=c)(i:Nat):((l.take i).map f).sum<=i*c:=
 zc (WjF λa ha=>h a (zBP ha)) (zAH c (by rw[zX];omega))
def KN:List Value:=[.int .i64 0,.int .i64 0,.int .i64 0,.int .i64 0,.int .i64 0,.int .i64 0,.int .i64 0,.int .i64 0,.int .i64 0,.int .i64 0,.int .i64 0]
structure StB (σ:Hp) (nb sb:Nat) (v:Hp) (x:List Int):Prop where
 e:Ext0 σ v
 n:Blk v nb KN
 s:Blk v sb (x.map (Value.int .i64))
 h1:σ.size<=nb
 h2:σ.size<=sb
 h3:nb≠sb
 hl:x.length=11
theorem StB.fr (h:StB σ nb sb v x)(e:Ext0 v w):StB σ nb sb w x:=⟨h.e.trans e,e.blk h.n id,e.blk h.s id,h.h1,h.h2,h.h3,h.hl⟩
theorem StB.own (h:StB σ nb sb v x)(o:Z0 v w m)(h4:v.size<=m\/m≠nb/\m≠sb/\σ.size<=m):StB σ nb sb w x:=by
 have hn:=h.n.lt;have hs:=h.s.lt;have hz:=h.e.1;exact⟨Ext.fresh h.e o.ext λi (hi:i=m)=>by omega,o.ext.blk h.n λ(hx:nb=m)=>by omega,o.ext.blk h.s λ(hx:sb=m)=>by omega,h.h1,h.h2,h.h3,h.hl⟩
theorem StB.rd (h:StB σ nb sb v x){i:Nat}{y:Int}(hy:x[i]?=some y){K:Int->Prop}(hK:K y):LdI .i64 (Addr.add ⟨sb,0,none⟩ i) v K:=
 h.s.rI (by rw[zG,zZ,hy];rfl) hK
theorem StB.st (h:StB σ nb sb v x){i:Nat}{y:Int}(hi:i<11){K:Hp->Prop}(hK:∀w,Ext (· = sb) v w->StB σ nb sb w (x.set i y)->K w):St1 (Addr.add ⟨sb,0,none⟩ i) (.int .i64 y) v K:=by
 have hl:=h.hl;refine h.s.s1 (by rw[zg];omega) λw o b=>hK w o.ext ⟨Ext.fresh h.e o.ext λi (hi:i=sb)=>by have:=h.h2;omega,o.ext.blk h.n λ(hx:nb=sb)=>h.h3 hx,?_,h.h1,h.h2,h.h3,by rw[zBN,hl]⟩;rw[zG,←zDQ]at b;exact b
theorem Wlt {K:Fam [.ad]}{body:Fam [.ad]->Prop}(P:Addr->Hp->Prop)(h1:∀r w,P r w->K r w)(h2:∀J:Fam [.ad],(∀r w,P r w->J r w)->body J):Jn [.ad] K body:=Jn.intro (h2 K h1)
theorem BtR.nil_len {s:Sl}(h:BtR s [] σ F):s.len=0:=by have:=h.len;simpa using this
theorem HH.hnS (h:HH σ F L H){x:LayT}(hx:L.ts[t]?=some x)(hg:H.ths[t]?=some g):BtR x.h g.hands σ F:=by
 obtain⟨G,hG,hb⟩:=h.sep.get (.hn t);simp only[CH,hx,hg,HnH]at hb;exact Lcl.mono (BtR.loc _ _) hb λb _ hb=>hG b hb
theorem HH.caS (h:HH σ F L H){x:LayT}(hx:L.ts[t]?=some x)(hg:H.ths[t]?=some g):CaY σ F x.c H.tb H.cf.budget g.ls:=by
 obtain⟨G,hG,hb⟩:=h.sep.get (.ca t);simp only[CH,hx,hg,CaH]at hb;exact Lcl.mono CaY.loc hb λb _ hb=>hG b hb
theorem Hy {A:AR}(ga:GA A):Km A<=1024:=by
 have h2:Km A<=A.n:=by
  unfold Km cnt;refine zc zEF ?_;rw[zCW];exact zC _
 have:=ga.pg.n2;omega
theorem StB.rdH (h:StB σ nb sb v x){i:Nat}{y:Int}(hy:x[i]?=some y){K:Int->Prop}(hK:K y):LdH (λm=>Ext0 v m) (.i .i64) (Addr.add ⟨sb,0,none⟩ i) K:=
 ⟨y,λm hm=>by rw[add_lit,(Ext.blk hm h.s id).cell,zG,zZ,hy];rfl,hK⟩
theorem Blk.rH {b i:Nat}{cs:List Value}{c:CK}{y:c.T}(hb:Blk v b cs)(hc:cs[i]?=some (c.v y)){K:c.T->Prop}(hK:K y):LdH (λm=>Ext0 v m) c (Addr.add ⟨b,0,none⟩ i) K:=
 ⟨y,λm hm=>by rw[add_lit,(Ext.blk hm hb id).cell,zG];exact hc,hK⟩
theorem st11 {b:Nat}(hb:Blk v b KN)(a0 a1 a2 a3 a4 a5 a6 a7 a8 a9 a10:Int){K:Hp->Prop}(hK:∀w,Ext (· = b) v w->Blk w b ([a0,a1,a2,a3,a4,a5,a6,a7,a8,a9,a10].map (Value.int .i64))->K w) :
 St1 (Addr.add ⟨b,0,none⟩ 0) (.int .i64 a0) v λv57=>St1 (Addr.add ⟨b,0,none⟩ 1) (.int .i64 a1) v57 λv58=>St1 (Addr.add ⟨b,0,none⟩ 2) (.int .i64 a2) v58 λv59=>St1 (Addr.add ⟨b,0,none⟩ 3) (.int .i64 a3) v59 λv60=>
 St1 (Addr.add ⟨b,0,none⟩ 4) (.int .i64 a4) v60 λv61=>St1 (Addr.add ⟨b,0,none⟩ 5) (.int .i64 a5) v61 λv62=>St1 (Addr.add ⟨b,0,none⟩ 6) (.int .i64 a6) v62 λv63=>St1 (Addr.add ⟨b,0,none⟩ 7) (.int .i64 a7) v63 λv64=>
 St1 (Addr.add ⟨b,0,none⟩ 8) (.int .i64 a8) v64 λv65=>St1 (Addr.add ⟨b,0,none⟩ 9) (.int .i64 a9) v65 λv66=>St1 (Addr.add ⟨b,0,none⟩ 10) (.int .i64 a10) v66 K:=by
 unfold KN at hb;refine hb.s1 (by simp) λv1 o1 b1=>b1.s1 (by simp) λv2 o2 b2=>b2.s1 (by simp) λv3 o3 b3=>b3.s1 (by simp) λv4 o4 b4=>b4.s1 (by simp) λv5 o5 b5=>b5.s1 (by simp) λv6 o6 b6=>b6.s1 (by simp) λv7 o7 b7=>b7.s1 (by simp) λv8 o8 b8=>b8.s1 (by simp) λv9 o9 b9=>b9.s1 (by simp) λv10 o10 b10=>b10.s1 (by simp) λv11 o11 b11=>?_;exact hK v11 ((((((((((o1.ext.trans o2.ext).trans o3.ext).trans o4.ext).trans o5.ext).trans o6.ext).trans o7.ext).trans o8.ext).trans o9.ext).trans o10.ext).trans o11.ext) b11
theorem StB.fin {a0 a1 a2 a3 a4 a5 a6 a7 a8 a9 a10:Int}(B:StB σ nb sb v [a0,a1,a2,a3,a4,a5,a6,a7,a8,a9,a10]){R:Int->Int->Int->Int->Int->Int->Int->Int->Int->Int->Int->Hp->Prop}(hR:∀w,Ext0 σ w->R a0 a1 a2 a3 a4 a5 a6 a7 a8 a9 a10 w) :
 LdI .i64 (Addr.add ⟨sb,0,none⟩ 0) v λt0=>LdI .i64 (Addr.add ⟨sb,0,none⟩ 1) v λt1=>LdI .i64 (Addr.add ⟨sb,0,none⟩ 2) v λt2=>LdI .i64 (Addr.add ⟨sb,0,none⟩ 3) v λt3=>LdI .i64 (Addr.add ⟨sb,0,none⟩ 4) v λt4=>
 LdI .i64 (Addr.add ⟨sb,0,none⟩ 5) v λt5=>LdI .i64 (Addr.add ⟨sb,0,none⟩ 6) v λt6=>LdI .i64 (Addr.add ⟨sb,0,none⟩ 7) v λt7=>LdI .i64 (Addr.add ⟨sb,0,none⟩ 8) v λt8=>LdI .i64 (Addr.add ⟨sb,0,none⟩ 9) v λt9=>LdI .i64 (Addr.add ⟨sb,0,none⟩ 10) v λt10=>
 St1 (Addr.add ⟨nb,0,none⟩ 0) (.int .i64 t0) v λv57=>St1 (Addr.add ⟨nb,0,none⟩ 1) (.int .i64 t1) v57 λv58=>St1 (Addr.add ⟨nb,0,none⟩ 2) (.int .i64 t2) v58 λv59=>St1 (Addr.add ⟨nb,0,none⟩ 3) (.int .i64 t3) v59 λv60=>
 St1 (Addr.add ⟨nb,0,none⟩ 4) (.int .i64 t4) v60 λv61=>St1 (Addr.add ⟨nb,0,none⟩ 5) (.int .i64 t5) v61 λv62=>St1 (Addr.add ⟨nb,0,none⟩ 6) (.int .i64 t6) v62 λv63=>St1 (Addr.add ⟨nb,0,none⟩ 7) (.int .i64 t7) v63 λv64=>
 St1 (Addr.add ⟨nb,0,none⟩ 8) (.int .i64 t8) v64 λv65=>St1 (Addr.add ⟨nb,0,none⟩ 9) (.int .i64 t9) v65 λv66=>St1 (Addr.add ⟨nb,0,none⟩ 10) (.int .i64 t10) v66 λv67=>
 LdI .i64 (Addr.add ⟨nb,0,none⟩ 0) v67 λt0=>LdI .i64 (Addr.add ⟨nb,0,none⟩ 1) v67 λt1=>LdI .i64 (Addr.add ⟨nb,0,none⟩ 2) v67 λt2=>LdI .i64 (Addr.add ⟨nb,0,none⟩ 3) v67 λt3=>LdI .i64 (Addr.add ⟨nb,0,none⟩ 4) v67 λt4=>
 LdI .i64 (Addr.add ⟨nb,0,none⟩ 5) v67 λt5=>LdI .i64 (Addr.add ⟨nb,0,none⟩ 6) v67 λt6=>LdI .i64 (Addr.add ⟨nb,0,none⟩ 7) v67 λt7=>LdI .i64 (Addr.add ⟨nb,0,none⟩ 8) v67 λt8=>LdI .i64 (Addr.add ⟨nb,0,none⟩ 9) v67 λt9=>LdI .i64 (Addr.add ⟨nb,0,none⟩ 10) v67 λt10=>
 R t0 t1 t2 t3 t4 t5 t6 t7 t8 t9 t10 v67:=by
 refine B.rd rfl (B.rd rfl (B.rd rfl (B.rd rfl (B.rd rfl (B.rd rfl (B.rd rfl (B.rd rfl (B.rd rfl (B.rd rfl (B.rd rfl (st11 B.n a0 a1 a2 a3 a4 a5 a6 a7 a8 a9 a10 λw e b=>?_)))))))))));refine b.rI rfl (b.rI rfl (b.rI rfl (b.rI rfl (b.rI rfl (b.rI rfl (b.rI rfl (b.rI rfl (b.rI rfl (b.rI rfl (b.rI rfl (hR w ?_)))))))))));exact Ext.fresh B.e e λi (hi:i=nb)=>by have:=B.h1;omega
theorem HH.tBox (h:HH σ F L H){x:LayT}(hx:L.ts[t]?=some x)(hg:H.ths[t]?=some g){ty:Nat}{K:Addr->Hp->Prop}(hK:∀v,Ext0 σ v->σ.size<v.size->Blk v σ.size (thV (x,g))->K ⟨σ.size,0,none⟩ v) :
 Ix L.trow.a L.trow.len (t:Int) 3 λa58=>LdP (a58.add 0) σ λt59=>LdS (a58.add 1) σ λt591=>LdR (a58.add 2) σ λt592=>
  Nw (.cells #[.pointer none,.slice none 0 0,.nilIface] ty (0,0)) σ λn7 v17=>O1 t592<|St1 (n7.add 0) (.pointer t59) v17 λv18=>St1 (n7.add 1) (.slice t591.a t591.len t591.cap) v18 λv19=>St1 (n7.add 2) t592 v19 λv20=>K n7 v20:=by
 obtain⟨b,o,ha,c0⟩:=Vh h.trowS hx hg (d:=0) (by omega) rfl;obtain⟨b1,o1,ha1,c1⟩:=Vh h.trowS hx hg (d:=1) (by omega) rfl;obtain⟨b2,o2,ha2,c2⟩:=Vh h.trowS hx hg (d:=2) (by omega) rfl;rw[ha]at ha1 ha2;cases ha1;cases ha2;have hl:=h.trowL;have hk:=(gSi.1 hg).1;rw[ha];refine ix (by omega) (by omega) ?_;rw[add_lit,show o+(t:Int).toNat*3=o+3*t by omega];refine ldP (by rw[add_lit,zBR];exact c0) (ldS (by rw[add_lit,zBR];exact c1) ⟨_,by rw[add_lit,zBR];exact c2,?_⟩);refine nw (cs:=[.pointer none,.slice none 0 0,.nilIface]) λv2 hz2 e2 b2=>?_;have ho:∀{A:Prop},A->O1 (phV g.ph) A:=λ{A} hA=>by
  cases g.ph with
  | none=>exact hA
  | some p=>cases p<;>exact hA
 refine ho (b2.s1 (by simp) λv3 o3 b3=>b3.s1 (by simp) λv4 o4 b4=>b4.s1 (by simp) λv5 o5 b5=>?_);exact hK v5 (Ext.fresh (Ext.fresh (Ext.fresh e2 o3.ext λi hi=>by omega) o4.ext λi hi=>by omega) o5.ext λi hi=>by omega) (by have:=o3.1;have:=o4.1;have:=o5.1;omega) b5
structure StOk (H:Hw):Prop where
 cache:KQ H<=20971520
 moved:Kb KW H<=160000000000
 room:Kb HF H<=160000000000
 tails:Kb Vl H<=160000000000
 spans:Kb KT H<=160000000000
 runs:Kb KX H<=4096
 free:Kb Km H<=4096
set_option maxRecDepth 16000 in
theorem WbY (h:HH σ F L H)(hi:HI H held s0)(hh:∀g∈H.ths,g.hands=[]){R:Int->Int->Int->Int->Int->Int->Int->Int->Int->Int->Int->Hp->Prop}
 (hR:∀σ',Ext0 σ σ'->StOk H->R (VX H.live) (KQ H:Nat) 0 (Kb KW H:Nat) (Kb HF H:Nat) (Kb Vl H:Nat) (Kb KX H*256:Nat) (Kb KT H:Nat) (Kb Km H:Nat) (Ks H.sp.st:Nat) (H.sp.st.count 2:Nat) σ'):Yi.c (some ⟨L.p,0,none⟩) σ R:=by
 refine Yi.o ?_;unfold Yi.v;refine nw (cs:=KN) λv hz e hb=>Vy (h.keep0 e) (ifF rfl ?_);have hv:=h.keep0 e;generalize hm0:((Ks H.sp.st:Nat):Int)=M at hR;generalize hd0:((H.sp.st.count 2:Nat):Int)=D at hR;refine Wlt (λs w=>∃sb,s=⟨sb,0,none⟩/\StB σ σ.size sb w [0,0,0,0,0,0,0,0,0,M,D]) (λs w ⟨sb,hs,B⟩=>?_) λJ hJ=>?_
 ·subst hs;have hw:=h.keep0 B.e;have B0:=B;refine nilP (hw.hd.rM rfl ?_);have hml:=hw.liveM;have hll:=hi.live_len;refine rng0 (c:=.ag 4) hml (λ(todo:List (Int×Bk)) u=>∃z:Int,StB σ σ.size sb u [z,0,0,0,0,0,0,0,0,M,D]/\(todo.map (·.1)).Nodup/\(∀y∈todo,y∈H.live)/\0<=z/\z+(todo.map λe=>sz0 e.2).sum=VX H.live) (λu hz eu=>⟨0,B.fr eu,hml.nodup,λy hy=>hy,by omega,by rw[Int.zero_add];rfl⟩) (λu ⟨z,B,_,_,_,hz⟩=>?_) ?_
  ·have hz':z=VX H.live:=by simpa using hz
   subst hz';have hu:=h.keep0 B.e;have ht2:=h.s.t2;refine nilP (hu.hd.rS rfl ?_);refine ZF (a:=.i .i64) (λ(i:Int) u=>∃k:Nat,i=k/\k<=H.ths.length/\StB σ σ.size sb u [VX H.live,(((H.ths.take k).map λg=>ZJ H.tb g.ls).sum:Nat),0,0,0,0,0,0,0,M,D]/\((H.ths.take k).map λg=>ZJ H.tb g.ls).sum<=k*5242880) (λi _=>H.ths.length-i.toNat) ⟨0,rfl,by omega,by simpa using B,by simp⟩ ?_;rintro(i:Int) u1 ⟨k,rfl,hk,B,hsum⟩;have h1:=h.keep0 B.e;have htl:=h1.trowL;refine ifD (λhlt=>?_) λhge=>?_
   ·have hlt':k<H.ths.length:=by simp only at hlt;omega
    obtain⟨x,g,hx,hg⟩:=h1.th hlt';have hsb:=B.s.lt;refine h1.tBox hx hg λv1 e1 hlt1 b1=>?_;have B1:=B.fr e1;have h2:=h1.keep0 e1;have hca:=h2.caS hx hg;have hby:=WbK hca hca.lok;have hnl:=h2.hnS hx hg;rw[hh g (zE hg)]at hnl;refine⟨λm=>Ext0 v1 m,Ext.refl _ _,B1.rdH rfl (Blk.rH (c:=.p) (y:=some ⟨x.c.p,0,none⟩) b1 rfl (Wa5 hca λv2 e2=>⟨e2,?_⟩))⟩;have B2:=B1.fr e2;have b2:=e2.blk b1 id;have hs:=Wb8 (λg=>ZJ H.tb g.ls) hg;refine arN (m:=((H.ths.take (k+1)).map λg=>ZJ H.tb g.ls).sum) (by rw[hs];simp) (by rw[hs];omega) (B2.st (by omega) λv3 e3 B3=>?_);have b3:=e3.blk b2 (λ(hx:u1.size=sb)=>by omega);refine b3.rS rfl (ZF (a:=.i .i64) (λ(c:Int) w=>w=v3/\c=0) (λ_ _=>0) ⟨rfl,rfl⟩ ?_);rintro(c:Int) w ⟨rfl,rfl⟩;refine ifD (λhl=>?_) λ_=>arN (m:=k+1) (by omega) (by omega) ⟨⟨k+1,rfl,by omega,B3,by rw[hs];omega⟩,by omega⟩;have:=hnl.nil_len;simp only at hl;omega
   ·have hkk:k=H.ths.length:=by simp only at hge;omega
    subst hkk;rw[zAA]at B hsum;have hsum':KQ H<=20971520:=by unfold KQ;omega
    have ha2:=h.s.a2;refine nilP (h1.hd.rS rfl ?_);have hga:∀A∈H.ars,GA A:=λA hA=>by obtain⟨k,hk⟩:=zM hA;exact hi.wi.ga k A hk
    let P (f:AR->Nat) (k:Nat):Nat:=((H.ars.take k).map f).sum
    have hP:∀(f:AR->Nat) {k:Nat} {A:AR},H.ars[k]?=some A->P f (k+1)=P f k+f A:=λf _ _ hA=>Wb8 f hA;have hPl:∀{f:AR->Nat} {c:Nat},(∀A∈H.ars,f A<=c)->∀k,P f k<=k*c:=λhf k=>Wea hf k;have hPe:∀f,P f H.ars.length=Kb f H:=λf=>by show((H.ars.take H.ars.length).map f).sum=_;rw[zAA];rfl
    have hP0:∀f,P f 0=0:=λf=>by show((H.ars.take 0).map f).sum=0;simp
    clear_value P
    refine ZF (a:=.i .i64) (λ(i:Int) u=>∃k:Nat,i=k/\k<=H.ars.length/\StB σ σ.size sb u [VX H.live,(KQ H:Nat),0,(P KW k:Nat),(P HF k:Nat),(P Vl k:Nat),(P KX k*256:Nat),(P KT k:Nat),(P Km k:Nat),M,D]/\P KW k<=k*40000000000/\P HF k<=k*40000000000/\P Vl k<=k*40000000000/\P KT k<=k*40000000000) (λi _=>H.ars.length-i.toNat) ⟨0,rfl,by omega,?_⟩ ?_
    ·rw[hP0,hP0,hP0,hP0,hP0,hP0];exact⟨B,by omega,by omega,by omega,by omega⟩
    rintro(i:Int) u2 ⟨k,rfl,hk,B,l1,l2,l3,l4⟩;have h2:=h.keep0 B.e;have hal:=h2.arowL;refine ifD (λhlt=>?_) λhge=>?_
    ·have hlt':k<H.ars.length:=by simp only at hlt;omega
     have hA:H.ars[k]?=some H.ars[k]:=gGe _;generalize H.ars[k]=A at hA;have ga:=hga A (zE hA);have r5:=Wa9 ga;have r6:=Hy ga;obtain⟨Y,hy,_,hAY⟩:=h2.ar hA;refine h2.rA hy (Wcq hAY (by omega) λv2 e2 ⟨r1,r2,r3,r4⟩=>?_);have B2:=B.fr e2;have s1:=hP KW hA;have s2:=hP HF hA;have s3:=hP Vl hA;have s4:=hP KT hA;have s5:=hP KX hA;have s6:=hP Km hA;have l5:=hPl (f:=KX) (λA hA=>Wa9 (hga A hA)) k;have l6:=hPl (f:=Km) (λA hA=>Hy (hga A hA)) k;have hfr:((cnt A.n A.S:Nat):Int)=(Km A:Nat):=rfl;refine B2.rd rfl (arN (m:=P KW (k+1)) (by rw[s1];simp) (by omega) (B2.rd rfl (arN (m:=P HF (k+1)) (by rw[s2];simp) (by omega) (B2.rd rfl (arN (m:=P Vl (k+1)) (by rw[s3];simp) (by omega) ?_)))));refine B2.st (by omega) λv3 _ B3=>B3.st (by omega) λv4 _ B4=>B4.st (by omega) λv5 _ B5=>?_;refine B5.rd rfl (arN (m:=P KT (k+1)) (by rw[s4];simp) (by omega) (B5.rd rfl (arN (m:=KX A*256) (by simp) (by omega) (arN (m:=P KX (k+1)*256) (by rw[s5,ze];simp) (by omega) (B5.rd rfl (arN (m:=P Km (k+1)) (by rw[s6,hfr];simp) (by omega) ?_))))));refine B5.st (by omega) λv6 _ B6=>B6.st (by omega) λv7 _ B7=>B7.st (by omega) λv8 _ B8=>?_;exact arN (m:=k+1) (by omega) (by omega) ⟨⟨k+1,rfl,by omega,B8,by omega,by omega,by omega,by omega⟩,by omega⟩
    ·have hkk:k=H.ars.length:=by simp only at hge;omega
     subst hkk;have l5:=hPl (f:=KX) (λA hA=>Wa9 (hga A hA)) H.ars.length;have l6:=hPl (f:=Km) (λA hA=>Hy (hga A hA)) H.ars.length;rw[hPe]at l1 l2 l3 l4 l5 l6;rw[hPe,hPe,hPe,hPe,hPe,hPe]at B;exact B.fin λw e=>hR w e ⟨hsum',by omega,by omega,by omega,by omega,by omega,by omega⟩
  ·rintro(todo:List (Int×Bk)) n (x:Bk) w1 w2 J1 ⟨z,B,hn,hin,hz0,hz⟩ hx ho hlt hJ1;have hsb:=B0.s.lt;have hnb:=B0.n.lt;have hz2:=ho.1;have hlm:L.lm<σ.size:=h.liveM.lt;have B2:=B.own ho (.inr ⟨by omega,by omega,by omega⟩);have hl:=hin _ hx;have hdel:=WdP sz0 hn hx;have hin':∀y∈todo.filter λy=>!(y.1==n),y∈H.live:=λy hy=>hin y (zH.1 hy).1;have hn':((todo.filter λy=>!(y.1==n)).map (·.1)).Nodup:=hn.sublist (List.filter_sublist.map _);have hrest:=(Ui (f:=λe:Int×Bk=>sz0 e.2) (c:=270000) λe he=>WgF hi (hin' e he)).1;have hall:=(Ui (l:=H.live) (f:=λe:Int×Bk=>sz0 e.2) (c:=270000) λe he=>WgF hi he).2;have hst:(H.live.map λe:Int×Bk=>sz0 e.2).sum=VX H.live:=rfl;have hx0:=WgF hi hl;rw[hst]at hall;obtain⟨rs,hrs⟩:∃rs,((todo.filter λy=>!(y.1==n)).map λe:Int×Bk=>sz0 e.2).sum=rs:=⟨_,rfl⟩;have hdel':(todo.map λe:Int×Bk=>sz0 e.2).sum=sz0 x+rs:=by rw[←hrs];exact hdel
   have hz':z+(todo.map λe:Int×Bk=>sz0 e.2).sum=VX H.live:=hz;rw[hrs]at hrest;have hg:∀y:Int,y+rs=VX H.live->y+((todo.filter λy=>!(y.1==n)).map λe:Int×Bk=>sz0 e.2).sum=VX H.live:=λy hy=>by rw[hrs];exact hy
   refine nw (cs:=[.int .i64 0,.int .i64 0,.int .i64 0,.int .i64 0]) λv2 hzv e2 b2=>b2.s1 (by simp) λv3 o3 b3=>b3.s1 (by simp) λv4 o4 b4=>b4.s1 (by simp) λv5 o5 b5=>b5.s1 (by simp) λv6 o6 b6=>?_;have e6:Ext0 w2 v6:=Ext.fresh (Ext.fresh (Ext.fresh (Ext.fresh e2 o3.ext λi hi=>by omega) o4.ext λi hi=>by omega) o5.ext λi hi=>by omega) o6.ext λi hi=>by omega
   have B6:=B2.fr e6;refine b6.rI rfl (ifD (λhpos=>B6.rd rfl (b6.rI rfl ?_)) λhneg=>?_)
   ·have hs:sz0 x=x.2.1:=by unfold sz0;exact zB hpos
    have hx1:0<=x.2.1/\x.2.1<=270000:=by rw[←hs];exact hx0
    refine ar (by omega) (by omega) (B6.st (by omega) λv7 e7 B7=>hJ1 v7 ?_ ?_ ⟨z+x.2.1,B7,hn',hin',by omega,hg _ (by omega)⟩)
    ·rw[e7.2 _ (by have:=e6.1;omega) (λ(hx:w.size=sb)=>by omega),e6.2 _ (by omega) id]
    ·rw[e7.2 _ (by have:=e6.1;omega) (λ(hx:L.lm=sb)=>by have:=B6.h2;omega),e6.2 _ (by omega) id]
   ·have hs:sz0 x=0:=by unfold sz0;exact zA hneg
    refine hJ1 v6 (e6.2 _ (by omega) id) (e6.2 _ (by omega) id) ⟨z,B6,hn',hin',hz0,hg _ (by omega)⟩
 ·have hS:SpH3 v F L.hs H.sp:=hv.spS;have fin:∀w sb,Ext0 v w->Blk w sb KN->v.size<=sb->St1 (Addr.add ⟨sb,0,none⟩ 0) (.int .i64 0) w λv57=>St1 (Addr.add ⟨sb,0,none⟩ 1) (.int .i64 0) v57 λv58=>St1 (Addr.add ⟨sb,0,none⟩ 2) (.int .i64 0) v58 λv59=>St1 (Addr.add ⟨sb,0,none⟩ 3) (.int .i64 0) v59 λv60=>
   St1 (Addr.add ⟨sb,0,none⟩ 4) (.int .i64 0) v60 λv61=>St1 (Addr.add ⟨sb,0,none⟩ 5) (.int .i64 0) v61 λv62=>St1 (Addr.add ⟨sb,0,none⟩ 6) (.int .i64 0) v62 λv63=>St1 (Addr.add ⟨sb,0,none⟩ 7) (.int .i64 0) v63 λv64=>
   St1 (Addr.add ⟨sb,0,none⟩ 8) (.int .i64 0) v64 λv65=>St1 (Addr.add ⟨sb,0,none⟩ 9) (.int .i64 M) v65 λv66=>St1 (Addr.add ⟨sb,0,none⟩ 10) (.int .i64 D) v66 λv67=>J ⟨sb,0,none⟩ v67:=λw sb ew bw hsb=>by
   have hv1:=hb.lt;refine st11 bw 0 0 0 0 0 0 0 0 0 M D λw' e' b'=>hJ _ w' ⟨sb,rfl,Ext.fresh (e.trans ew) e' (λi (hi:i=sb)=>by omega),e'.blk (ew.blk hb id) (λ(hx:σ.size=sb)=>by omega),b',zC _,by omega,by omega,rfl⟩
  refine⟨λm=>Ext0 v m,Ext.refl _ _,nilP (Blk.rH (c:=.p) (y:=some ⟨L.hs,0,none⟩) hv.hd rfl (nilP (Blk.rH (c:=.p) (y:=some ⟨L.hs,0,none⟩) hv.hd rfl ⟨?_,?_⟩)))⟩
  ·refine Wb0 hS ⟨Ext.refl _ _,Wa1 hS ⟨Ext.refl _ _,?_⟩,?_⟩
   ·rw[hm0,hd0];exact nw (cs:=KN) λw hzw ew bw=>⟨ew,fin w _ ew bw (zC _)⟩
   ·refine nw (cs:=KN) λw hzw ew bw=>⟨ew,Wa1 (hv.keep0 ew).spS ⟨ew,?_⟩⟩;rw[hm0,hd0];exact fin w _ ew bw (zC _)
  ·refine nw (cs:=KN) λw hzw ew bw=>⟨ew,Wb0 (hv.keep0 ew).spS ⟨ew,Wa1 (hv.keep0 ew).spS ⟨ew,?_⟩⟩⟩;rw[hm0,hd0];exact fin w _ ew bw (zC _)
end Go.Ar
namespace Go.Ar
open Go.Vc (mget mset mdel)
def i63 (x:Int):Bool:=decide (x<=9223372036854775807)
def Gw (H:Hw)(t:Nat):Ph->Bool
 | .take k=>decide (k<H.tb.length)&&(match Qk (H.cls k) ((H.thr t).li k)with
  | (some y,_)=>i63 y
  | (none,_)=>true)
 | .transfer k _=>decide (k<H.tb.length)&&(Zt (H.arn t) (k:Int) != 0 || !(Ya (H.arn t) (k:Int)).isEmpty)
 | .central _ _=>true
 | .grow _ _=>true
 | .fill=>match (H.thr t).hands with
  | (k,x::xs)::_=>decide (k<H.tb.length)&&(i63 x&&decide (((H.thr t).li k).os.length+xs.length<=256))
  | _=>false
 | .large m=>decide (Zs (H.arn t) H.sp (m:Int) 1<=1000000)
 | .find x=>i63 x&&((mget H.live x).isSome&&decide (0<=x))
 | .put k _=>decide (k<H.tb.length) && !(H.thr t).hands.isEmpty
 | .back=>match (H.thr t).hands with
  | (_,xs)::_=>(xs.all λx=>i63 x&&decide (0<=X9 H.ars x))&&decide (xs.length<=1000000)
  | _=>false
 | .give _ a=>decide (0<=a)&&(decide (a.toNat<H.ars.length)&&H.ars.all λA=>A.runs.all λr=>decide (r.1<=1000000))
 | .drain=>true
theorem Wdv {x:Int}(h:i63 x=true):I63 x:=by
 unfold i63 at h;unfold I63;exact zCC h
theorem Whf {H:Hw}{t:Nat}{p:Ph}(h:Gw H t p=true):Wen H t p:=by
 cases p with
 | take k=>
  simp only[Gw,zF,zO]at h;refine⟨h.1,λy l hy=>?_⟩;have h2:=h.2;rw[hy]at h2;exact Wdv h2
 | transfer k w=>
  simp only[Gw,zF,zO,zBE]at h;refine⟨h.1,λh0 he=>?_⟩;rw[h0,he]at h;simp at h
 | central k w=>trivial
 | grow k w=>trivial
 | fill=>
  simp only[Gw]at h;split at h
  ·rename_i k x xs r hh;simp only[zF,zO]at h;exact⟨k,x,xs,r,hh,h.1,Wdv h.2.1,h.2.2⟩
  ·cases h
 | large m=>
  simp only[Gw,zO]at h;exact h
 | find x=>
  simp only[Gw,zF,zO]at h;exact⟨Wdv h.1,λhn=>by rw[hn]at h;simp at h,λb _=>h.2.2⟩
 | put k x=>
  simp only[Gw,zF,zO]at h;exact⟨h.1,λhe=>by rw[he]at h;simp at h⟩
 | back=>
  simp only[Gw]at h;split at h
  ·rename_i k xs r hh;simp only[zF,zO,zw]at h;exact⟨k,xs,r,hh,λx hx=>⟨Wdv (h.1 x hx).1,(h.1 x hx).2⟩,h.2⟩
  ·cases h
 | give s a=>
  simp only[Gw,zF,zO,zw]at h;exact⟨h.1,h.2.1,h.2.2⟩
 | drain=>trivial
def runB:Nat->Hw->Nat->Ph->Option (Hw×Int×Int)
 | 0,_,_,_=>none
 | n+1,H,t,p=>if Gw H t p&&decide ((H.thr t).hands.length<=900)then(match (Wp H t p).2.1 with
  | none=>some (ZV H t p,(Wp H t p).2.2.1,(Wp H t p).2.2.2)
  | some p'=>runB n (ZV H t p) t p')else none
theorem Wgg:∀{n:Nat} {H:Hw} {t:Nat} {p:Ph} {r:Hw×Int×Int},runB n H t p=some r->∃m,RunN m H t p r.1 r.2.1 r.2.2
 | 0,_,_,_,_,h=>by simp[runB]at h
 | n+1,H,t,p,r,h=>by
  rw[runB]at h;split at h
  ·rename_i hc;simp only[zF,zO]at hc;have hok:Wab H t p:=⟨Whf hc.1,λg hg=>by rw[←UN hg];exact hc.2⟩;split at h
   ·rename_i hn;cases h;exact⟨1,.done hok hn⟩
   ·rename_i p' hs;obtain⟨m,hm⟩:=Wgg h;exact⟨m+1,.next hok hs hm⟩
  ·cases h
def WdE (H:Hw)(thread kind size align addr:Int):Option (Hw×Int×Int):=match QP H thread kind size align addr with
 | .inl e=>if e=0 then none else some (H,0,e)
 | .inr (t,p)=>runB 40 (setPh H t (some p)) t p
theorem WeP {H:Hw}{thread kind size align addr:Int}{r:Hw×Int×Int}(h:WdE H thread kind size align addr=some r):H6 H thread kind size align addr r.1 r.2.1 r.2.2:=by
 unfold WdE at h;split at h
 ·rename_i e he;split at h
  ·cases h
  ·rename_i hne;cases h;exact .inl ⟨he,hne,rfl,rfl⟩
 ·rename_i t p he;obtain⟨m,hm⟩:=Wgg h;exact .inr ⟨t,p,m,he,hm⟩
def tb8:List Cls:=(Wbb 8).map Zi
def w0:Hw:=KZ tb8 ⟨64,1,1,1024,2⟩
def nxt (H:Hw)(kind size addr:Int):Hw×Int×Int:=(WdE H 0 kind size (if kind=0 then 8 else 0) addr).getD (H,0,99)
theorem Wll {H:Hw}{kind size addr:Int}(h:(nxt H kind size addr).2.2≠99):H6 H 0 kind size (if kind=0 then 8 else 0) addr (nxt H kind size addr).1 (nxt H kind size addr).2.1 (nxt H kind size addr).2.2:=by
 unfold nxt at *;cases hw:WdE H 0 kind size (if kind=0 then 8 else 0) addr with
 | none=>rw[hw]at h;exact absurd rfl h
 | some r=>exact WeP hw
theorem nxtW {H:Hw}{kind size addr al a e:Int}{N:Hw×Int×Int}(hN:N=nxt H kind size addr)(h:N.2=(a,e))(hne:e≠99)(hal:al=if kind=0 then 8 else 0):H6 H 0 kind size al addr N.1 a e:=by
 have h1:=Wll (H:=H) (kind:=kind) (size:=size) (addr:=addr) (by rw[←hN,h];exact hne);rw[←hN,h,←hal]at h1;exact h1
theorem w0_e:KZ ((Wbb 8).map Zi) ⟨(64:Int).toNat,(1:Int).toNat,(1:Int).toNat,(1024:Int).toNat,(2:Int).toNat⟩=w0:=rfl
end Go.Ar
namespace Go.Ar
open Go Go.Vc Go.Proofs
variable {σ u u':Hp}{F:Rg}{L:LayH}{H H':Hw}{N:Nat}
attribute [local irreducible] w0 nxt tb8
theorem Wc8 (g:Gl σ)(gd:Gd σ){R:Option Addr->Hp->Prop}(hR:∀σ' L N,Ext0 σ σ'->σ.size<=N->N<=σ'.size->HH σ' (λb=>N<=b) L w0->R (some ⟨L.p,0,none⟩) σ'):W9.c σ R:=by
 refine W9.o ?_;unfold W9.v;refine WW.o ?_;unfold WW.v;refine nw (cs:=[.int .i64 8,.int .i64 64,.int .i64 1,.int .i64 1,.int .i64 1024,.int .i64 2]) λv hz e hb=>hb.rI rfl ?_;refine WjG 8 (by decide) (by decide) λs v1 e1 ha=>?_;have hb1:=e1.blk hb id;have e01:=e.trans e1;refine hb1.rI2 rfl (hb1.rI2 rfl (hb1.rI2 rfl (hb1.rI2 rfl (hb1.rI2 rfl ?_))));refine WjD ha (g.keep0 e01) (gd.keep0 e01) 64 1 1 1024 2 (λhv=>?_) (λ_ hc=>?_) λ_ _ v2 L e2 h2=>?_
 ·have:=GT 8 (by decide) (by decide);rw[show((8:Nat):Int)=8 from rfl]at this;rw[this]at hv;cases hv
 ·exact absurd hc (by decide)
 ·rw[w0_e]at h2;exact ifF rfl (hR v2 L v1.size (e01.trans e2) e01.1 e2.1 h2)
end Go.Ar
namespace Go.Proofs
open Go.Vc
set_option maxRecDepth 100000
def Zy.h:Hn:=.q .o2 (.q (.q .o3 (.c (.q .o2 .l) .l)) (.q (.q (.reg (.seq [.op,.op,.op,.grd false 2 [.op,.op],.op,.grd false 2 [.op,.op],.op,.grd false 2 [.op,.op],.op,.grd false 5 (RI.ops 5)])) (.c (.q .o2 .l) .l)) (.q .o9 (.q (.q .o2 (.c (.q .o9 .l) .l)) (.q .o10 (.q .o10 (.q (.oq 16) .l)))))))
def Zy.v (a:Sl)(b c:Int)(d:Hp)(e:Int->Int->Hp->Prop):Prop:=Y4.c a d λf g=>If (!f) (e 0 2 g) (JnB (λh i=>JnB (λj k=>JnB (λl m=>JnB (λn o=>If n (e 0 1 o) (Zo.c a b c o λp q r=>If (q != 0) (Ar .i64 (b+256) λs=>Ar .i64 (s-1) λt=>Nz 256<|Ar .i64 (t.tdiv 256) λu=>Ar .i64 (u*256) λv=>Ar .i64 (v-b) λw=>e w 0 r) (Ix a.a a.len p 3 λx=>LdI .i64 (x.add 0) r λy=>LdI .i64 (x.add 1) r λz=>LdI .i64 (x.add 2) r λaa=>Yy.c y z aa r λab ac ad=>Ix a.a a.len p 3 λae=>LdI .i64 (ae.add 0) ad λaf=>LdI .i64 (ae.add 1) ad λag=>LdI .i64 (ae.add 2) ad λah=>ZD.c af ag ah ad λai aj ak=>Ix a.a a.len p 3 λal=>LdI .i64 (al.add 0) ak λam=>Ar .i64 (am-b) λan=>Ar .i64 (ai+ab) λao=>Ar .i64 (ao-1) λap=>Nz ab<|Ar .i64 (ap.tdiv ab) λaq=>Ar .i64 (an+aq) λar=>e ar 0 ak))) λau=>If l (au true m) (Ar .i64 (c-1) λav=>au ((bits .and .i64 c av) != 0) m)) λaw=>If j (aw true k) (aw (decide (c>256)) k)) λax=>If h (ax true i) (ax (decide (c<1)) i)) λay=>If (b<1) (ay true g) (ay (decide (b>16384)) g))
theorem Zy.o {a b c d e}(f:Zy.v a b c d e):Zy.c a b c d e:=Wa Tryz.func14 (x:=Zy.h) (R0 f)
def ZC.h:Hn:=.q .o2 (.q (.q .o3 (.c (.q .o2 .l) .l)) (.q .o6 .l))
def ZC.v (a:R2)(b:Hp)(c:Option Addr->Int->Hp->Prop):Prop:=Zd.c a b λd e=>If (!d) (c none 1 e) (Nw (.map #[] 0) e λf g=>Nw (.cells #[.pointer a,.map (some f.block),.I 0,.I 0,.I 0,.I 0,.I 0,.I 0] 38 (0,0)) g λh i=>c (some h) 0 i)
theorem ZC.o {a b c}(d:ZC.v a b c):ZC.c a b c:=Wa Tryz.func19 (x:=ZC.h) (R0 d)
def WK.h:Hn:=.q .o2 (.q (.q .o3 (.c (.q .o2 .l) .l)) (.q (.o 13) (.sjn [] (.q .o2 (.c (.q .o3 (.q .o7 .o9)) .l)) (.q .o6 (.q .o4 .l)))))
def WK.v (a:R2)(b c d:Int)(e:Hp)(f:Int->Int->Hp->Prop):Prop:=Wr.c a e λg h=>If (!g) (f 0 5 h) (NilP a λi=>LdP (i.add 0) h λj=>Yv.c j b c d h λk l m=>Jn [] (λn=>NilP a λo=>Xx.c a l (some (o.add 5)) n λp=>f k l p) λq=>If (l==0) (Xk.c a k m λr=>NilP a λs=>LdM (s.add 1) r λt=>MSet .i64 (.i .i64) t k c r λu=>NilP a λv=>LdI .i64 (v.add 2) u λw=>Ar .i64 (w+c) λx=>NilP a λy=>St1 (y.add 2) (.I x) u λz=>q z) (q m))
theorem WK.o {a b c d e f}(g:WK.v a b c d e f):WK.c a b c d e f:=Wa Tryz.func20 (x:=WK.h) (R0 g)
def YA.h:Hn:=.q .o2 (.q (.q .o3 (.c (.q .o2 .l) .l)) (.q .o4 (.q (.o 12) (.q (.q (.reg (.seq [.op,.op,.op,.op,.grd false 2 [.op,.op]])) (.c (.q .o2 .l) .l)) (.q .o6 (.q .o4 (.q (.q .o4 (.c .o3 .l)) (.q .o3 .l))))))))
def YA.v (a:R2)(b:Hp)(c:Int->Int->Hp->Prop):Prop:=Wr.c a b λd e=>If (!d) (c 0 5 e) (WA.c a e λf g h i j k l m n o p=>Nw (.cells #[.I 0,.I 0,.I 0,.I 0,.I 0,.I 0,.I 0,.I 0,.I 0,.I 0] 56 (0,0)) p λq r=>St1 (q.add 0) (.I f) r λs=>St1 (q.add 1) (.I g) s λt=>St1 (q.add 2) (.I h) t λu=>St1 (q.add 3) (.I i) u λv=>St1 (q.add 4) (.I j) v λw=>St1 (q.add 5) (.I k) w λx=>St1 (q.add 6) (.I l) x λy=>St1 (q.add 7) (.I m) y λz=>St1 (q.add 8) (.I n) z λaa=>St1 (q.add 9) (.I o) aa λab=>LdI .i64 (q.add 1) ab λac=>LdI .i64 (q.add 2) ab λad=>Ar .i64 (ac+ad) λae=>LdI .i64 (q.add 3) ab λaf=>Ar .i64 (ae+af) λag=>LdI .i64 (q.add 4) ab λah=>Ar .i64 (ag+ah) λai=>LdI .i64 (q.add 0) ab λaj=>JnB (λak al=>If ak (c 0 4 al) (LdI .i64 (q.add 0) al λam=>Ar .i64 (ai-am) λan=>Ar .i64 (1000*an) λao=>Nz ai<|Ar .i64 (ao.tdiv ai) λap=>Nz ai <| If ((ao.tmod ai)<0) (Ar .i64 (ap-1) λaq=>c aq 0 al) (c ap 0 al))) λar=>If (aj==0) (ar true ab) (ar (ai==0) ab))
theorem YA.o {a b c}(d:YA.v a b c):YA.c a b c:=Wa Tryz.func21 (x:=YA.h) (R0 d)
def ZK.h:Hn:=.q .o3 (.q (.q .o3 (.c (.q .o3 .l) .l)) (.q .o4 (.q (.reg (.heldJ false [] [(6,.one .s),(7,.one .s)] (.take 0 (.take 2 (.all [(1,.take 4 (.all [(3,.take 5 (.done))])),(3,.all [(1,.take 4 (.take 5 (.done)))])]))))) (.q (.q .o4 (.k (.loop [(27,.I)] (.q .o1 (.q (.c .l .l) (.q (.k (.q .o4 (.q .o4 (.k (.loop [(10,.I)] (.q (.q .o9 (.c .l .l)) (.q (.k .o4) .o3))))))) .o2)))))) (.q (.q .o3 (.k (.loop [(51,.I)] (.q .o1 (.q (.c .l .l) (.q (.k (.q .o2 (.q .o9 (.reg (.seq [.op,.op,.op,.op,.op,.grd true 5 (RI.ops 5),.op,.op]))))) .o2)))))) (.q .o7 .l))))))
def ZK.v (a:R2)(b:Hp)(c:Sl->Sl->Int->Hp->Prop):Prop:=Zd.c a b λd e=>If (!d) (c ⟨none,0,0⟩ ⟨none,0,0⟩ 1 e) (Xe.c a e λf g h i j k=>Jn [.s,.s] (λ(l:Sl) (m:Sl) n=>Yo.c a n λo p=>XJ [(.i .i64)] (λq=>q 0 p) λr (s:Int) t=>If (s<((o.len:Nat):Int)) (Ix o.a o.len s 4 λu=>LdI .i64 (u.add 0) t λv=>LdI .i64 (u.add 1) t λw=>LdI .i64 (u.add 2) t λx=>LdI .i64 (u.add 3) t λy=>Nw (.cells #[.I 0,.I 0,.I 0,.I 0] 76 (0,0)) t λz aa=>St1 (z.add 0) (.I v) aa λab=>St1 (z.add 1) (.I w) ab λac=>St1 (z.add 2) (.I x) ac λad=>St1 (z.add 3) (.I y) ad λae=>LdI .i64 (z.add 0) ae λaf=>Nz 256<|Ar .i64 (af.tdiv 256) λag=>XJ [(.i .i64)] (λah=>ah ag ae) λai (aj:Int) ak=>LdI .i64 (z.add 0) ak λal=>LdI .i64 (z.add 1) ak λam=>Ar .i64 (al+am) λan=>Ar .i64 (an-1) λao=>Nz 256<|Ar .i64 (ao.tdiv 256) λap=>If (aj<=ap) (Ix l.a l.len aj 1 λaq=>St1 aq (.bool true) ak λar=>Ar .i64 (aj+1) λau=>ai au ar) (Ar .i64 (s+1) λav=>r av ak)) (XJ [(.i .i64)] (λaw=>aw 0 t) λax (ay:Int) az=>If (ay<((m.len:Nat):Int)) (Ar .i64 (ay*256) λa0=>Gr.c a a0 az λa1 a2 a3=>JnB (λa4 a5=>Ix m.a m.len ay 1 λa6=>St1 a6 (.bool a4) a5 λa7=>Ar .i64 (ay+1) λa8=>ax a8 a7) λa9=>If (a2==0) (Ix l.a l.len ay 1 λba=>LdB ba a3 λbb=>a9 (!bb) a3) (a9 false a3)) (GE.c l az λbc bd=>GE.c m bd λbe bf=>c bc be 0 bf))) λbg=>(Mk f f 1 4 [.bool false] k λbh bi=>Mk f f 1 4 [.bool false] bi λbj bk=>bg bh bj bk) ∧ (Mk f f 1 4 [.bool false] k λbl bm=>Mk f f 1 4 [.bool false] bm λbn bo=>bg bn bl bo))
theorem ZK.o {a b c}(d:ZK.v a b c):ZK.c a b c:=Wa Tryz.func22 (x:=ZK.h) (R0 d)
def YO.h:Hn:=.q .o1 (.q (.q .o3 (.c (.q .o1 .l) .l)) (.q .o8 (.sjn [] (.q .o2 (.c .o3 .l)) (.q .o6 (.q .o2 .l)))))
def YO.v (a:R2)(b c:Int)(d:Hp)(e:Int->Hp->Prop):Prop:=Wr.c a d λf g=>If (!f) (e 5 g) (NilP a λh=>LdP (h.add 0) g λi=>Gq.c i b c g λj k=>Jn [] (λl=>NilP a λm=>Xx.c a j (some (m.add 6)) l λn=>e j n) λo=>If (j==0) (Xk.c a c k λp=>o p) (o k))
theorem YO.o {a b c d e}(f:YO.v a b c d e):YO.c a b c d e:=Wa Tryz.func23 (x:=YO.h) (R0 f)
def WA.h:Hn:=.q .o1 (.q (.q .o3 (.c (.q .o2 .l) .l)) (.q .o7 (.q (.reg (.held true [47] (.take 0 (.take 1 (.take 2 (.take 3 (.take 4 (.take 5 (.take 6 (.take 7 (.take 10 (.take 11 (.take 12 (.take 13 (.take 14 (.take 15 (.take 16 (.take 17 (.take 18 (.take 19 (.take 20 (.take 21 (.take 22 (.take 23 (.take 24 (.take 25 (.take 26 (.take 27 (.take 28 (.take 29 (.take 30 (.take 31 (.take 32 (.take 33 (.take 34 (.take 35 (.take 36 (.take 37 (.take 38 (.take 39 (.take 40 (.take 41 (.take 42 (.take 43 (.take 44 (.take 45 (.all [(8,.all [(9,.take 46 (.all [(47,.done)]))])]))))))))))))))))))))))))))))))))))))))))))))))) .l)))
def WA.v (a:R2)(b:Hp)(c:Int->Int->Int->Int->Int->Int->Int->Int->Int->Int->Hp->Prop):Prop:=Nw (.cells #[.I 0,.I 0,.I 0,.I 0,.I 0,.I 0,.I 0,.I 0,.I 0,.I 0] 56 (0,0)) b λd e=>Wr.c a e λf g=>If (!f) (St1 (d.add 0) (.I 0) g λh=>St1 (d.add 1) (.I 0) h λi=>St1 (d.add 2) (.I 0) i λj=>St1 (d.add 3) (.I 0) j λk=>St1 (d.add 4) (.I 0) k λl=>St1 (d.add 5) (.I 0) l λm=>St1 (d.add 6) (.I 0) m λn=>St1 (d.add 7) (.I 0) n λo=>St1 (d.add 8) (.I 0) o λp=>St1 (d.add 9) (.I 0) p λq=>LdI .i64 (d.add 0) q λr=>LdI .i64 (d.add 1) q λs=>LdI .i64 (d.add 2) q λt=>LdI .i64 (d.add 3) q λu=>LdI .i64 (d.add 4) q λv=>LdI .i64 (d.add 5) q λw=>LdI .i64 (d.add 6) q λx=>LdI .i64 (d.add 7) q λy=>LdI .i64 (d.add 8) q λz=>LdI .i64 (d.add 9) q λaa=>c r s t u v w x y z aa q) (NilP a λab=>LdP (ab.add 0) g λac=>Yi.c ac g λad ae af ag ah ai aj ak al am an ao=>Nw (.cells #[.I 0,.I 0,.I 0,.I 0,.I 0,.I 0,.I 0,.I 0,.I 0,.I 0,.I 0] 89 (0,0)) ao λap aq=>St1 (ap.add 0) (.I ad) aq λar=>St1 (ap.add 1) (.I ae) ar λau=>St1 (ap.add 2) (.I af) au λav=>St1 (ap.add 3) (.I ag) av λaw=>St1 (ap.add 4) (.I ah) aw λax=>St1 (ap.add 5) (.I ai) ax λay=>St1 (ap.add 6) (.I aj) ay λaz=>St1 (ap.add 7) (.I ak) az λa0=>St1 (ap.add 8) (.I al) a0 λa1=>St1 (ap.add 9) (.I am) a1 λa2=>St1 (ap.add 10) (.I an) a2 λa3=>Held a3 λa4=>NilP a λa5=>LdH a4 (.i .i64) (a5.add 2) λ(a6:Int)=>NilP a λa7=>LdH a4 .p (a7.add 0) λ(a8:R2)=>LdH a4 (.i .i64) (ap.add 1) λ(a9:Int)=>LdH a4 (.i .i64) (ap.add 2) λ(ba:Int)=>Ar .i64 (a9+ba) λbb=>
 LdH a4 (.i .i64) (ap.add 3) λ(bc:Int)=>Ar .i64 (bb+bc) λbd=>LdH a4 (.i .i64) (ap.add 4) λ(be:Int)=>Ar .i64 (bd+be) λbf=>LdH a4 (.i .i64) (ap.add 5) λ(bg:Int)=>LdH a4 (.i .i64) (ap.add 8) λ(bh:Int)=>Ar .i64 (bh*256) λbi=>NilP a λbj=>LdH a4 (.i .i64) (bj.add 3) λ(bk:Int)=>NilP a λbl=>LdH a4 (.i .i64) (bl.add 4) λ(bm:Int)=>NilP a λbn=>LdH a4 (.i .i64) (bn.add 5) λ(bo:Int)=>NilP a λbp=>LdH a4 (.i .i64) (bp.add 6) λ(bq:Int)=>NilP a λbr=>LdH a4 (.i .i64) (br.add 7) λ(bs:Int)=>Yo.c a8 a3 λbt bu=>And (a4 bu) <| WY.c bt ⟨60,#[],#[]⟩ bu λbv bw=>And (a4 bw) <| St1 (d.add 0) (.I a6) bw λbx=>St1 (d.add 1) (.I bv) bx λbz=>St1 (d.add 2) (.I bf) bz λb0=>St1 (d.add 3) (.I bg) b0 λb1=>St1 (d.add 4) (.I bi) b1 λb2=>St1 (d.add 5) (.I bk) b2 λb3=>St1 (d.add 6) (.I bm) b3 λb4=>St1 (d.add 7) (.I bo) b4 λb5=>St1 (d.add 8) (.I bq) b5 λb6=>St1 (d.add 9) (.I bs) b6 λb7=>LdI .i64 (d.add 0) b7 λb8=>LdI .i64 (d.add 1) b7 λb9=>LdI .i64 (d.add 2) b7 λca=>LdI .i64 (d.add 3) b7 λcb=>LdI .i64 (d.add 4) b7 λcc=>LdI .i64 (d.add 5) b7 λcd=>LdI .i64 (d.add 6) b7 λce=>LdI .i64 (d.add 7) b7 λcf=>LdI .i64 (d.add 8) b7 λcg=>LdI .i64 (d.add 9) b7 λch=>c b8 b9 ca cb cc cd ce cf cg ch b7)
theorem WA.o {a b c}(d:WA.v a b c):WA.c a b c:=Wa Tryz.func24 (x:=WA.h) (R0 d)
def W1.h:Hn:=.q .o1 (.q (.q .o3 (.c (.q .o1 .l) .l)) (.q .o6 (.q .o2 (.q (.q .o7 (.k (.loop [(29,.I)] (.q .o1 (.q (.c .l .l) (.q (.k (.q .o4 (.q .o6 (.q .o4 (.q .o5 (.q .o7 (.q (.reg (.tail 11 (RI.ops 11) [.op])) .o5))))))) .o2)))))) (.q .o1 (.q (.q .o1 (.k (.loop [(8,.one .s),(9,.I)] (.q (.q .o4 (.c .l .l)) (.q (.k (.q .o9 (.q (.q .o2 (.c .l .l)) (.sjn [] (.q .o2 (.c (.q .o10 (.reg (.held true [13,15] (.take 0 (.take 1 (.take 2 (.take 3 (.take 4 (.take 5 (.take 6 (.take 7 (.take 8 (.take 9 (.take 10 (.take 11 (.take 12 (.all [(13,.take 14 (.all [(15,.done)]))]))))))))))))))))) .l)) .o5)))) .o3))))) (.q .o2 .l)))))))
def W1.v (a:R2)(b:Hp)(c:Sl->Hp->Prop):Prop:=Wr.c a b λd e=>If (!d) (c ⟨none,0,0⟩ e) (NilP a λf=>LdP (f.add 0) e λg=>Yk.c g e λh i=>Nw (.map #[] 0) i λj k=>NilP a λl=>LdP (l.add 0) k λm=>Yo.c m k λn o=>XJ [(.i .i64)] (λp=>p 0 o) λq (r:Int) s=>If (r<((n.len:Nat):Int)) (Ix n.a n.len r 4 λt=>LdI .i64 (t.add 0) s λu=>LdI .i64 (t.add 1) s λv=>LdI .i64 (t.add 2) s λw=>LdI .i64 (t.add 3) s λx=>Nw (.cells #[.I 0,.I 0,.I 0,.I 0] 76 (0,0)) s λy z=>St1 (y.add 0) (.I u) z λaa=>St1 (y.add 1) (.I v) aa λab=>St1 (y.add 2) (.I w) ab λac=>St1 (y.add 3) (.I x) ac λad=>LdI .i64 (y.add 2) ad λae=>Lk .i64 (.ag 6) (some j.block) ae ad λaf=>Nw (.cells #[.I 0,.I 0,.I 0,.I 0,.I 0,.I 0] 80 (0,0)) ad λag ah=>St1 (ag.add 0) (.I ((af.getD (0,0,0,0,0,0)).1)) ah λai=>St1 (ag.add 1) (.I ((af.getD (0,0,0,0,0,0)).2.1)) ai λaj=>St1 (ag.add 2) (.I ((af.getD (0,0,0,0,0,0)).2.2.1)) aj λak=>St1 (ag.add 3) (.I ((af.getD (0,0,0,0,0,0)).2.2.2.1)) ak λal=>St1 (ag.add 4) (.I ((af.getD (0,0,0,0,0,0)).2.2.2.2.1)) al λam=>St1 (ag.add 5) (.I ((af.getD (0,0,0,0,0,0)).2.2.2.2.2)) am λan=>LdI .i64 (y.add 2) an λao=>St1 (ag.add 0) (.I ao) an λap=>LdI .i64 (ag.add 2) ap λaq=>Ar .i64 (aq+1) λar=>St1 (ag.add 2) (.I ar) ap λau=>LdI .i64 (ag.add 3) au λav=>LdI .i64 (y.add 1) au λaw=>Ar .i64 (av+aw) λax=>St1 (ag.add 3) (.I ax) au λay=>LdI .i64 (ag.add 4) ay λaz=>NilP a λa0=>LdM (a0.add 1) ay λa1=>LdI .i64 (y.add 0) ay λa2=>Lk .i64 (.i .i64) a1 a2 ay λa3=>Ar .i64 (az+(a3.getD 0)) λa4=>
 St1 (ag.add 4) (.I a4) ay λa5=>LdI .i64 (y.add 2) a5 λa6=>LdI .i64 (ag.add 0) a5 λa7=>LdI .i64 (ag.add 1) a5 λa8=>LdI .i64 (ag.add 2) a5 λa9=>LdI .i64 (ag.add 3) a5 λba=>LdI .i64 (ag.add 4) a5 λbb=>LdI .i64 (ag.add 5) a5 λbc=>MSet .i64 (.ag 6) (some j.block) a6 (a7,a8,a9,ba,bb,bc) a5 λbd=>Ar .i64 (r+1) λbe=>q be bd) (XJ [.s,(.i .i64)] (λbf=>bf ⟨none,0,0⟩ (-1) s) λbg (bh:Sl) (bi:Int) bj=>If (bi<((h.len:Nat):Int)) (Lk .i64 (.ag 6) (some j.block) bi bj λbk=>Nw (.cells #[.I 0,.I 0,.I 0,.I 0,.I 0,.I 0] 80 (0,0)) bj λbl bm=>St1 (bl.add 0) (.I ((bk.getD (0,0,0,0,0,0)).1)) bm λbn=>St1 (bl.add 1) (.I ((bk.getD (0,0,0,0,0,0)).2.1)) bn λbo=>St1 (bl.add 2) (.I ((bk.getD (0,0,0,0,0,0)).2.2.1)) bo λbp=>St1 (bl.add 3) (.I ((bk.getD (0,0,0,0,0,0)).2.2.2.1)) bp λbq=>St1 (bl.add 4) (.I ((bk.getD (0,0,0,0,0,0)).2.2.2.2.1)) bq λbr=>St1 (bl.add 5) (.I ((bk.getD (0,0,0,0,0,0)).2.2.2.2.2)) br λbs=>If (!bk.isSome) (Ar .i64 (bi+1) λbt=>bg bh bt bs) (Jn [] (λbu=>LdI .i64 (bl.add 0) bu λbv=>LdI .i64 (bl.add 1) bu λbw=>LdI .i64 (bl.add 2) bu λbx=>LdI .i64 (bl.add 3) bu λbz=>LdI .i64 (bl.add 4) bu λb0=>LdI .i64 (bl.add 5) bu λb1=>Nw (.cells #[.I bv,.I bw,.I bx,.I bz,.I b0,.I b1] 80 (0,0)) bu λb2 b3=>App bh 6 48 80 [.I 0,.I 0,.I 0,.I 0,.I 0,.I 0] ⟨some b2,1,1⟩ b3 λb4 b5=>Ar .i64 (bi+1) λb6=>bg b4 b6 b5) λb7=>If (bi≥0) (Ix h.a h.len bi 3 λb8=>LdI .i64 (b8.add 0) bs λb9=>LdI .i64 (b8.add 1) bs λca=>LdI .i64 (b8.add 2) bs λcb=>Yy.c b9 ca cb bs λcc cd ce=>Held ce λcf=>
 Ix h.a h.len bi 3 λcg=>LdH cf (.i .i64) (cg.add 0) λ(ch:Int)=>LdH cf (.i .i64) (bl.add 2) λ(ci:Int)=>Ar .i64 (ci+cc) λcj=>Ar .i64 (cj-1) λck=>Nz cc<|Ar .i64 (ck.tdiv cc) λcl=>St1 (bl.add 1) (.I ch) ce λcm=>St1 (bl.add 5) (.I cl) cm λcn=>b7 cn) (b7 bs))) (c bh bj)))
theorem W1.o {a b c}(d:W1.v a b c):W1.c a b c:=Wa Tryz.func25 (x:=W1.h) (R0 d)
def YP.h:Hn:=.q .o1 (.q (.q .o3 (.c (.q .o1 .l) .l)) (.q .o5 .l))
def YP.v (a:R2)(b:Hp)(c:Option Addr->Hp->Prop):Prop:=Wr.c a b λd e=>If (!d) (c none e) (NilP a λf=>LdP (f.add 0) e λg=>c g e)
theorem YP.o {a b c}(d:YP.v a b c):YP.c a b c:=Wa Tryz.func26 (x:=YP.h) (R0 d)
def Yz.h:Hn:=.q .o1 (.q (.q .o3 (.c (.q .o1 .l) .l)) (.q .o8 .l))
def Yz.v (a:R2)(b:Hp)(c:Option Addr->Hp->Prop):Prop:=Wr.c a b λd e=>If (!d) (c none e) (NilP a λf=>LdP (f.add 0) e λg=>Hl.c g e λh i=>YW.c a h i λj k=>c j k)
theorem Yz.o {a b c}(d:Yz.v a b c):Yz.c a b c:=Wa Tryz.func27 (x:=Yz.h) (R0 d)
def YW.h:Hn:=.q .o1 (.q (.q (.reg (.seq [.op,.op,.op,.op,.grd false 3 (RI.ops 3)])) (.c (.q .o1 .l) .l)) (.q .o5 (.q .o10 (.q .o1 .l))))
def YW.v (a b:R2)(c:Hp)(d:Option Addr->Hp->Prop):Prop:=Wr.c a c λe f=>JnB (λg h=>If g (d none h) (NilP a λi=>LdP (i.add 0) h λj=>LdM (i.add 1) h λk=>LdI .i64 (i.add 2) h λl=>LdI .i64 (i.add 3) h λm=>LdI .i64 (i.add 4) h λn=>LdI .i64 (i.add 5) h λo=>LdI .i64 (i.add 6) h λp=>LdI .i64 (i.add 7) h λq=>Nw (.cells #[.pointer none,.map none,.I 0,.I 0,.I 0,.I 0,.I 0,.I 0] 38 (0,0)) h λr s=>St1 (r.add 0) (.pointer j) s λt=>St1 (r.add 1) (.map k) t λu=>St1 (r.add 2) (.I l) u λv=>St1 (r.add 3) (.I m) v λw=>St1 (r.add 4) (.I n) w λx=>St1 (r.add 5) (.I o) x λy=>St1 (r.add 6) (.I p) y λz=>St1 (r.add 7) (.I q) z λaa=>NilP a λab=>LdM (ab.add 1) aa λac=>QL.c ac aa λad ae=>St1 (r.add 0) (.pointer b) ae λaf=>St1 (r.add 1) (.map ad) af λag=>d (some r) ag)) λah=>If (!e) (ah true f) (Zd.c b f λai aj=>ah (!ai) aj)
theorem YW.o {a b c d}(e:YW.v a b c d):YW.c a b c d:=Wa Tryz.func28 (x:=YW.h) (R0 e)
def Zd.h:Hn:=.q .o1 (.q (.reg (.seq [.op,.op,.op,.grd true 4 (RI.ops 4),.op])) .l)
def Zd.v (a:R2)(b:Hp)(c:Bool->Hp->Prop):Prop:=JnB (λd e=>c d e) λf=>If (!a.isNone) (Xe.c a b λg h i j k l=>f (decide (g>0)) l) (f false b)
theorem Zd.o {a b c}(d:Zd.v a b c):Zd.c a b c:=Wa Tryz.func50 (x:=Zd.h) (R0 d)
def Wr.h:Hn:=.q .o1 (.q (.reg (.seq [.op,.op,.op,.grd true 5 (RI.ops 5),.op])) .l)
def Wr.v (a:R2)(b:Hp)(c:Bool->Hp->Prop):Prop:=JnB (λd e=>c d e) λf=>If (!a.isNone) (NilP a λg=>LdP (g.add 0) b λh=>f (!h.isNone) b) (f false b)
theorem Wr.o {a b c}(d:Wr.v a b c):Wr.c a b c:=Wa Tryz.func51 (x:=Wr.h) (R0 d)
def Xk.h:Hn:=.q (.reg (.tail 13 (RI.ops 13) [.op])) .o6
def Xk.v (a:R2)(b:Int)(c:Hp)(d:Hp->Prop):Prop:=NilP a λe=>LdI .i64 (e.add 2) c λf=>NilP a λg=>LdM (g.add 1) c λh=>Lk .i64 (.i .i64) h b c λi=>Ar .i64 (f-(i.getD 0)) λj=>NilP a λk=>St1 (k.add 2) (.I j) c λl=>NilP a λm=>LdM (m.add 1) l λn=>MDel .i64 (.i .i64) n b l λo=>d o
theorem Xk.o {a b c d}(e:Xk.v a b c d):Xk.c a b c d:=Wa Tryz.func53 (x:=Xk.h) (R0 e)
def Xx.h:Hn:=.sjn [] (.q .o2 (.c .o6 .o8)) (.q (.reg (.tail 12 (RI.ops 12) [.op])) (.reg (.held true [15] (.take 0 (.take 1 (.take 2 (.take 3 (.take 4 (.take 5 (.take 6 (.take 7 (.take 8 (.all [(9,.take 10 (.take 11 (.take 12 (.take 13 (.take 14 (.all [(15,.done)]))))))])))))))))))))
def Xx.v (a:R2)(b:Int)(c:R2)(d:Hp)(e:Hp->Prop):Prop:=Jn [] (λf=>NilP a λg=>LdI .i64 (g.add 3) f λh=>NilP a λi=>LdI .i64 (i.add 2) f λj=>NilP a λk=>St1 (k.add 3) (.I (if j>h then j else h)) f λl=>Held l λm=>NilP a λn=>LdH m (.i .i64) (n.add 4) λ(o:Int)=>NilP a λp=>LdH m .p (p.add 0) λ(q:R2)=>Yi.c q l λr s t u v w x y z aa ab ac=>And (m ac) <| Ar .i64 (ab*256) λad=>NilP a λae=>St1 (ae.add 4) (.I (if ad>o then ad else o)) ac λaf=>e af) λag=>If (b==0) (NilP c λah=>LdI .i64 ah d λai=>Ar .i64 (ai+1) λaj=>NilP c λak=>St1 ak (.I aj) d λal=>ag al) (NilP a λam=>LdI .i64 (am.add 7) d λan=>Ar .i64 (an+1) λao=>NilP a λap=>St1 (ap.add 7) (.I ao) d λaq=>ag aq)
theorem Xx.o {a b c d e}(f:Xx.v a b c d e):Xx.c a b c d e:=Wa Tryz.func54 (x:=Xx.h) (R0 f)
def WY.h:Hn:=.q .o1 (.q .o1 (.q (.q .o3 (.k (.loop [(5,.I),(10,.I)] (.q .o1 (.q (.c .l .l) (.q (.k (.q .o4 .o6)) .o2)))))) (.q .o2 .l)))
def WY.v (a:Sl)(b:Fv)(c:Hp)(d:Int->Hp->Prop):Prop:=XJ [(.i .i64),(.i .i64)] (λe=>e 0 0 c) λf (g:Int) (h:Int) i=>If (h<((a.len:Nat):Int)) (Ix a.a a.len h 4 λj=>LdI .i64 (j.add 0) i λk=>LdI .i64 (j.add 1) i λl=>LdI .i64 (j.add 2) i λm=>LdI .i64 (j.add 3) i λn=>Nw (.cells #[.I 0,.I 0,.I 0,.I 0] 76 (0,0)) i λo p=>St1 (o.add 0) (.I k) p λq=>St1 (o.add 1) (.I l) q λr=>St1 (o.add 2) (.I m) r λs=>St1 (o.add 3) (.I n) s λt=>LdI .i64 (o.add 0) t λu=>LdI .i64 (o.add 1) t λv=>LdI .i64 (o.add 2) t λw=>LdI .i64 (o.add 3) t λx=>VD Tryz.prog b [.agg #[.I u,.I v,.I w,.I x]] [.I] t λy z=>Ar .i64 (g+y) λaa=>Ar .i64 (h+1) λab=>f aa ab z) (d g i)
theorem WY.o {a b c d}(e:WY.v a b c d):WY.c a b c d:=Wa Tryz.func59 (x:=WY.h) (R0 e)
def Xo.h:Hn:=.q .o2 (.q .o3 .l)
def Xo.v (a b c d:Int)(e:Hp)(f:Int->Hp->Prop):Prop:=Nw (.cells #[.I a,.I b,.I c,.I d] 76 (0,0)) e λg h=>LdI .i64 (g.add 1) h λi=>f i h
theorem Xo.o {a b c d e f}(g:Xo.v a b c d e f):Xo.c a b c d e f:=Wa Tryz.func60 (x:=Xo.h) (R0 g)
end Go.Proofs
namespace Go.Ar
open Go Go.Vc Go.Proofs
open Go.Vc (mget mset mdel)
open Go.Bu (cnt)
variable {σ σ0 v w w':Hp}{F P Q X T:Rg}{L:LayH}{H H':Hw}{held:List Pc}{s0:Sp}{t n:Nat}{g:Th}{mb am m:Nat}
structure Me where
 asked:List (Int×Int)
 sum:Int
 peak:Int
 dirty:Int
 mallocs:Nat
 frees:Nat
 fails:Nat
def Me.calls (x:Me):Nat:=x.mallocs+x.frees+x.fails
structure MeI (x:Me):Prop where
 v:∀y∈x.asked,0<=y.2/\y.2<=16384
 l:x.asked.length<=x.mallocs
 s:x.sum=(x.asked.map (·.2)).sum
 p:0<=x.peak/\x.peak<=16384000
 d:0<=x.dirty/\x.dirty<=1000000
 c:x.calls<=900
def me0:Me:=⟨[],0,0,0,0,0,0⟩
theorem Wk9:MeI me0:=⟨by simp[me0],by simp[me0],rfl,by simp[me0],by simp[me0],by simp[me0,Me.calls]⟩
def Me.forget (x:Me)(a:Int):Me:={x with asked:=mdel x.asked a,sum:=x.sum-(mget x.asked a).getD 0}
def Me.add (x:Me)(a size:Int):Me:={x with asked:=mset x.asked a size,sum:=x.sum+size}
def Me.count (x:Me)(e:Int)(mal:Bool):Me:=if e=0 then(if mal then{x with mallocs:=x.mallocs+1}else{x with frees:=x.frees+1})else{x with fails:=x.fails+1}
def Me.tops (x:Me)(D:Int):Me:={x with peak:=if x.sum>x.peak then x.sum else x.peak,dirty:=if D*256>x.dirty then D*256 else x.dirty}
theorem MeI.sum_le {x:Me}(h:MeI x):0<=x.sum/\x.sum<=14745600:=by
 have h1:=Ui (l:=x.asked) (f:=λy:Int×Int=>y.2) (c:=16384) h.v;have h2:=h.l;have h3:=h.c;unfold Me.calls at h3;rw[h.s];exact⟨h1.1,by have:=h1.2;omega⟩
def meV (hp am:Nat)(x:Me):List Value:=[.pointer (some ⟨hp,0,none⟩),.map (some am),.int .i64 x.sum,.int .i64 x.peak,.int .i64 x.dirty,.int .i64 (x.mallocs:Int),.int .i64 (x.frees:Int),.int .i64 (x.fails:Int)]
structure MP (σ0 σ:Hp) (L:LayH) (H:Hw) (held:List Pc) (s0:Sp) (P:Rg) (mb am:Nat) (x:Me):Prop where
 e:Ext0 σ0 σ
 h:HH σ P L H
 hi:HI H held s0
 cf:CfOk H
 ph:∀g∈H.ths,g.ph=none
 pg:H.cf.pages<=128
 pP:∀b,P b->σ0.size<=b/\b<σ.size
 mb1:σ0.size<=mb/\¬P mb
 am1:σ0.size<=am/\¬P am
 ne:mb≠am
 b:Blk σ mb (meV L.p am x)
 m:MapL σ am .i64 (.i .i64) x.asked
 g0:Off (λb=>σ0.size<=b)/\¬σ0.size<=1
variable {x y:Me}
theorem MP.fr (p:MP σ0 σ L H held s0 P mb am x)(e:Ext0 σ w):MP σ0 w L H held s0 P mb am x:=
 ⟨p.e.trans e,p.h.keep0 e,p.hi,p.cf,p.ph,p.pg,λb hb=>⟨(p.pP b hb).1,by have:=(p.pP b hb).2;have:=e.1;omega⟩,p.mb1,p.am1,p.ne,e.blk p.b id,e.mapL p.m id,p.g0⟩
theorem MP.out (p:MP σ0 σ L H held s0 P mb am x)(e:Ext T σ w)(hT:∀b,b<σ.size->T b->¬P b/\b≠mb/\b≠am/\σ0.size<=b):MP σ0 w L H held s0 P mb am x:=by
 have hz:=e.1;have hb:=p.b.lt;have hm:=p.m.lt;have e':Ext (λb=>T b/\b<σ.size) σ w:=⟨e.1,λb hb hf=>e.2 b hb λht=>hf ⟨ht,hb⟩⟩;refine⟨Ext.newT p.e e' λb hb=>.inr (hT b hb.2 hb.1).2.2.2,p.h.keep e' (λb hb hp ht=>(hT b hb ht.1).1 hp) (λb hb=>?_) (λhb=>?_),p.hi,p.cf,p.ph,p.pg,λb hb=>⟨(p.pP b hb).1,by have:=(p.pP b hb).2;omega⟩,p.mb1,p.am1,p.ne,e.blk p.b λht=>(hT mb hb ht).2.1 rfl,e.mapL p.m λht=>(hT am hm ht).2.2.1 rfl,p.g0⟩
 ·exact p.g0.1 b (hT b hb.2 hb.1).2.2.2
 ·exact p.g0.2 (hT _ hb.2 hb.1).2.2.2
theorem MP.step (p:MP σ0 σ L H held s0 P mb am x){ts':List LayT}(e:Ext P σ w)(h':HH w (Grow P σ) {L with ts:=ts'} H'){held':List Pc}{s0':Sp}(hi':HI H' held' s0')(k:ZW H' H)(ph':∀g∈H'.ths,g.ph=none) :
 MP σ0 w {L with ts:=ts'} H' held' s0' (Cut (Grow P σ) w) mb am x:=by
 have hz:=e.1;have hb:=p.b.lt;have hm:=p.m.lt;have hn:∀b,b<σ.size->¬P b->¬Cut (Grow P σ) w b:=λb h1 h2 hx=>by
  rcases hx.1 with h3|h3
  ·exact h2 h3
  ·omega
 refine⟨Ext.newT p.e e λb hb=>.inr (p.pP b hb).1,h'.cut,hi',p.cf.keep k,ph',by rw[k.2.1];exact p.pg,λb hb=>⟨?_,hb.2⟩,⟨p.mb1.1,hn mb hb p.mb1.2⟩,⟨p.am1.1,hn am hm p.am1.2⟩,p.ne,e.blk p.b p.mb1.2,e.mapL p.m p.am1.2,p.g0⟩;have:=p.e.1;rcases hb.1 with h1|h1
 ·exact(p.pP b h1).1
 ·omega
theorem MP.upd (p:MP σ0 σ L H held s0 P mb am x)(e:Ext (λb=>b=mb\/b=am) σ w)(hb:Blk w mb (meV L.p am y))(hm:MapL w am .i64 (.i .i64) y.asked):MP σ0 w L H held s0 P mb am y:=by
 have hz:=e.1;have h1:∀b,(b=mb\/b=am)->σ0.size<=b/\¬P b:=λb hb=>by
  rcases hb with rfl|rfl
  ·exact p.mb1
  ·exact p.am1
 exact⟨Ext.newT p.e e λb hb=>.inr (h1 b hb).1,p.h.keep e (λb _ hp ht=>(h1 b ht).2 hp) (λb hb=>p.g0.1 b (h1 b hb).1) (λhb=>p.g0.2 (h1 _ hb).1),p.hi,p.cf,p.ph,p.pg,λb hb=>⟨(p.pP b hb).1,by have:=(p.pP b hb).2;omega⟩,p.mb1,p.am1,p.ne,hb,hm,p.g0⟩
theorem MP.st (p:MP σ0 σ L H held s0 P mb am x){i:Nat}{u:Value}(hi:i<8)(y:Me)(he:(meV L.p am x).set i u=meV L.p am y)(ha:y.asked=x.asked){K:Hp->Prop}(hK:∀w,Ext (λb=>b=mb\/b=am) σ w->MP σ0 w L H held s0 P mb am y->K w):St1 (Addr.add ⟨mb,0,none⟩ i) u σ K:=by
 refine p.b.s1 (by simp[meV];omega) λw o b=>?_;have e:Ext (λb=>b=mb\/b=am) σ w:=o.ext.sub λb hb=>.inl hb;rw[zG,he]at b;exact hK w e (p.upd e b (by rw[ha];exact o.ext.mapL p.m λ(hx:am=mb)=>p.ne hx.symm))
theorem MP.hands (p:MP σ0 σ L H held s0 P mb am x):∀g∈H.ths,g.hands=[]:=λg hg=>by
 have h1:=(p.hi.th g hg).ph;unfold PhI at h1;rw[p.ph g hg]at h1;exact h1
theorem WaQ (p:MP σ0 σ L H held s0 P mb am x){R:Bool->Hp->Prop}(hR:R true σ):Wr.c (some ⟨mb,0,none⟩) σ R:=by
 refine Wr.o ?_;unfold Wr.v;exact JnB.intro (ifT rfl (nilP (p.b.rP rfl hR)))
theorem We7 (p:MP σ0 σ L H held s0 P mb am x)(mi:MeI x)(a:Int){R:Hp->Prop}(hR:∀w,Ext (λb=>b=mb\/b=am) σ w->MP σ0 w L H held s0 P mb am (x.forget a)->R w):Xk.c (some ⟨mb,0,none⟩) a σ R:=by
 refine Xk.o ?_;unfold Xk.v;have hs:=mi.sum_le;have hv:0<=(mget x.asked a).getD 0/\(mget x.asked a).getD 0<=16384:=by
  cases hm:mget x.asked a with
  | none=>exact⟨zCM _,by decide⟩
  | some z=>exact mi.v _ (KH hm)
 refine nilP (p.b.rI rfl (nilP (p.b.rM rfl ⟨x.asked,p.m,ar (by omega) (by omega) (nilP ?_)⟩)));refine p.st (by omega) {x with sum:=x.sum-(mget x.asked a).getD 0} rfl rfl λw1 e1 p1=>nilP (p1.b.rM rfl ⟨x.asked,p1.m,λw2 o2 _ m2=>?_⟩);have o2:=o2 am rfl;have e2:Ext (λb=>b=mb\/b=am) w1 w2:=o2.ext.sub λb hb=>.inr hb;exact hR w2 (e1.trans e2) (p1.upd e2 (o2.ext.blk p1.b λ(hx:mb=am)=>p.ne hx) m2)
set_option maxRecDepth 8000 in
theorem WgZ (p:MP σ0 σ L H held s0 P mb am x)(hc:x.calls<=899)(e:Int)(mal:Bool){R:Hp->Prop}(hR:∀w,Ext (λb=>b=mb\/b=am) σ w->MP σ0 w L H held s0 P mb am ((x.count e mal).tops (H.sp.st.count 2:Nat))->R w) :
 Xx.c (some ⟨mb,0,none⟩) e (some (Addr.add ⟨mb,0,none⟩ (if mal then 5 else 6))) σ R:=by
 refine Xx.o ?_;unfold Xx.v;unfold Me.calls at hc;refine Wax (λw=>Ext (λb=>b=mb\/b=am) σ w/\MP σ0 w L H held s0 P mb am (x.count e mal)) (λw ⟨e1,p1⟩=>?_) λJ hJ=>?_
 ·generalize hy:x.count e mal=y at p1;have hys:y.sum=x.sum/\y.peak=x.peak/\y.dirty=x.dirty:=by subst hy;unfold Me.count;split<;>(try split)<;>exact⟨rfl,rfl,rfl⟩
  refine nilP (p1.b.rI rfl (nilP (p1.b.rI rfl (nilP (p1.st (by omega) {y with peak:=if y.sum>y.peak then y.sum else y.peak} rfl rfl λw2 e2 p2=>?_)))))
  refine⟨λm=>Ext0 w2 m,Ext.refl _ _,nilP (Blk.rH (c:=.i .i64) (y:=y.dirty) p2.b rfl (nilP (Blk.rH (c:=.p) (y:=some ⟨L.p,0,none⟩) p2.b rfl (WbY p2.h p2.hi p2.hands λw3 e3 _=>⟨e3,?_⟩))))⟩;have p3:=p2.fr e3;have hct:H.sp.st.count 2<=128:=by
   have h1:=zFZ (a:=2) (l:=H.sp.st);have h2:=p.hi.sl;have h3:=p.pg;omega
  refine ar (by omega) (by omega) (nilP (p3.st (by omega) (y.tops (H.sp.st.count 2:Nat)) rfl rfl λw4 e4 p4=>?_));exact hR w4 (((e1.trans e2).trans (Ext0.to e3)).trans e4) (by rw[hy];exact p4)
 ·refine ifD (λh0=>?_) λh0=>?_
  ·have h0':e=0:=by simpa using h0
   subst h0';cases mal with
   | true=>exact nilP (p.b.rI rfl (arN (m:=x.mallocs+1) (by simp) (by omega) (nilP (p.st (i:=5) (by omega) {x with mallocs:=x.mallocs+1} rfl rfl λw1 e1 p1=>hJ w1 ⟨e1,p1⟩))))
   | false=>exact nilP (p.b.rI rfl (arN (m:=x.frees+1) (by simp) (by omega) (nilP (p.st (i:=6) (by omega) {x with frees:=x.frees+1} rfl rfl λw1 e1 p1=>hJ w1 ⟨e1,p1⟩))))
  ·have h0':e≠0:=by simpa using h0
   refine nilP (p.b.rI rfl (arN (m:=x.fails+1) (by simp) (by omega) (nilP (p.st (by omega) {x with fails:=x.fails+1} rfl rfl λw1 e1 p1=>hJ w1 ⟨e1,?_⟩))));have:x.count e mal = {x with fails:=x.fails+1}:=by unfold Me.count;exact zA h0'
   rw[this];exact p1
theorem OpOk.rest (o:OpOk H H')(h:∀g∈H.ths,g.ph=none):∀g∈H'.ths,g.ph=none:=λg hg=>by
 obtain⟨j,hj⟩:=zM hg;have h1:=o.ph j;unfold phAt at h1;rw[hj]at h1;simp only[zET]at h1;rw[h1];cases hk:H.ths[j]? with
 | none=>rfl
 | some g'=>exact h g' (zE hk)
def Me.mal (x:Me)(a size e:Int)(D:Nat):Me:=((if e=0 then(x.forget a).add a size else x).count e true).tops (D:Int)
def Md (P:Rg)(mb am:Nat):Rg:=λb=>P b\/b=mb\/b=am
set_option maxRecDepth 8000 in
theorem Wd3 (p:MP σ0 σ L H held s0 P mb am x)(mi:MeI x)(hc:x.calls<=899)(thread size align:Int){R:Int->Int->Hp->Prop}
 (hR:∀a e w ts H' held' s0' P',Ext (Md P mb am) σ w->MP σ0 w {L with ts:=ts} H' held' s0' P' mb am (x.mal a size e (H'.sp.st.count 2))->(∀b,P' b->P b\/σ.size<=b)->ZW H' H->MalE H size align H' a e->H6 H thread 0 size align 0 H' a e->R a e w) :
 WK.c (some ⟨mb,0,none⟩) thread size align σ R:=by
 refine WK.o ?_;unfold WK.v;refine WaQ p (ifF rfl (nilP (p.b.rP rfl ?_)));obtain⟨H',a,er,hw,o,me⟩:=Wgw p.hi thread size align;refine Wes Wlx p.h p.cf.2.2 hw λv1 ts1 e1 h1=>?_;obtain⟨held',s0',hi'⟩:=o.hi;have p1:=p.step e1 h1 hi' o.kp (o.rest p.ph);have hin:∀b,Cut (Grow P σ) v1 b->P b\/σ.size<=b:=λb hb=>hb.1;have e1':Ext (Md P mb am) σ v1:=e1.sub λb hb=>.inl hb;have up:∀{u u':Hp},Ext (λb=>b=mb\/b=am) u u'->Ext (Md P mb am) u u':=λe=>e.sub λb hb=>.inr hb;refine Wax (λw=>Ext (Md P mb am) σ w/\MP σ0 w {L with ts:=ts1} H' held' s0' (Cut (Grow P σ) v1) mb am (if er=0 then(x.forget a).add a size else x)) (λw ⟨e2,p2⟩=>?_) λJ hJ=>?_
 ·refine nilP (WgZ p2 ?_ er true λw3 e3 p3=>hR a er w3 ts1 H' held' s0' _ (e2.trans (up e3)) p3 hin o.kp me hw);split<;>exact hc
 ·refine ifD (λh0=>?_) λh0=>?_
  ·have h0':er=0:=by simpa using h0
   have hsz:1<=size/\size<=16384:=by
    rcases me with⟨h1,_⟩|⟨_,_,h2,_⟩
    ·exact absurd h0' h1
    ·exact⟨h2.1,h2.2.1⟩
   rw[zB h0']at hJ;have hs:=mi.sum_le;have hv:0<=(mget x.asked a).getD 0/\(mget x.asked a).getD 0<=16384:=by
    cases hm:mget x.asked a with
    | none=>exact⟨zCM _,by decide⟩
    | some z=>exact mi.v _ (KH hm)
   refine We7 p1 mi a λw2 e2 p2=>nilP (p2.b.rM rfl ⟨am,_,rfl,p2.m,λw3 o3 m3=>?_⟩);have e3:Ext (λb=>b=mb\/b=am) w2 w3:=o3.ext.sub λb hb=>.inr hb;have p3:MP σ0 w3 {L with ts:=ts1} H' held' s0' (Cut (Grow P σ) v1) mb am ⟨mset (mdel x.asked a) a size,x.sum-(mget x.asked a).getD 0,x.peak,x.dirty,x.mallocs,x.frees,x.fails⟩:=p2.upd e3 (o3.ext.blk p2.b λ(hx:mb=am)=>p.ne hx) m3;have hfs:(x.forget a).sum=x.sum-(mget x.asked a).getD 0:=rfl;refine nilP (p3.b.rI rfl (ar (by simp only;omega) (by simp only;omega) (nilP (p3.st (by omega) ((x.forget a).add a size) rfl rfl λw4 e4 p4=>hJ w4 ⟨((e1'.trans (up e2)).trans (up e3)).trans (up e4),p4⟩))))
  ·have h0':er≠0:=by simpa using h0
   rw[zA h0']at hJ;exact hJ v1 ⟨e1',p1⟩
end Go.Ar
namespace Go.Ar
open Go Go.Vc Go.Proofs
open Go.Vc (mget mset mdel)
open Go.Bu (cnt)
variable {σ σ0 v w w':Hp}{F P Q X T:Rg}{L:LayH}{H H':Hw}{held:List Pc}{s0:Sp}{t n:Nat}{g:Th}{mb am m:Nat}{x y:Me}
theorem WhH {s:Sl}{bs:List Bk}(hs:SlR s 4 (bksV bs) σ F)(hl:bs.length<=1000000)(hb:∀b∈bs,0<=b.2.1/\b.2.1<=270000){R:Int->Hp->Prop}(hR:∀σ',Ext0 σ σ'->R ((bs.map λb=>b.2.1).sum) σ') :
 WY.c s ⟨60,#[],#[]⟩ σ R:=by
 refine WY.o ?_;unfold WY.v;have hsl:s.len=bs.length:=by have:=hs.1;rw[UZ]at this;omega
 refine Kr (a:=.i .i64) (bb:=.i .i64) (λ(sum i:Int) w=>∃k:Nat,i=k/\k<=bs.length/\Ext0 σ w/\sum=((bs.take k).map λb=>b.2.1).sum) (λ_ i _=>bs.length-i.toNat) ⟨0,rfl,by omega,Ext.refl _ _,by simp⟩ ?_;rintro(sum:Int) (i:Int) w ⟨k,rfl,hk,e,rfl⟩;refine ifD (λhlt=>?_) λhge=>?_
 ·have hk':k<bs.length:=by omega
  have hg:bs[k]?=some bs[k]:=gGe _;generalize bs[k]=b at hg;have hb1:=hb b (zE hg);have hsum:=Ui (l:=bs.take k) (f:=λb:Bk=>b.2.1) (c:=270000) λb h=>hb b (zBP h);have hlk:(bs.take k).length=k:=by rw[zX];omega
  rw[hlk]at hsum;have hnext:((bs.take (k+1)).map λb:Bk=>b.2.1).sum=((bs.take k).map λb:Bk=>b.2.1).sum+b.2.1:=by rw[zq,hg];simp
  refine WkK ((SlR.loc _ _ _).keep0 ((SlR.loc _ _ _).cut hs) e) hg λbb o hc=>ldI0 (hc 0 _ rfl) (ldI0 (hc 1 _ rfl) (ldI0 (hc 2 _ rfl) (ldI0 (hc 3 _ rfl) ?_)));refine nw (cs:=[.int .i64 0,.int .i64 0,.int .i64 0,.int .i64 0]) λv2 hz2 e2 b2=>b2.s1 (by simp) λv3 o3 b3=>b3.s1 (by simp) λv4 o4 b4=>b4.s1 (by simp) λv5 o5 b5=>b5.s1 (by simp) λv6 o6 b6=>?_;have e6:Ext0 w v6:=Ext.fresh (Ext.fresh (Ext.fresh (Ext.fresh e2 o3.ext λi hi=>by omega) o4.ext λi hi=>by omega) o5.ext λi hi=>by omega) o6.ext λi hi=>by omega
  refine b6.rI rfl (b6.rI rfl (b6.rI rfl (b6.rI rfl ?_)));refine Wa4 (all := #[.agg #[.int .i64 b.1,.int .i64 b.2.1,.int .i64 b.2.2.1,.int .i64 b.2.2.2]]) (by kernel_rfl) (by simp) ?_;refine Xo.o ?_;unfold Xo.v;refine nw (cs:=[.int .i64 b.1,.int .i64 b.2.1,.int .i64 b.2.2.1,.int .i64 b.2.2.2]) λv7 hz7 e7 b7=>b7.rI rfl (ar (by omega) (by omega) (arN (m:=k+1) (by omega) (by omega) ⟨⟨k+1,rfl,by omega,(e.trans e6).trans e7,hnext.symm⟩,by omega⟩))
 ·have:k=bs.length:=by omega
  subst this;rw[zAA];exact hR w e
def WcX (l:List (Int×Bk)):Int:=(l.map λe=>e.2.2.1).sum
theorem WgL (hi:HI H held s0){bs:List Bk}(hl:LiveL H.live bs):(bs.map λb=>(b.1,b)).Perm H.live:=by
 have h1:(bs.map λb=>(b.1,b)).Nodup:=zBY.2 (hl.srt.imp λ{a b} h e=>by have:=congrArg Prod.fst e;simp only at this;omega);have h2:H.live.Nodup:=by
  have:=zBY.1 hi.lk;exact this.imp λ{a b} h e=>h (by rw[e])
 rw[zED h1 h2];intro e;rw[zD];constructor
 ·rintro⟨b,hb,rfl⟩;exact(hl.mem b).1 hb
 ·intro he;have h3:=(hi.lv e he).1;exact⟨e.2,(hl.mem e.2).2 (by rw[h3];exact he),by rw[h3]⟩
theorem WlI {l l':List Int}(h:l.Perm l'):l.sum=l'.sum:=by
 induction h with
 | nil=>rfl
 | cons a _ ih=>simp only[zo];omega
 | swap a b l=>simp only[zo];omega
 | trans _ _ h1 h2=>omega
theorem Whx (hi:HI H held s0){bs:List Bk}(hl:LiveL H.live bs):(bs.map λb=>b.2.1).sum=WcX H.live:=by
 have h1:=WlI ((WgL hi hl).map λe=>e.2.2.1);rw[zAI]at h1;exact h1
def Wdw (H:Hw):Nat:=KQ H+Kb KW H+Kb HF H
def VL:List Value:=[.int .i64 0,.int .i64 0,.int .i64 0,.int .i64 0,.int .i64 0,.int .i64 0,.int .i64 0,.int .i64 0,.int .i64 0,.int .i64 0]
set_option maxRecDepth 16000 in
theorem WdZ (p:MP σ0 σ L H held s0 P mb am x){R:Int->Int->Int->Int->Int->Int->Int->Int->Int->Int->Hp->Prop}
 (hR:∀w,Ext0 σ w->StOk H->R x.sum (WcX H.live) (Wdw H:Nat) (Kb Vl H:Nat) (Kb Km H*256:Nat) x.peak x.dirty (x.mallocs:Nat) (x.frees:Nat) (x.fails:Nat) w):WA.c (some ⟨mb,0,none⟩) σ R:=by
 refine WA.o ?_;unfold WA.v;refine nw (cs:=VL) λv hz e hb=>WaQ (p.fr e) (ifF rfl (nilP ((p.fr e).b.rP rfl (WbY (p.fr e).h p.hi p.hands λv12 e12 so=>?_))));refine nw (cs:=KN) λv13 hz13 e13 b13=>st11 b13 _ _ _ _ _ _ _ _ _ _ _ λv24 e24 b24=>?_;have e24':Ext0 v12 v24:=Ext.fresh e13 e24 λi (hi:i=v12.size)=>by omega
 have ev:Ext0 v v24:=e12.trans e24';have p24:=(p.fr e).fr ev;obtain⟨so1,so2,so3,so4,so5,so6,so7⟩:=so;refine⟨λm=>Ext0 v24 m,Ext.refl _ _,nilP (Blk.rH (c:=.i .i64) (y:=x.sum) p24.b rfl (nilP (Blk.rH (c:=.p) (y:=some ⟨L.p,0,none⟩) p24.b rfl (Blk.rH (c:=.i .i64) (y:=(KQ H:Nat)) b24 rfl (Blk.rH (c:=.i .i64) (y:=0) b24 rfl (arN (m:=KQ H) (by omega) (by omega) ?_))))))⟩;refine Blk.rH (c:=.i .i64) (y:=(Kb KW H:Nat)) b24 rfl (arN (m:=KQ H+Kb KW H) (by omega) (by omega) (Blk.rH (c:=.i .i64) (y:=(Kb HF H:Nat)) b24 rfl (arN (m:=Wdw H) (by unfold Wdw;omega) (by unfold Wdw;omega) ?_)));refine Blk.rH (c:=.i .i64) (y:=(Kb Vl H:Nat)) b24 rfl (Blk.rH (c:=.i .i64) (y:=(Kb Km H:Nat)) b24 rfl (arN (m:=Kb Km H*256) (by omega) (by omega) ?_));refine nilP (Blk.rH (c:=.i .i64) (y:=x.peak) p24.b rfl (nilP (Blk.rH (c:=.i .i64) (y:=x.dirty) p24.b rfl (nilP (Blk.rH (c:=.i .i64) (y:=(x.mallocs:Int)) p24.b rfl (nilP (Blk.rH (c:=.i .i64) (y:=(x.frees:Int)) p24.b rfl (nilP (Blk.rH (c:=.i .i64) (y:=(x.fails:Int)) p24.b rfl ?_)))))))));refine Wdy p24.h p.hi λs v25 bs e25 hl hrow=>⟨e25,?_⟩;refine WhH (RowR.slR hrow) (by rw[hl.len];exact p.hi.live_len) (λb hb=>?_) λv26 e26=>⟨e25.trans e26,?_⟩
 ·have:=p.hi.size8 ((hl.mem b).1 hb);simp only at this;omega
 rw[Whx p.hi hl];have b26:Blk v26 σ.size VL:=((ev.trans e25).trans e26).blk hb id;unfold VL at b26;refine b26.s1 (by simp) λv1 o1 b1=>b1.s1 (by simp) λv2 o2 b2=>b2.s1 (by simp) λv3 o3 b3=>b3.s1 (by simp) λv4 o4 b4=>b4.s1 (by simp) λv5 o5 b5=>b5.s1 (by simp) λv6 o6 b6=>b6.s1 (by simp) λv7 o7 b7=>b7.s1 (by simp) λv8 o8 b8=>b8.s1 (by simp) λv9 o9 b9=>b9.s1 (by simp) λv10 o10 b10=>?_;refine b10.rI rfl (b10.rI rfl (b10.rI rfl (b10.rI rfl (b10.rI rfl (b10.rI rfl (b10.rI rfl (b10.rI rfl (b10.rI rfl (b10.rI rfl (hR v10 ?_ ⟨so1,so2,so3,so4,so5,so6,so7⟩))))))))));have eo:Ext (· = σ.size) v26 v10:=((((((((o1.ext.trans o2.ext).trans o3.ext).trans o4.ext).trans o5.ext).trans o6.ext).trans o7.ext).trans o8.ext).trans o9.ext).trans o10.ext;exact Ext.fresh (((e.trans ev).trans e25).trans e26) eo λi (hi:i=σ.size)=>by omega
theorem Whs (h:HH σ F L H)(hp:1<=H.cf.pages){R:Bool->Hp->Prop}(hR:∀σ',Ext0 σ σ'->R true σ'):Zd.c (some ⟨L.p,0,none⟩) σ R:=by
 refine Zd.o ?_;unfold Zd.v;refine JnB.intro (ifT rfl (Wel h λw e=>?_));have:decide ((H.cf.pages:Int)>0)=true:=zV (by omega);rw[this];exact hR w e
theorem Wja (e0:Ext0 σ0 σ)(h:HH σ P L H)(hi:HI H held s0)(hc:CfOk H)(hph:∀g∈H.ths,g.ph=none)(hpg:H.cf.pages<=128)(hP:∀b,P b->σ0.size<=b/\b<σ.size)(hg:Off (λb=>σ0.size<=b)/\¬σ0.size<=1){R:Option Addr->Int->Hp->Prop}
 (hR:∀w mb am,Ext0 σ w->σ.size<=mb->σ.size<=am->MP σ0 w L H held s0 P mb am me0->R (some ⟨mb,0,none⟩) 0 w):ZC.c (some ⟨L.p,0,none⟩) σ R:=by
 refine ZC.o ?_;unfold ZC.v;refine Whs h hc.1 λv e=>ifF rfl (WcJ λv1 hz1 e1 m1=>nw (cs:=meV L.p v.size me0) λv2 hz2 e2 b2=>?_);have hz:=e.1;have hs:=e0.1;have e02:=(e.trans e1).trans e2;refine hR v2 v1.size v.size e02 (by omega) hz ⟨e0.trans e02,h.keep0 e02,hi,hc,hph,hpg,λb hb=>⟨(hP b hb).1,by have:=(hP b hb).2;omega⟩,⟨by omega,λhb=>by have:=(hP _ hb).2;omega⟩,⟨by omega,λhb=>by have:=(hP _ hb).2;omega⟩,by omega,b2,e2.mapL (m1 _ _) id,hg⟩
end Go.Ar
namespace Go.Ar
open Go Go.Vc Go.Proofs
variable {σ v w:Hp}{s:Sl}{xs:List (Int×Int×Int)}
def WiM (c:Cls)(size:Int):Int:=(c.size:Int)-size+(((c.tail+c.n-1)/c.n:Nat):Int)
def G6 (xs:List (Int×Int×Int))(size align:Int):Int×Int:=if ZG xs then(if size<=16384/\QV size align=true then(match clsV (xs.map Zi) size align with
 | some k=>WiM ((xs.map Zi).getD k ⟨8,1,1⟩) size
 | none=>Wbr size-size,0)else(0,1))else(0,2)
theorem Wiq (ha:Acts σ s xs){i:Nat}{x y z:Int}(hx:xs[i]?=some (x,y,z)){K:Int->Prop}(hK:K x):Ix s.a s.len (i:Int) 3 λa=>LdI .i64 (a.add 0) σ K:=by
 have hi:=(gSi.1 hx).1;obtain⟨hl,h⟩:=ha;obtain⟨b,o,h1,_,h2,_⟩:=h i x y z hx;rw[h1];refine ix (by omega) (by omega) (ldI ?_ hK);rw[add_lit,add_lit];simpa using h2
theorem WeI {c:Cls}(hc:c.ok):c.tail<=1024/\1<=c.n/\c.n<=128/\(c.tail+c.n-1)/c.n<=1200:=by
 have h1:=hc.n_pos;have h2:=hc.n_le;have h3:c.tail<=1024:=by unfold Cls.tail;have:=hc.2.2.2.2.1;omega
 exact⟨h3,h1,h2,zc (Nat.div_le_self _ _) (by omega)⟩
set_option maxRecDepth 8000 in
theorem Wg2 (ha:Acts σ s xs)(size align:Int){R:Int->Int->Hp->Prop}(hR:∀σ',Ext0 σ σ'->R (G6 xs size align).1 (G6 xs size align).2 σ'):Zy.c s size align σ R:=by
 refine Zy.o ?_;unfold Zy.v;refine V4 ha λv e=>?_;have ha1:=Yc ha e;cases hv:ZG xs with
 | false=>
  have:=hR v e;unfold G6 at this;rw[hv]at this;exact ifT rfl this
 | true=>
  refine ifF rfl ?_;have fin:∀r,r = !decide (size<=16384/\QV size align=true)->(r=true->R 0 1 v)/\(r=false->size<=16384/\QV size align=true):=by
   intro r hr;refine⟨λh=>?_,λh=>?_⟩
   ·have hn:¬(size<=16384/\QV size align=true):=by rw[hr,zAN,decide_eq_false_iff_not]at h;exact h
    have:=hR v e;unfold G6 at this;rw[hv,zB rfl,zA hn]at this;exact this
   ·rw[hr]at h;simpa using h
  refine Uo (λr w=>v=w/\r=decide (size<1\/16384<size)) (λr w ⟨hw,hr⟩=>?_) λJ hJ=>ifD (λh=>hJ _ _ ⟨rfl,(zV (.inl h)).symm⟩) λh=>hJ _ _ ⟨rfl,by rw[decide_eq_decide];omega⟩;subst hw;refine Uo (λr w'=>v=w'/\r=decide (size<1\/16384<size\/align<1)) (λr w' ⟨hw,hr⟩=>?_) λJ hJ=>iff_ (λh=>hJ _ _ ⟨rfl,by rw[hr]at h;have:=zCC h;exact(zV (by omega)).symm⟩) λh=>hJ _ _ ⟨rfl,by rw[hr]at h;have:=zCY h;rw[decide_eq_decide];omega⟩;subst hw;refine Uo (λr w'=>v=w'/\r=decide (size<1\/16384<size\/align<1\/256<align)) (λr w' ⟨hw,hr⟩=>?_) λJ hJ=>iff_ (λh=>hJ _ _ ⟨rfl,by rw[hr]at h;have:=zCC h;exact(zV (by omega)).symm⟩) λh=>hJ _ _ ⟨rfl,by rw[hr]at h;have:=zCY h;rw[decide_eq_decide];omega⟩;subst hw;refine Uo (λr w'=>v=w'/\r = !decide (size<=16384/\QV size align=true)) (λr w' ⟨hw,hr⟩=>?_) λJ hJ=>iff_ (λh=>hJ _ _ ⟨rfl,?_⟩) λh=>?_
  ·subst hw;obtain⟨f1,f2⟩:=fin r hr;refine iff_ f1 λh0=>?_;obtain⟨hs,hok⟩:=f2 h0;have hsz:1<=size:=by simp only[QV,zF,zO]at hok;exact hok.1
   refine Wdk ha1 hv size align λv6 e6=>?_;have hR6:=λv7 (e7:Ext0 v6 v7)=>hR v7 ((e.trans e6).trans e7);unfold G6 at hR6;rw[hv,zB rfl,zB ⟨hs,hok⟩]at hR6;rw[hok];cases hcl:clsV (xs.map Zi) size align with
   | none=>
    rw[hcl]at hR6;refine ifT rfl (ar (by omega) (by omega) (ar (by omega) (by omega) (nz (by decide) (ar (by rw[YS (by omega)];omega) (by rw[YS (by omega)];omega) ?_))));rw[YS (by omega)];refine ar (by omega) (by omega) (ar (by omega) (by omega) ?_);have h7:=hR6 v6 (Ext.refl _ _);simp only[Wbr]at h7;rw[show size+256-1=size+255 by omega];exact h7
   | some k=>
    rw[hcl]at hR6;have hk:k<(xs.map Zi).length:=(zGI.1 hcl).1;have hck:(xs.map Zi)[k]?=some (xs.map Zi)[k]:=gGe hk;generalize (xs.map Zi)[k]=c at hck;have hcd:(xs.map Zi).getD k ⟨8,1,1⟩=c:=by rw[zN,hck];rfl
    simp only[hcd]at hR6;obtain⟨hx,hco⟩:=Vv ha1 hv hck;obtain⟨b1,b2,b3,b4⟩:=WeI hco;have ha6:=Yc ha1 e6;have hcs:=hco.2.1;refine ifF rfl ?_;simp only[zQ,zCI];refine VT ha6 hx (Vu _ _ _ (λc' hc' h1 h2 h3 v7 e7=>?_) λhbad=>?_)
    ·have hcc:c'=c:=by
      cases c';cases c;simp only[Cls.mk.injEq]at *;omega
     subst hcc;obtain⟨q,hq⟩:∃q,(c'.tail+c'.n-1)/c'.n=q:=⟨_,rfl⟩;rw[hq]at b4;unfold WiM at hR6;rw[hq]at hR6;have ha7:=Yc ha6 e7;refine VT ha7 hx (WfF hco λv8 e8=>?_);refine Wiq (Yc ha7 e8) hx (ar (by omega) (by omega) (arN (m:=c'.tail+c'.n) (by omega) (by omega) (arN (m:=c'.tail+c'.n-1) (by omega) (by omega) (nz (by omega) (arN (m:=q) ?_ (by omega) (ar (by omega) (by omega) ?_))))))
     ·rw[YS (by omega),←hq];exact(Int.natCast_ediv _ _).symm
     ·exact hR6 v8 (e7.trans e8)
    ·rw[(Vm c).2 hco]at hbad;cases hbad
  ·rw[hr]at h;have h1:=zCC h;have:¬(size<=16384/\QV size align=true):=λ⟨h2,h3⟩=>by
    simp only[QV,zF,zO]at h3;omega
   rw[zh this];rfl
  ·rw[hr]at h;have h1:=zCY h;refine ar (by omega) (by omega) (hJ _ _ ⟨rfl,?_⟩);rw[Wis (by omega) (by omega)]
   congr 1
   rw[zBG,zO];simp only[QV,zF,zO];exact⟨λh=>⟨by omega,by omega,by omega,by omega,h⟩,λh=>h.2.2.2.2⟩
end Go.Ar
namespace Go.Ar
open Go Go.Vc Go.Proofs
open Go.Vc (mget mset mdel)
variable {σ σ0 v w w':Hp}{F P Q X T:Rg}{L:LayH}{H H':Hw}{held:List Pc}{s0:Sp}{t n:Nat}{g:Th}{mb am m:Nat}{x y:Me}{s:Sl}{xs:List (Int×Int×Int)}{bs:List Bk}
abbrev U6:=Int×Int×Int×Int×Int×Int
def uS (f:Bk->Int)(bs:List Bk)(c:Int):Int:=(bs.map λb=>if b.2.2.1=c then f b else 0).sum
def one (_:Bk):Int:=1
def bsz (b:Bk):Int:=b.2.1
def bas (asked:List (Int×Int))(b:Bk):Int:=(mget asked b.1).getD 0
theorem Wci {f:Bk->Int}{i:Nat}{b:Bk}(h:bs[i]?=some b)(c:Int):uS f (bs.take (i+1)) c=uS f (bs.take i) c+(if b.2.2.1=c then f b else 0):=by
 unfold uS;rw[zq,h];simp
theorem WdY {f:Bk->Int}{k:Int}(hk:0<=k)(h:∀b∈bs,0<=f b/\f b<=k)(c:Int):0<=uS f bs c/\uS f bs c<=bs.length*k:=by
 refine Ui (f:=λb:Bk=>if b.2.2.1=c then f b else 0) λb hb=>?_
 have:=h b hb;split<;>omega
theorem Wcl {f:Bk->Int}{c:Int}:∀{bs:List Bk},uS one bs c=0->uS f bs c=0
 | [],_=>rfl
 | b::bs,h=>by
  have hp:=(WdY (f:=one) (bs:=bs) (k:=1) (by omega) (λb _=>⟨by unfold one;omega,by unfold one;omega⟩) c).1;have h1:uS one (b::bs) c=(if b.2.2.1=c then 1 else 0)+uS one bs c:=rfl
  have h2:uS f (b::bs) c=(if b.2.2.1=c then f b else 0)+uS f bs c:=rfl
  rw[h1]at h;by_cases hc:b.2.2.1=c
  ·rw[zB hc]at h;omega
  ·rw[zA hc]at h h2;rw[h2,Wcl (by omega)];omega
def uEnt (asked:List (Int×Int))(bs:List Bk)(c:Int):U6:=(c,0,uS one bs c,uS bsz bs c,uS (bas asked) bs c,0)
def UOk (U:List (Int×U6))(asked:List (Int×Int))(bs:List Bk):Prop:=∀c,mget U c=if uS one bs c=0 then none else some (uEnt asked bs c)
theorem UOk.q {U:List (Int×U6)}{asked:List (Int×Int)}(h:UOk U asked bs)(c:Int):∃a,(mget U c).getD (0,0,0,0,0,0)=(a,0,uS one bs c,uS bsz bs c,uS (bas asked) bs c,0):=by
 rw[h c];split
 ·rename_i h0;exact⟨0,by rw[h0,Wcl h0,Wcl h0];rfl⟩
 ·exact⟨c,rfl⟩
def usSz (tb:List Cls)(j:Nat):Int:=if j=0 then 0 else((tb.getD (j-1) ⟨8,1,1⟩).size:Int)
def usSp (tb:List Cls)(j:Nat)(l:Int):Int:=if j=0 then 0 else(l+((tb.getD (j-1) ⟨8,1,1⟩).n:Int)-1)/((tb.getD (j-1) ⟨8,1,1⟩).n:Int)
def WbI (tb:List Cls)(asked:List (Int×Int))(bs:List Bk)(j:Nat):Option U6:=if uS one bs ((j:Int)-1)=0 then none else
 some ((j:Int)-1,usSz tb j,uS one bs ((j:Int)-1),uS bsz bs ((j:Int)-1),uS (bas asked) bs ((j:Int)-1),usSp tb j (uS one bs ((j:Int)-1)))
def usL (tb:List Cls)(asked:List (Int×Int))(bs:List Bk)(m:Nat):List U6:=(List.range m).filterMap (WbI tb asked bs)
def u6V (r:U6):List Value:=[.int .i64 r.1,.int .i64 r.2.1,.int .i64 r.2.2.1,.int .i64 r.2.2.2.1,.int .i64 r.2.2.2.2.1,.int .i64 r.2.2.2.2.2]
def usV (l:List U6):List Value:=l.flatMap u6V
theorem Whu (tb:List Cls)(asked:List (Int×Int))(bs:List Bk)(m:Nat):usL tb asked bs (m+1)=usL tb asked bs m++(WbI tb asked bs m).toList:=by
 unfold usL;rw[zAZ,zDG];cases h:WbI tb asked bs m<;>simp[h]
theorem WjN (tb:List Cls)(asked:List (Int×Int))(bs:List Bk)(m:Nat):(usL tb asked bs m).length<=m:=by
 have:=List.length_filterMap_le (WbI tb asked bs) (List.range m);rw[zCW]at this;exact this
theorem WcS (l:List U6):(usV l).length=l.length*6:=by
 unfold usV
 induction l with
 | nil=>rfl
 | cons b bs ih=>rw[zBK,zJ,ih];simp[u6V];omega
theorem WgJ (ha:Acts σ s xs){i:Nat}{x y z:Int}(hx:xs[i]?=some (x,y,z)){K:Int->Prop}(hK:K x):Ix s.a s.len (i:Int) 3 λa=>LdH (λm=>Ext0 σ m) (.i .i64) (a.add 0) K:=by
 have hi:=(gSi.1 hx).1;obtain⟨hl,h⟩:=ha;obtain⟨b,o,h1,_,h2,_⟩:=h i x y z hx;rw[h1];refine ix (by omega) (by omega) ⟨x,λm hm=>?_,hK⟩;have h2':cell σ ⟨b,o+(i:Int).toNat*3+0,none⟩=some (.int .i64 x):=by simpa using h2
 rw[add_lit,add_lit,Z5 hm (Z4 h2') id];exact h2'
theorem lkE {k:IntKind}{c:CK}{r:Nat}{l:List (Int×c.T)}{n:Int}{o:Option c.T}{K:Option c.T->Prop}(hm:MapL σ r k c l)(h:mget l n=o)(hK:K o):Lk k c (some r) n σ K:=⟨l,hm,by rw[h];exact hK⟩
def G8:List Value:=[.int .i64 0,.int .i64 0,.int .i64 0,.int .i64 0,.int .i64 0,.int .i64 0]
set_option maxRecDepth 16000 in
theorem Wh6 (p:MP σ0 σ L H held s0 P mb am x)(mi:MeI x){R:Sl->Hp->Prop}
 (hR:∀s w bs,Ext0 σ w->LiveL H.live bs->RowR s 6 (usV (usL H.tb x.asked bs (H.tb.length+1))) w (λb=>σ.size<=b)->R s w):W1.c (some ⟨mb,0,none⟩) σ R:=by
 refine W1.o ?_;unfold W1.v;refine WaQ p (ifF rfl (nilP (p.b.rP rfl (Wbk p.h p.h.tb40 λtab v1 e1 htab=>WcJ λv2 hz2 e2 m2=>nilP ?_))));have e12:=e1.trans e2;have p2:=p.fr e12;refine p2.b.rP rfl (Wdy p2.h p.hi λs v3 bs e3 hl hrow=>?_);have e03:=e12.trans e3;have p3:=p.fr e03;have m3:MapL v3 v1.size .i64 (.ag 6) []:=e3.mapL (m2 _ _) id;have hub:σ.size<=v1.size:=e1.1;have hsl:s.len=bs.length:=by have:=hrow.1;rw[UZ]at this;omega
 have hbl:bs.length<=1000000:=by rw[hl.len];exact p.hi.live_len
 have hb1:∀b∈bs,0<=bsz b/\bsz b<=270000:=λb hb=>by
  have:=p.hi.size8 ((hl.mem b).1 hb);unfold bsz;simp only at this;omega
 have hb2:∀b∈bs,0<=bas x.asked b/\bas x.asked b<=16384:=λb hb=>by
  unfold bas;cases hm:mget x.asked b.1 with
  | none=>exact⟨zCM _,by decide⟩
  | some z=>exact mi.v _ (KH hm)
 have hb0:∀b∈bs,0<=one b/\one b<=1:=λb hb=>⟨by unfold one;omega,by unfold one;omega⟩;have hacts:Acts v3 tab (H.tb.map clsT):=Yc (Hk htab) (e2.trans e3);have htl:tab.len=H.tb.length:=by have:=htab.1;rw[QI]at this;omega
 refine ZF (a:=.i .i64) (λ(i:Int) w=>∃(k:Nat) (U:List (Int×U6)),i=k/\k<=bs.length/\Ext (· = v1.size) v3 w/\MapL w v1.size .i64 (.ag 6) U/\UOk U x.asked (bs.take k)) (λi _=>bs.length-i.toNat) ⟨0,[],rfl,by omega,Ext.refl _ _,m3,λc=>rfl⟩ ?_;rintro(i:Int) w ⟨k,U,rfl,hk,e,hm,hU⟩;have pw:MP σ0 w L H held s0 P mb am x:=p3.out e λq _ (hq:q=v1.size)=>by
  have h1:=p.b.lt;have h2:=p.m.lt;have h3:=p.e.1;exact⟨λhP=>by have:=(p.pP q hP).2;omega,by omega,by omega,by omega⟩
 refine ifD (λhlt=>?_) λhge=>?_
 ·have hk':k<bs.length:=by omega
  have hg:bs[k]?=some bs[k]:=gGe _;generalize bs[k]=b at hg;have hbm:=zE hg;have q0:=hb0 b hbm;have q1:=hb1 b hbm;have q2:=hb2 b hbm;have hlk:(bs.take k).length=k:=by rw[zX];omega
  have l0:=WdY (bs:=bs.take k) (by omega) (λb h=>hb0 b (zBP h)) b.2.2.1;have l1:=WdY (bs:=bs.take k) (by omega) (λb h=>hb1 b (zBP h)) b.2.2.1;have l2:=WdY (bs:=bs.take k) (by omega) (λb h=>hb2 b (zBP h)) b.2.2.1;rw[hlk]at l0 l1 l2;have n0:=λc=>Wci (f:=one) hg c;have n1:=λc=>Wci (f:=bsz) hg c;have n2:=λc=>Wci (f:=bas x.asked) hg c;obtain⟨a0,hq⟩:=hU.q b.2.2.1;have hrw:SlR s 4 (bksV bs) w (λq=>v2.size<=q):=RowR.slR ((RowR.loc _ _ _).keep hrow e λq _ (h1:v2.size<=q) (h2:q=v1.size)=>by omega);refine WkK hrw hg λbb o hc=>ldI0 (hc 0 _ rfl) (ldI0 (hc 1 _ rfl) (ldI0 (hc 2 _ rfl) (ldI0 (hc 3 _ rfl) ?_)));refine nw (cs:=[.int .i64 0,.int .i64 0,.int .i64 0,.int .i64 0]) λu2 hz2 f2 c2=>c2.s1 (by simp) λu3 o3 c3=>c3.s1 (by simp) λu4 o4 c4=>c4.s1 (by simp) λu5 o5 c5=>c5.s1 (by simp) λu6 o6 c6=>?_;have f6:Ext0 w u6:=Ext.fresh (Ext.fresh (Ext.fresh (Ext.fresh f2 o3.ext λi hi=>by omega) o4.ext λi hi=>by omega) o5.ext λi hi=>by omega) o6.ext λi hi=>by omega
  have hm6:=f6.mapL hm id;obtain⟨mu,hmu⟩:∃mu,mget U b.2.2.1=mu:=⟨_,rfl⟩;rw[hmu]at hq;refine c6.rI rfl (lkE hm6 hmu ?_);rw[hq];refine nw (cs:=G8) λu7 hz7 f7 d7=>?_;unfold G8 at d7;refine d7.s1 (by simp) λu8 o8 d8=>d8.s1 (by simp) λu9 o9 d9=>d9.s1 (by simp) λu10 o10 d10=>d10.s1 (by simp) λu11 o11 d11=>d11.s1 (by simp) λu12 o12 d12=>d12.s1 (by simp) λu13 o13 d13=>?_;have f13:Ext0 u6 u13:=Ext.fresh (Ext.fresh (Ext.fresh (Ext.fresh (Ext.fresh (Ext.fresh f7 o8.ext λi hi=>by omega) o9.ext λi hi=>by omega) o10.ext λi hi=>by omega) o11.ext λi hi=>by omega) o12.ext λi hi=>by omega) o13.ext λi hi=>by omega
  have c13:=f13.blk c6 id;have hne:∀{u u':Hp},Z0 u u' u6.size->Blk u w.size (bkV b)->Blk u' w.size (bkV b):=λo h=>o.ext.blk h λ(hx:w.size=u6.size)=>by have:=c6.lt;omega
  refine c13.rI rfl (d13.s1 (by simp) λu14 o14 d14=>d14.rI rfl (ar (by simp only;omega) (by simp only;omega) (d14.s1 (by simp) λu15 o15 d15=>d15.rI rfl ?_)));have c15:Blk u15 w.size (bkV b):=hne o15 (hne o14 c13);refine c15.rI rfl (ar (by show _<=uS bsz (bs.take k) b.2.2.1+bsz b;omega) (by show uS bsz (bs.take k) b.2.2.1+bsz b<=_;omega) (d15.s1 (by simp) λu16 o16 d16=>d16.rI rfl (nilP ?_)));have c16:=hne o16 c15;have f16:Ext0 w u16:=Ext.fresh (Ext.fresh (Ext.fresh (f6.trans f13) o14.ext λi hi=>by have:=f6.1;omega) o15.ext λi hi=>by have:=f6.1;omega) o16.ext λi hi=>by have:=f6.1;omega
  have p16:=pw.fr f16;refine p16.b.rM rfl (c16.rI rfl ⟨x.asked,p16.m,ar (by show _<=uS (bas x.asked) (bs.take k) b.2.2.1+bas x.asked b;omega) (by show uS (bas x.asked) (bs.take k) b.2.2.1+bas x.asked b<=_;omega) (d16.s1 (by simp) λu17 o17 d17=>?_)⟩);have c17:=hne o17 c16;have f17:Ext0 w u17:=Ext.fresh f16 o17.ext λi hi=>by have:=f6.1;omega
  refine c17.rI rfl (d17.rI rfl (d17.rI rfl (d17.rI rfl (d17.rI rfl (d17.rI rfl (d17.rI rfl ⟨v1.size,U,rfl,f17.mapL hm id,λu18 o18 m18=>?_⟩))))));refine arN (m:=k+1) (by omega) (by omega) ⟨⟨k+1,_,rfl,by omega,?_,m18,?_⟩,by omega⟩
  ·exact(e.trans (Ext0.to f17)).trans o18.ext
  ·intro c;have hp0:=(WdY (bs:=bs.take k) (by omega) (λb h=>hb0 b (zBP h)) c).1;rw[Wf5];by_cases hcc:c=b.2.2.1
   ·subst hcc;have e0:=n0 b.2.2.1;have e1:=n1 b.2.2.1;have e2:=n2 b.2.2.1;rw[zB rfl]at e0 e1 e2;have:¬uS one (bs.take (k+1)) b.2.2.1=0:=by rw[e0];unfold one at *;omega
    rw[zB rfl,zA this];unfold uEnt;rw[e0,e1,e2];rfl
   ·have hne':¬b.2.2.1=c:=λh=>hcc h.symm;have e0:=n0 c;have e1:=n1 c;have e2:=n2 c;rw[zA hne',Int.add_zero]at e0 e1 e2;rw[zA hcc,hU c];unfold uEnt;rw[e0,e1,e2]
 ·have hkk:k=bs.length:=by omega
  subst hkk;rw[zAA]at hU;have hacts1:=Hk htab;have hactw:Acts w tab (H.tb.map clsT):=H8 hacts e λq (hq:q=v1.size) o ha=>by
   obtain⟨_,hc⟩:=hacts1;cases htb0:H.tb with
   | nil=>have:=p.cf.2.2;unfold TbOk at this;rw[htb0]at this;exact absurd this (by decide)
   | cons c0 r0=>
    obtain⟨b',o',h1,h2,_⟩:=hc 0 c0.size c0.pages c0.batch (by rw[htb0];rfl);rw[ha]at h1;simp only[Option.some.injEq,Addr.mk.injEq]at h1;omega
  refine Kr (a:=.s) (bb:=.i .i64) (λ(out:Sl) (c:Int) u=>∃j:Nat,c=(j:Int)-1/\j<=H.tb.length+1/\Ext (λq=>v2.size<=q) w u/\RowR out 6 (usV (usL H.tb x.asked bs j)) u (λq=>v2.size<=q)) (λ_ c _=>(H.tb.length+1)-(c+1).toNat) ⟨0,rfl,by omega,Ext.refl _ _,⟨rfl,.inl ⟨rfl,rfl⟩⟩⟩ ?_;rintro(out:Sl) (c:Int) u ⟨j,rfl,hj,eu,hout⟩;have ht40:=p.h.tb40;have hwz:=e.1;have h3z:=e3.1;have huz:=eu.1;have hlen:=WjN H.tb x.asked bs j;have hol:out.len<=j:=by have:=hout.1;rw[WcS]at this;omega
  refine ifD (λhlt=>?_) λhge=>?_
  ·have hmu:MapL u v1.size .i64 (.ag 6) U:=eu.mapL hm λ(hx:v2.size<=v1.size)=>by omega
   have hsucc:=Whu H.tb x.asked bs j;by_cases h0:uS one bs ((j:Int)-1)=0
   ·have hU0:mget U ((j:Int)-1)=none:=by rw[hU,zB h0]
    have hrow0:WbI H.tb x.asked bs j=none:=by unfold WbI;rw[zB h0]
    rw[hrow0]at hsucc;refine lkE hmu hU0 ?_;refine nw (cs:=G8) λu7 hz7 f7 d7=>?_;unfold G8 at d7;refine d7.s1 (by simp) λu8 o8 d8=>d8.s1 (by simp) λu9 o9 d9=>d9.s1 (by simp) λu10 o10 d10=>d10.s1 (by simp) λu11 o11 d11=>d11.s1 (by simp) λu12 o12 d12=>d12.s1 (by simp) λu13 o13 d13=>?_;have f13:Ext0 u u13:=Ext.fresh (Ext.fresh (Ext.fresh (Ext.fresh (Ext.fresh (Ext.fresh f7 o8.ext λi hi=>by omega) o9.ext λi hi=>by omega) o10.ext λi hi=>by omega) o11.ext λi hi=>by omega) o12.ext λi hi=>by omega) o13.ext λi hi=>by omega
    refine ifT rfl (ar (by omega) (by omega) ⟨⟨j+1,by omega,by omega,eu.trans (Ext0.to f13),?_⟩,by omega⟩);rw[hsucc];simp only[Option.toList,zAK];exact(RowR.loc _ _ _).keep0 hout f13
   ·have hU1:mget U ((j:Int)-1)=some (uEnt x.asked bs ((j:Int)-1)):=by rw[hU,zA h0]
    have hrow1:WbI H.tb x.asked bs j=some ((j:Int)-1,usSz H.tb j,uS one bs ((j:Int)-1),uS bsz bs ((j:Int)-1),uS (bas x.asked) bs ((j:Int)-1),usSp H.tb j (uS one bs ((j:Int)-1))):=by unfold WbI;rw[zA h0]
    rw[hrow1]at hsucc;have l0:=WdY (bs:=bs) (by omega) hb0 ((j:Int)-1);unfold uEnt at hU1;generalize uS one bs ((j:Int)-1)=ul at *;generalize uS bsz bs ((j:Int)-1)=ub at *;generalize uS (bas x.asked) bs ((j:Int)-1)=ua at *;refine lkE hmu hU1 ?_;refine nw (cs:=G8) λu7 hz7 f7 d7=>?_;unfold G8 at d7;refine d7.s1 (by simp) λu8 o8 d8=>d8.s1 (by simp) λu9 o9 d9=>d9.s1 (by simp) λu10 o10 d10=>d10.s1 (by simp) λu11 o11 d11=>d11.s1 (by simp) λu12 o12 d12=>d12.s1 (by simp) λu13 o13 d13=>?_;have f13:Ext0 u u13:=Ext.fresh (Ext.fresh (Ext.fresh (Ext.fresh (Ext.fresh (Ext.fresh f7 o8.ext λi hi=>by omega) o9.ext λi hi=>by omega) o10.ext λi hi=>by omega) o11.ext λi hi=>by omega) o12.ext λi hi=>by omega) o13.ext λi hi=>by omega
    refine ifF rfl (Wax (λq=>Ext0 u q/\Blk q u.size (u6V ((j:Int)-1,usSz H.tb j,ul,ub,ua,usSp H.tb j ul))) (λq ⟨eq,bq⟩=>?_) λJ hJ=>?_)
    ·refine bq.rI rfl (bq.rI rfl (bq.rI rfl (bq.rI rfl (bq.rI rfl (bq.rI rfl ?_)))));refine RowR.push (F:=λq=>v2.size<=q) (vs:=u6V ((j:Int)-1,usSz H.tb j,ul,ub,ua,usSp H.tb j ul)) ((RowR.loc _ _ _).keep0 hout eq) (λb hb=>by have:=eq.1;show v2.size<=b;omega) rfl rfl (by simp[u6V,one1]) (by omega) (by omega) λs' u' hsl eu' hrow'=>?_;refine ar (by omega) (by omega) ⟨⟨j+1,by omega,by omega,(eu.trans (Ext0.to eq)).trans eu',?_⟩,by omega⟩;rw[hsucc];have:usV (usL H.tb x.asked bs j++(some ((j:Int)-1,usSz H.tb j,ul,ub,ua,usSp H.tb j ul)).toList)=usV (usL H.tb x.asked bs j)++u6V ((j:Int)-1,usSz H.tb j,ul,ub,ua,usSp H.tb j ul):=by simp[usV]
     rw[this];exact hrow'
    ·refine ifD (λhc0=>?_) λhc0=>?_
     ·obtain⟨k,rfl⟩:∃k,j=k+1:=⟨j-1,by omega⟩;have hck:(((k+1:Nat):Int)-1)=(k:Int):=by omega
      rw[hck]at d13 hJ ⊢;have hkt:k<H.tb.length:=by omega
      have hcl:H.tb[k]?=some H.tb[k]:=gGe _;have hco:Cls.ok H.tb[k]:=p.hi.ok _ (zj hkt);have hgd:H.tb.getD (k+1-1) ⟨8,1,1⟩=H.tb[k]:=by rw[Nat.add_sub_cancel,zN,hcl];rfl
      have hsz:usSz H.tb (k+1)=(H.tb[k].size:Int):=by unfold usSz;rw[zA (by omega),hgd]
      have hsp:usSp H.tb (k+1) ul=(ul+(H.tb[k].n:Int)-1)/(H.tb[k].n:Int):=by unfold usSp;rw[zA (by omega),hgd]
      rw[hsz,hsp]at hJ;generalize H.tb[k]=cl at hcl hco hJ;have hx:(H.tb.map clsT)[k]?=some ((cl.size:Int),(cl.pages:Int),(cl.batch:Int)):=by rw[zZ,hcl];rfl
      have hactu:Acts u13 tab (H.tb.map clsT):=Yc (H8 hactw eu λq (hq:v2.size<=q) o ha=>by
       obtain⟨_,hc⟩:=hacts1;obtain⟨b',o',h1,h2,_⟩:=hc k _ _ _ hx;rw[ha]at h1;simp only[Option.some.injEq,Addr.mk.injEq]at h1;omega) f13
      have n1:=hco.n_pos;have n2:=hco.n_le;refine VT hactu hx (Vu _ _ _ (λc' hc' h1 h2 h3 v7 e7=>?_) λhbad=>?_)
      ·have hcc:c'=cl:=by
        cases c';cases cl;simp only[Cls.mk.injEq]at *;omega
       subst hcc;have d14:=e7.blk d13 id;refine⟨λm=>Ext0 v7 m,Ext.refl _ _,WgJ (Yc hactu e7) hx (Blk.rH (c:=.i .i64) (y:=ul) d14 rfl (ar (by omega) (by omega) (ar (by omega) (by omega) (nz (by omega) ?_))))⟩;have hq0:0<=(ul+(c'.n:Int)-1)/(c'.n:Int):=Int.ediv_nonneg (by omega) (by omega);have hq1:(ul+(c'.n:Int)-1)/(c'.n:Int)<=ul+(c'.n:Int)-1:=Int.ediv_le_self _ (by omega);rw[YS (by omega)];generalize (ul+(c'.n:Int)-1)/(c'.n:Int)=qq at hq0 hq1 hJ ⊢;refine ar (by omega) (by omega) (d14.s1 (by simp) λu14 o14 d15=>d15.s1 (by simp) λu15 o15 d16=>hJ u15 ⟨?_,d16⟩);exact Ext.fresh (Ext.fresh (f13.trans e7) o14.ext λi hi=>by omega) o15.ext λi hi=>by omega
      ·rw[(Vm cl).2 hco]at hbad;cases hbad
     ·have hj0:j=0:=by omega
      subst hj0;exact hJ u13 ⟨f13,d13⟩
  ·have hjj:j=H.tb.length+1:=by omega
   subst hjj;refine hR out u bs (Ext.fresh (Ext.fresh e03 e λi (hi:i=v1.size)=>by omega) eu λi (hi:v2.size<=i)=>by omega) hl ((RowR.loc _ _ _).mono hout λq _ (hq:v2.size<=q)=>by show σ.size<=q;omega)
end Go.Ar
namespace Go.Proofs
open Go.Vc
set_option maxRecDepth 100000
def Xm.h:Hn:=.q .o1 (.q .o2 (.q (.q .o2 (.c (.q .o1 .l) .l)) (.q .o7 (.q (.q (.reg (.seq [.op,.op,.op,.grd false 2 [.op,.op]])) (.c (.q .o1 .l) .l)) (.q .o7 (.q .o4 (.q .o8 (.q (.reg (.seq [.op,.op,.op,.grd true 3 (RI.ops 3),.op,.grd true 3 (RI.ops 3),.op,.grd true 3 (RI.ops 3),.op,.grd true 5 (RI.ops 5),.op,.grd true 2 [.op,.op],.op,.grd true 2 [.op,.op],.op])) .l))))))))
def Xm.v (a:Hp)(b:Bool->Hp->Prop):Prop:=W9.c a λc d=>If c.isNone (b false d) (ZC.c c d λe f g=>JnB (λh i=>If h (b false i) (WK.c e 0 20 8 i λj k l=>WA.c e l λm n o p q r s t u v w=>Nw (.cells #[.I 0,.I 0,.I 0,.I 0,.I 0,.I 0,.I 0,.I 0,.I 0,.I 0] 56 (0,0)) w λx y=>St1 (x.add 0) (.I m) y λz=>St1 (x.add 1) (.I n) z λaa=>St1 (x.add 2) (.I o) aa λab=>St1 (x.add 3) (.I p) ab λac=>St1 (x.add 4) (.I q) ac λad=>St1 (x.add 5) (.I r) ad λae=>St1 (x.add 6) (.I s) ae λaf=>St1 (x.add 7) (.I t) af λag=>St1 (x.add 8) (.I u) ag λah=>St1 (x.add 9) (.I v) ah λai=>Yk.c c ai λaj ak=>Zy.c aj 20 8 ak λal am an=>JnB (λao ap=>JnB (λaq ar=>JnB (λau av=>JnB (λaw ax=>JnB (λay az=>JnB (λa0 a1=>b a0 a1) λa2=>If ay (a2 (am==0) az) (a2 false az)) λa3=>If aw (a3 (al==6) ax) (a3 false ax)) λa4=>If au (W1.c e av λa5 a6=>Nw (.cells #[.I 2,.I 24,.I 1,.I 24,.I 20,.I 1] 80 (0,0)) a6 λa7 a8=>XD.c a5 ⟨some a7,1,1⟩ a8 λa9 ba=>a4 a9 ba) (a4 false av)) λbb=>If aq (LdI .i64 (x.add 7) ar λbc=>bb (bc==1) ar) (bb false ar)) λbd=>If ao (LdI .i64 (x.add 1) ap λbe=>bd (be==24) ap) (bd false ap)) λbf=>If (k==0) (LdI .i64 (x.add 0) an λbg=>bf (bg==20) an) (bf false an))) λbh=>If (f != 0) (bh true g) (bh e.isNone g))
theorem Xm.o {a b}(c:Xm.v a b):Xm.c a b:=Wa Tryz.func13 (x:=Xm.h) (R0 c)
end Go.Proofs
namespace Go.Proofs
open Go.Vc
set_option maxRecDepth 100000
def XD.h:Hn:=.q .o1 (.q (.q .o5 (.c (.q .o1 .l) .l)) (.q (.q .o1 (.k (.loop [(5,.I)] (.q (.q .o4 (.c .l .l)) (.q (.k (.q (.oq 9) (.c (.q .o1 .l) .l))) .o3))))) (.q .o1 .l)))
def XD.v (a b:Sl)(c:Hp)(d:Bool->Hp->Prop):Prop:=If (((a.len:Nat):Int) != ((b.len:Nat):Int)) (d false c) (XJ [(.i .i64)] (λe=>e 0 c) λf (g:Int) h=>If (g<((a.len:Nat):Int)) (Ix a.a a.len g 6 λi=>LdI .i64 (i.add 0) h λj=>LdI .i64 (i.add 1) h λk=>LdI .i64 (i.add 2) h λl=>LdI .i64 (i.add 3) h λm=>LdI .i64 (i.add 4) h λn=>LdI .i64 (i.add 5) h λo=>Ix b.a b.len g 6 λp=>LdI .i64 (p.add 0) h λq=>LdI .i64 (p.add 1) h λr=>LdI .i64 (p.add 2) h λs=>LdI .i64 (p.add 3) h λt=>LdI .i64 (p.add 4) h λu=>LdI .i64 (p.add 5) h λv=>If (!((j==q)&&((k==r)&&((l==s)&&((m==t)&&((n==u)&&((o==v)&&true))))))) (d false h) (Ar .i64 (g+1) λw=>f w h)) (d true h))
theorem XD.o {a b c d}(e:XD.v a b c d):XD.c a b c d:=Wa Tryz.func39 (x:=XD.h) (R0 e)
end Go.Proofs
namespace Go.Ar
open Go Go.Vc Go.Proofs
open Go.Vc (mget mset mdel)
variable {σ σ0 v w w':Hp}{F G P Q X T:Rg}{L:LayH}{H H':Hw}{held:List Pc}{s0:Sp}{t n:Nat}{g:Th}{mb am m:Nat}{x y:Me}
theorem Wh3 {α:Type}{l:List (Int×α)}{n:Int}(h:mget l n=none)(v:α):mset l n v=l++[(n,v)]:=by
 unfold mset;rw[zA];intro hx;obtain⟨y,hy,e⟩:=zn.1 hx;unfold mget at h;rw[zCL,zBF]at h;exact h y hy e
theorem Ge {α:Type}{l:List (Int×α)}{n:Int}(h:mget l n=none):mdel l n=l:=by
 unfold mdel;rw[zBC];intro y hy;unfold mget at h;rw[zCL,zBF]at h;have:=h y hy;simpa using this
theorem MeI.tops (mi:MeI x){D:Nat}(hD:D<=128):MeI (x.tops (D:Int)):=by
 have hs:=mi.sum_le;have hp:=mi.p;have hd:=mi.d;refine⟨mi.v,mi.l,mi.s,?_,?_,mi.c⟩
 ·unfold Me.tops;simp only;split<;>omega
 ·unfold Me.tops;simp only;split<;>omega
theorem MeI.mal (mi:MeI x){a size e:Int}{D:Nat}(h:mget x.asked a=none)(hc:x.calls<=899)(h0:0<=size)(h1:e=0->size<=16384)(hD:D<=128):MeI (x.mal a size e D):=by
 unfold Me.calls at hc;refine MeI.tops ?_ hD;by_cases he:e=0
 ·have h1:=h1 he;rw[zB he];have hf:x.forget a=x:=by unfold Me.forget;rw[Ge h,h];simp
  rw[hf];unfold Me.count Me.add;rw[zB he,zB rfl,Wh3 h];refine⟨λy hy=>?_,?_,?_,mi.p,mi.d,?_⟩
  ·rcases zL.1 hy with hy|hy
   ·exact mi.v y hy
   ·rw[zP]at hy;subst hy;exact⟨h0,h1⟩
  ·have:=mi.l;simp only[zJ,zFG];omega
  ·simp only[zAD,zDR];rw[mi.s];simp
  ·unfold Me.calls;simp only;omega
 ·rw[zA he];unfold Me.count;rw[zA he];exact⟨mi.v,mi.l,mi.s,mi.p,mi.d,by unfold Me.calls;simp only;omega⟩
theorem RunN.det {n m:Nat}{H H1 H2:Hw}{t:Nat}{p:Ph}{a1 e1 a2 e2:Int}(h:RunN n H t p H1 a1 e1)(h':RunN m H t p H2 a2 e2):H1=H2/\a1=a2/\e1=e2:=by
 induction h generalizing m with
 | done h1 h2=>
  cases h' with
  | done=>exact⟨rfl,rfl,rfl⟩
  | next _ h3 _=>rw[h2]at h3;cases h3
 | next h1 h2 _ ih=>
  cases h' with
  | done _ h3=>rw[h2]at h3;cases h3
  | next _ h3 h4=>rw[h2]at h3;cases h3;exact ih h4
theorem H6.det {thread kind size align addr a1 e1 a2 e2:Int}{H1 H2:Hw}(h:H6 H thread kind size align addr H1 a1 e1)(h':H6 H thread kind size align addr H2 a2 e2):H1=H2/\a1=a2/\e1=e2:=by
 rcases h with⟨h1,_,rfl,rfl⟩|⟨t,p,n,h1,h2⟩
 ·rcases h' with⟨g1,_,rfl,rfl⟩|⟨_,_,_,g1,_⟩
  ·rw[h1]at g1;cases g1;exact⟨rfl,rfl,rfl⟩
  ·rw[h1]at g1;cases g1
 ·rcases h' with⟨g1,_⟩|⟨_,_,_,g1,g2⟩
  ·rw[h1]at g1;cases g1
  ·rw[h1]at g1;cases g1;exact h2.det g2
def wm:Hw×Int×Int:=nxt w0 0 20 0
theorem wm_2:wm.2=(4096,0):=by decide +kernel
theorem wm_w:H6 w0 0 0 20 8 0 wm.1 4096 0:=nxtW rfl wm_2 (by decide) rfl
theorem wm_d:wm.1.sp.st.count 2<=128:=by decide +kernel
theorem WfC:wm.1.live=[(4096,4096,24,2,0)]:=by decide +kernel
theorem Wk2:wm.1.tb=tb8:=by decide +kernel
theorem wm_b:G6 (tb8.map clsT) 20 8=(6,0):=by decide +kernel
theorem wm_u:usL tb8 [(4096,20)] [(4096,24,2,0)] (tb8.length+1)=[(2,24,1,24,20,1)]:=by decide +kernel
theorem WkC:NewH w0 64:=by
 have h:=Wjn (xs:=Wbb 8) (p:=64) (a:=1) (t:=1) (b:=1024) (r:=2) (GT 8 (by decide) (by decide)) (by decide);rw[w0_e]at h;exact h
theorem WgN:∀{l:List U6} {i:Nat} {r:U6},l[i]?=some r->∀{j:Nat} {v:Value},(u6V r)[j]?=some v->(usV l)[6*i+j]?=some v
 | [],i,b,h,_,_,_=>by simp at h
 | a::bs,0,b,h,j,v,hv=>by
  simp only[zEI,Option.some.injEq]at h;subst h;have hj:=(gSi.1 hv).1;show(u6V a++usV bs)[6*0+j]?=_;rw[show 6*0+j=j by omega,zb hj];exact hv
 | a::bs,i+1,b,h,j,v,hv=>by
  have ih:=WgN (l:=bs) (i:=i) (r:=b) (by simpa using h) hv;show(u6V a++usV bs)[6*(i+1)+j]?=_;rw[zk (by simp[u6V];omega)];have:6*(i+1)+j-(u6V a).length=6*i+j:=by simp[u6V];omega
  rw[this];exact ih
theorem Wkv {s:Sl}{l:List U6}(hs:SlR s 6 (usV l) σ F){i:Nat}{r:U6}(hb:l[i]?=some r){K:Addr->Prop}(hK:∀bb o,(∀(j:Nat) v,(u6V r)[j]?=some v->cell σ ⟨bb,o+j,none⟩=some v)->K ⟨bb,o,none⟩):Ix s.a s.len (i:Int) 6 K:=by
 have hil:=(gSi.1 hb).1;have hl:s.len=l.length:=by have:=hs.1;rw[WcS]at this;omega
 obtain⟨b,o,ha,_⟩:=hs.cell (WgN hb (j:=0) rfl);rw[ha];refine ix (by omega) (by omega) ?_;rw[add_lit];refine hK b _ λj v hv=>?_;obtain⟨b',o',ha',hc⟩:=hs.cell (WgN hb hv);rw[ha]at ha';cases ha';rw[show o+(i:Int).toNat*6+j=o+(6*i+j) by omega];exact hc
theorem WiU {a b:Sl}{l:List U6}(ha:SlR a 6 (usV l) σ F)(hb:SlR b 6 (usV l) σ G)(hl:l.length<=1000000){R:Bool->Hp->Prop}(hR:R true σ):XD.c a b σ R:=by
 refine XD.o ?_;unfold XD.v;have h1:=ha.1;have h2:=hb.1;rw[WcS]at h1 h2;have hal:a.len=l.length:=by omega
 have hbl:b.len=l.length:=by omega
 refine ifF (by rw[hal,hbl];simp) (ZF (a:=.i .i64) (λ(i:Int) w=>w=σ/\∃k:Nat,i=k/\k<=l.length) (λi _=>l.length-i.toNat) ⟨rfl,0,rfl,by omega⟩ ?_);rintro(i:Int) w ⟨rfl,k,rfl,hk⟩;refine ifD (λhlt=>?_) λhge=>hR;have hg:l[k]?=some (l[k]'(by omega)):=gGe _;generalize (l[k]'(by omega))=r at hg;refine Wkv ha hg λb1 o1 c1=>ldI0 (c1 0 _ rfl) (ldI0 (c1 1 _ rfl) (ldI0 (c1 2 _ rfl) (ldI0 (c1 3 _ rfl) (ldI0 (c1 4 _ rfl) (ldI0 (c1 5 _ rfl) ?_)))));refine Wkv hb hg λb2 o2 c2=>ldI0 (c2 0 _ rfl) (ldI0 (c2 1 _ rfl) (ldI0 (c2 2 _ rfl) (ldI0 (c2 3 _ rfl) (ldI0 (c2 4 _ rfl) (ldI0 (c2 5 _ rfl) ?_)))));exact ifF (by simp) (arN (m:=k+1) (by omega) (by omega) ⟨⟨rfl,k+1,rfl,by omega⟩,by omega⟩)
attribute [local irreducible] w0 wm nxt tb8
set_option maxRecDepth 8000 in
theorem Wem (gl:Gl σ)(gd:Gd σ){R:Bool->Hp->Prop}(hR:∀σ',Ext0 σ σ'->R true σ'):Xm.c σ R:=by
 refine Xm.o ?_;unfold Xm.v;refine Wc8 gl gd λv L N e hsN hNv h0=>ifF rfl ?_;have hn:=WkC;have hc0:w0.cf.pages=64:=by have:=hn.pg;omega
 refine Wja e h0.cut hn.hi hn.cf hn.ph (by omega) (λb hb=>⟨by have:N<=b:=hb.1;omega,hb.2⟩) (WkP gl gd) λw mb am e1 _ _ p=>?_;refine JnB.intro (ifF rfl (ifF rfl ?_));refine Wd3 p Wk9 (by decide) 0 20 8 λa er w2 ts H' held' s0' P' e2 p2 hP2 k2 me hw=>?_;obtain⟨rfl,rfl,rfl⟩:=hw.det wm_w;generalize hy:me0.mal 4096 20 0 (wm.1.sp.st.count 2)=y at p2;have hys:y.sum=20/\y.mallocs=1/\y.asked=[(4096,20)]:=by subst hy;exact⟨rfl,rfl,rfl⟩
 obtain⟨y1,y2,y3⟩:=hys;refine WdZ p2 λw3 e3 so=>?_;have hgv:WcX wm.1.live=24:=by rw[WfC];rfl
 rw[y1,y2,hgv];have p3:=p2.fr e3;refine nw (cs:=VL) λw4 hz4 e4 b4=>?_;unfold VL at b4;refine b4.s1 (by simp) λv1 o1 b1=>b1.s1 (by simp) λv2 o2 b2=>b2.s1 (by simp) λv3 o3 b3=>b3.s1 (by simp) λv4 o4 b4=>b4.s1 (by simp) λv5 o5 b5=>b5.s1 (by simp) λv6 o6 b6=>b6.s1 (by simp) λv7 o7 b7=>b7.s1 (by simp) λv8 o8 b8=>b8.s1 (by simp) λv9 o9 b9=>b9.s1 (by simp) λv10 o10 b10=>?_;have eo:Ext (· = w3.size) w4 v10:=((((((((o1.ext.trans o2.ext).trans o3.ext).trans o4.ext).trans o5.ext).trans o6.ext).trans o7.ext).trans o8.ext).trans o9.ext).trans o10.ext;have e10:Ext0 w3 v10:=Ext.fresh e4 eo λi (hi:i=w3.size)=>by omega
 have p10:=p3.fr e10;refine Wbk p10.h p10.h.tb40 λtab v11 e11 htab=>Wg2 (Hk htab) 20 8 λv12 e12=>?_;rw[Wk2,wm_b];have b12:=(e11.trans e12).blk b10 id;refine JnB.intro (ifT rfl (b12.rI rfl (JnB.intro (ifT rfl (b12.rI rfl (JnB.intro (ifT rfl (b12.rI rfl (JnB.intro (ifT rfl ?_))))))))));have p12:=(p10.fr e11).fr e12;refine Wh6 p12 ?_ λs v13 bs e13 hl hrow=>?_
 ·subst hy;exact Wk9.mal rfl (by decide) (by decide) (λ_=>by decide) wm_d
 rw[WfC]at hl;have hbs:bs=[(4096,24,2,0)]:=by
  have h1:=hl.len;obtain⟨b,rfl⟩:=List.length_eq_one_iff.1 (show bs.length=1 from h1);have h2:=(hl.mem b).1 (by simp);simp only[zP,Prod.mk.injEq]at h2;rw[h2.2]
 rw[hbs,y3,Wk2,wm_u]at hrow;refine nw (cs:=[.int .i64 2,.int .i64 24,.int .i64 1,.int .i64 24,.int .i64 20,.int .i64 1]) λv14 hz14 e14 b14=>?_;have hs1:SlR s 6 (usV [(2,24,1,24,20,1)]) v14 (λb=>v12.size<=b):=RowR.slR ((RowR.loc _ _ _).keep0 hrow e14);have hs2:SlR ⟨some ⟨v13.size,0,none⟩,1,1⟩ 6 (usV [(2,24,1,24,20,1)]) v14 (λb=>True):=⟨rfl,.inr ⟨v13.size,0,_,trivial,rfl,b14.q,λj _=>by rw[zG];rfl⟩⟩;refine WiU hs1 hs2 (by simp) (JnB.intro (ifT rfl (JnB.intro (ifT rfl ?_))));exact hR v14 ((p12.fr e13).fr e14).e
end Go.Ar
namespace Go.Proofs
open Go.Vc
set_option maxRecDepth 100000
def WX.h:Hn:=.q .o1 (.q .o3 (.q .o3 (.sjn [(9,.one .p),(10,.one .p)] (.q .o1 (.c .o2 .l)) (.q .o7 (.q .o10 (.q .o7 (.q .o9 (.q (.reg (.seq [.op,.op,.op,.grd true 2 [.op,.op],.op,.grd true 2 [.op,.op],.op,.grd true 2 [.op,.op],.op,.grd true 5 (RI.ops 5),.op,.grd true 4 (RI.ops 4),.op,.grd true 4 (RI.ops 4),.op,.grd true 2 [.op,.op],.op,.grd true 2 [.op,.op],.op,.grd true 3 (RI.ops 3),.op,.grd true 3 (RI.ops 3),.op,.grd true 2 [.op,.op],.op,.grd true 3 (RI.ops 3),.op,.grd true 3 (RI.ops 3),.op,.grd true 4 (RI.ops 4),.op,.grd true 1 [.op],.op])) .l))))))))
def WX.v (a b c:Int)(d:Bool)(e:Hp)(f:Bool->Hp->Prop):Prop:=Nw (.cells #[.pointer none,.map none,.I 0,.I 0,.I 0,.I 0,.I 0,.I 0] 38 (0,0)) e λg h=>Nw (.cells #[.slice none 0 0,.I 0,.I 0,.I 0,.I 0,.I 0,.pointer none,.slice none 0 0,.slice none 0 0,.map none] 46 (0,0)) h λi j=>Jn [.p,.p] (λ(k:R2) (l:R2) m=>ZC.c l m λn o p=>WK.c k a b c p λq r s=>YA.c k s λt u v=>ZK.c l v λw x y z=>JnB (λaa ab=>JnB (λac ad=>JnB (λae af=>JnB (λag ah=>JnB (λai aj=>JnB (λak al=>JnB (λam an=>JnB (λao ap=>JnB (λaq ar=>JnB (λau av=>JnB (λaw ax=>JnB (λay az=>JnB (λa0 a1=>JnB (λa2 a3=>JnB (λa4 a5=>f a4 a5) λa6=>If a2 (Xm.c a3 λa7 a8=>a6 a7 a8) (a6 false a3)) λa9=>If a0 (W9.c a1 λba bb=>YW.c k ba bb λbc bd=>a9 bc.isNone bd) (a9 false a1)) λbe=>If ay (Yz.c k az λbf bg=>be bf.isNone bg) (be false az)) λbh=>If aw (YP.c k ax λbi bj=>bh bi.isNone bj) (bh false ax)) λbk=>If au (bk (y==1) av) (bk false av)) λbl=>If aq (bl (((x.len:Nat):Int)==0) ar) (bl false ar)) λbm=>If ao (bm (((w.len:Nat):Int)==0) ap) (bm false ap)) λbn=>If am (bn (u==5) an) (bn false an)) λbo=>If ak (bo (t==0) al) (bo false al)) λbp=>If ai (W1.c k aj λbq br=>bp (((bq.len:Nat):Int)==0) br) (bp false aj)) λbs=>If ag (WA.c k ah λbt bu bv bw bx bz b0 b1 b2 b3 b4=>bs ((bt==0)&&((bu==0)&&((bv==0)&&((bw==0)&&((bx==0)&&((bz==0)&&((b0==0)&&((b1==0)&&((b2==0)&&((b3==0)&&true)))))))))) b4) (bs false ah)) λb5=>If ae (YO.c k a b af λb6 b7=>b5 (b6==5) b7) (b5 false af)) λb8=>If ac (b8 (r==5) ad)
 (b8 false ad)) λb9=>If aa (b9 (q==0) ab) (b9 false ab)) λca=>If n.isNone (ca (o==1) z) (ca false z)) λcb=>If d (cb none none j) (cb (some g) (some i) j)
theorem WX.o {a b c d e f}(g:WX.v a b c d e f):WX.c a b c d e f:=Wa Tryz.func5 (x:=WX.h) (R0 g)
end Go.Proofs
namespace Go.Ar
open Go Go.Vc Go.Proofs
variable {σ v w w':Hp}{m vh:Option Addr}
def unM:List Value:=[.pointer none,.map none,.int .i64 0,.int .i64 0,.int .i64 0,.int .i64 0,.int .i64 0,.int .i64 0]
def NoM (m:Option Addr)(σ:Hp):Prop:=m=none\/∃n,m=some ⟨n,0,none⟩/\Blk σ n unM
theorem NoM.keep0 (h:NoM m σ)(e:Ext0 σ w):NoM m w:=h.imp id λ⟨n,h1,h2⟩=>⟨n,h1,e.blk h2 id⟩
theorem Kg (h:NoM m σ){R:Bool->Hp->Prop}(hR:R false σ):Wr.c m σ R:=by
 refine Wr.o ?_;unfold Wr.v;rcases h with rfl|⟨n,rfl,hb⟩
 ·exact JnB.intro (ifF rfl hR)
 ·exact JnB.intro (ifT rfl (nilP (hb.rP rfl hR)))
theorem Wdr (h:WbM vh σ){R:Bool->Hp->Prop}(hR:∀w,Ext0 σ w->R false w):Zd.c vh σ R:=by
 refine Zd.o ?_;unfold Zd.v;rcases h with rfl|⟨n,rfl,hb⟩
 ·exact JnB.intro (ifF rfl (hR σ (Ext.refl _ _)))
 ·refine JnB.intro (ifT rfl (Xe.o ?_));unfold Xe.v;refine nw (cs:=[.int .i64 0,.int .i64 0,.int .i64 0,.int .i64 0,.int .i64 0]) λv hz e hbv=>WZ.o ?_;unfold WZ.v;have hb':=e.blk hb id;refine JnB.intro (ifT rfl (nilP (hb'.rS rfl (ifT rfl ?_))));refine hbv.s1 (by simp) λv1 o1 b1=>b1.s1 (by simp) λv2 o2 b2=>b2.s1 (by simp) λv3 o3 b3=>b3.s1 (by simp) λv4 o4 b4=>b4.s1 (by simp) λv5 o5 b5=>?_;refine b5.rI rfl (b5.rI rfl (b5.rI rfl (b5.rI rfl (b5.rI rfl (hR v5 ?_)))));exact((((e.only o1 (.inr (zC _))).only o2 (.inr (zC _))).only o3 (.inr (zC _))).only o4 (.inr (zC _))).only o5 (.inr (zC _))
theorem Wlv {K:Fam [.p,.p]}{body:Fam [.p,.p]->Prop}(P:Option Addr->Option Addr->Hp->Prop)(h1:∀r s w,P r s w->K r s w)(h2:∀J:Fam [.p,.p],(∀r s w,P r s w->J r s w)->body J):Jn [.p,.p] K body:=Jn.intro (h2 K h1)
set_option maxRecDepth 16000 in
theorem Wf4 (gl:Gl σ)(gd:Gd σ)(thread a b:Int)(nn:Bool){R:Bool->Hp->Prop}(hR:∀σ',Ext0 σ σ'->R true σ'):WX.c thread a b nn σ R:=by
 refine WX.o ?_;unfold WX.v;refine nw (cs:=unM) λv hz e hb=>nw (cs:=unV) λv1 hz1 e1 hb1=>?_;have hb':=e1.blk hb id;refine Wlv (λm vh w=>NoM m w/\WbM vh w/\Ext0 σ w) (λm vh w ⟨hm,hh,ew⟩=>?_) λJ hJ=>iff_ (λ_=>hJ _ _ _ ⟨.inl rfl,.inl rfl,e.trans e1⟩) λ_=>hJ _ _ _ ⟨.inr ⟨_,rfl,hb'⟩,.inr ⟨_,rfl,hb1⟩,e.trans e1⟩;refine ZC.o ?_;unfold ZC.v;refine Wdr hh λw1 e1=>ifT rfl ?_;have hm1:=hm.keep0 e1;have hh1:=hh.keep0 e1;refine WK.o ?_;unfold WK.v;refine Kg hm1 (ifT rfl (YA.o ?_));unfold YA.v;refine Kg hm1 (ifT rfl (ZK.o ?_));unfold ZK.v;refine Wdr hh1 λw2 e2=>ifT rfl ?_;have hm2:=hm1.keep0 e2;refine JnB.intro (ifT rfl (JnB.intro (ifT rfl (JnB.intro (ifT rfl (JnB.intro (ifT rfl (YO.o ?_))))))));unfold YO.v;refine Kg hm2 (ifT rfl (JnB.intro (ifT rfl (WA.o ?_))));unfold WA.v;refine nw (cs:=VL) λw3 hz3 e3 b3=>Kg (hm2.keep0 e3) (ifT rfl ?_);unfold VL at b3;refine b3.s1 (by simp) λv1 o1 b1=>b1.s1 (by simp) λv2 o2 b2=>b2.s1 (by simp) λv3 o3 b3=>b3.s1 (by simp) λv4 o4 b4=>b4.s1 (by simp) λv5 o5 b5=>b5.s1 (by simp) λv6 o6 b6=>b6.s1 (by simp) λv7 o7 b7=>b7.s1 (by simp) λv8 o8 b8=>b8.s1 (by simp) λv9 o9 b9=>b9.s1 (by simp) λv10 o10 b10=>?_;have eo:Ext (· = w2.size) w3 v10:=((((((((o1.ext.trans o2.ext).trans o3.ext).trans o4.ext).trans o5.ext).trans o6.ext).trans o7.ext).trans o8.ext).trans o9.ext).trans o10.ext;have e10:Ext0 w2 v10:=Ext.fresh e3 eo λi (hi:i=w2.size)=>by omega
 refine b10.rI rfl (b10.rI rfl (b10.rI rfl (b10.rI rfl (b10.rI rfl (b10.rI rfl (b10.rI rfl (b10.rI rfl (b10.rI rfl (b10.rI rfl ?_)))))))));have hm10:=hm2.keep0 e10;have ew10:=((ew.trans e1).trans e2).trans e10;refine JnB.intro (ifT rfl (W1.o ?_));unfold W1.v;refine Kg hm10 (ifT rfl ?_);refine JnB.intro (ifT rfl (JnB.intro (ifT rfl (JnB.intro (ifT rfl (JnB.intro (ifT rfl (JnB.intro (ifT rfl (JnB.intro (ifT rfl (YP.o ?_))))))))))));unfold YP.v;refine Kg hm10 (ifT rfl (JnB.intro (ifT rfl (Yz.o ?_))));unfold Yz.v;refine Kg hm10 (ifT rfl (JnB.intro (ifT rfl ?_)));refine Wc8 (gl.keep0 ew10) (gd.keep0 ew10) λu L N e4 _ _ _=>YW.o ?_;unfold YW.v;refine Kg (hm10.keep0 e4) (JnB.intro (ifT rfl (ifT rfl ?_)));have ew4:=ew10.trans e4;exact JnB.intro (ifT rfl (Wem (gl.keep0 ew4) (gd.keep0 ew4) λq eq=>hR q (ew4.trans eq)))
end Go.Ar
namespace Go.Ar
open Go Go.Vc Go.Proofs Go.ChangeShapes Go.WideShapes Go.RowKit Go.Deep
theorem UR {H:Type}{enc:TypeId×Value->H}{P:Program}{w:World}{base:Nat}{sp:Nat->Bool}{held:Bool}{fuel:Nat}{t:TypeId}{c:Value}{y:DataW H×List MemPlace}
 (ht:P.underlying t=some .bool) (h:DataW.trod enc P w base sp held fuel t [c]=some y):∃n,c=.bool n/\y=(.lit (.bool n),[]):=by
 cases fuel with
 | zero=>simp[DataW.trod]at h
 | succ fuel=>
  cases c<;>simp[DataW.trod,ht]at h
  rename_i n;exact⟨n,rfl,by simpa using h.symm⟩
theorem Wb2 {P:Program}{w:World}{t:TypeId}{f0 f1:Field}{cs:Array Value}{fuel:Nat}{p:List MemPlace}{x y:Bool}(ht:P.underlying t=some (.struct #[f0,f1]))(hone:oneCellFields P #[f0,f1]=true)(hC:P.cellsOf t=2)
 (h0:P.underlying f0.type=some .bool) (h1:P.underlying f1.type=some .bool) (h:DataW.trod (λ_=>()) P w 0 (λ_=>true) false fuel t cs.toList=some (.agg [.lit (.bool x),.lit (.bool y)],p)):cs = #[.bool x,.bool y]:=by
 obtain⟨ys,n,hn,hy,hlen,hyl,hff⟩:=DataW.trod_struct ht h;obtain⟨l⟩:=cs;have hl2:l.length=2:=by rw[←hC];simpa using hlen
 match l,hl2 with
 | [c0,c1],_=>
  have k0:=hff 0 f0 rfl;have k1:=hff 1 f1 rfl;obtain⟨o0,q0⟩:=hone_of hone 0 f0 rfl;obtain⟨o1,q1⟩:=hone_of hone 1 f1 rfl;rw[o0,q0]at k0;rw[o1,q1]at k1
  match ys,hyl with
  | [y0,y1],_=>
   obtain⟨n0,rfl,e0⟩:=UR h0 (c:=c0) (y:=y0) (by simpa using k0);obtain⟨n1,rfl,e1⟩:=UR h1 (c:=c1) (y:=y1) (by simpa using k1);subst e0;subst e1;simp at hy;obtain⟨⟨rfl,rfl⟩,_⟩:=hy;rfl
theorem WaW {w:World}{a:Addr}{v:Value}(h:w.cell? a=some v):cell w.heap a=some v:=h
section
variable {H:Type}{enc:TypeId×Value->H}{P:Program}{w:World}
end
end Go.Ar