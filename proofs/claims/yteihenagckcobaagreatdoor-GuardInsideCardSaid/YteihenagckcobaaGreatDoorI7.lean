/- Texts joined. -/
import Derived.Shelf.SlSortCmp.NoneTotal
import Derived.Ground.SlsfProg
import Derived.Test.YteihenagckcobaaGreatDoorProg
import Derived.Shelf.SlIterI.Nil
import Derived.Ground.GgzProg
import Derived.Test.YteihenagckcobaaGreatDoorRows
import Derived.ChangeVars
import Derived.JoinedOf
import Derived.RowKit
import Derived.WalkKit
import Derived.ProofKit
import Derived.OpenShut
import Derived.ChangeOld
import Derived.Carry
import Derived.Test.YteihenagckcobaaGreatDoorI6
set_option linter.unusedVariables false
set_option linter.unusedSimpArgs false
namespace Go.Ar
open Go Go.Vc Go.Proofs
variable {U w:Hp}
def l5:Nat->Int->Int->List T3
 | 0,_,_=>[]
 | n+1,s,w=>if s<512 then kL s w::l5 n (s+wc s w) w else[]
def allM (w:Int):List T3:=l5 64 8 w++[kL 512 w]
def oF (l:List T3)(i:Nat):Bool:=i==l.length-1||(match l[i]?,l[i+1]? with
 | some x,some y=>x.2.1 != y.2.1||mn x != mn y
 | _,_=>false)
def lG (l:List T3)(n:Nat):List T3:=(List.range n).filterMap λi=>if oF l i then l[i]? else none
def qi (w:Int):List T3:=lG (allM w) (allM w).length
def sM (x:T3):Prop:=8<=x.1/\x.1<=512/\1<=x.2.1/\x.2.1<=4
theorem Fq (s w:Int)(h1:8<=s)(h2:s<=512):sM (kL s w):=⟨h1,h2,OA s w 4⟩
theorem r6 {Q:Rg}{s:Sl}{l:List T3}{e1 e2:Nat}(ho:Go.Vc.Own Q U s 3 (j7 l))(hQ:∀b,U.size<=b->Q b)(hl:l.length<=1000)(x:T3){K:Sl->Hp->Prop}(hK:∀s' σ',Ext Q U σ'->Go.Vc.Own Q σ' s' 3 (j7 (l++[x]))->K s' σ') :
 Nw (.cells #[.int .i64 x.1,.int .i64 x.2.1,.int .i64 x.2.2] e1 (0,0)) U λn20 v3=>App s 3 24 e2 [.int .i64 0,.int .i64 0,.int .i64 0] ⟨some n20,1,1⟩ v3 K:=by
 have m:s.len=l.length:=by have:=ho.1;rw[VW]at this;omega
 refine nw (cs:=v3 x) λv p e a=>?_;refine(ho.bO e).app (ys:=v3 x) (λb a=>hQ b O) rfl rfl ?_ (by simp[v3,dQ]) ?_ ?_ mO λs' i _ d g _=>hK s' i ?_ ?_
 ·intro j u hu;rw[add_lit,zH,a.cell];exact hu
 ·simp only;have:(s.len+1)*24<=1001*24:=lW O O;omega
 ·simp only;omega
 ·exact(bK.to e).trans (d.sub λb a=>((ho.bO e).jc a).1)
 ·rw[AZ];exact g
theorem Mp (w:Int)(h:w<2\/16<w){R:Sl->Int->Hp->Prop}(hR:R ⟨none,0,0⟩ 1 U):WO.c w U R:=by
 refine WO.o ?_;unfold WO.v;exact bW.intro (cQ (λa=>cE rfl hR) λa=>cE (zJ O) hR)
theorem Dy (w:Int)(hw1:2<=w)(hw2:w<=16){R:Sl->Int->Hp->Prop}(hR:∀s' σ',bK U σ'->ie σ' s' (qi w)->R s' 0 σ'):WO.c w U R:=by
 refine WO.o ?_;unfold WO.v;refine bW.intro (fR O (cB (zM O) ?_));refine UC (a:=.s) (bb:=bN) (λ(all:Sl) (s:Int) u=>∃(n:Nat) (done:List T3),8<=s/\s<=768/\bK U u/\Go.Vc.Own (λb=>U.size<=b) u all 3 (j7 done)/\done++l5 n s w=l5 64 8 w/\512<=s+8*(n:Int)/\(∀x∈done,sM x)/\done.length+n=64) (λ_ s _=>1000-s.toNat) ⟨64,[],O,O,Ext.refl _ _,Own.nil _ _ _,rfl,O,by simp,by simp⟩ ?_;rintro(all:Sl) (s:Int) u ⟨n,done,hs1,hs2,eu,ho,hdone,hn,hok,hlen⟩;refine cQ (λS=>?_) λN=>?_
 ·obtain⟨n,rfl⟩:∃m,n=m+1:=⟨n-1,O⟩;refine FZ s w O O hw1 hw2 λv2 e2=>?_;refine r6 (ho.bO e2) (λb E=>by have:=eu.1;have:=e2.1;omega) O (kL s w) λall1 v4 e4 h4=>?_;have e04:bK U v4:=Ext.dT (eu.trans e2) e4 λb E=>.inr E;refine Pz s w O O hw1 λd1 d2=>ar O O ⟨⟨n,done++[kL s w],O,O,e04,h4,?_,O,λx B=>?_,by simp;omega⟩,O⟩
  ·rw[←hdone,j3]
   congr 1
   conv=>rhs;rw[l5,zC S]
   rfl
  ·rcases zK.1 B with h1|h1
   ·exact hok x h1
   ·rw[zN]at h1;subst h1;exact Fq s w O O
 ·have W:l5 n s w=[]:=by
   cases n with
   | zero=>rfl
   | succ n=>rw[l5,zB N]
  rw[W,kX]at hdone;refine FZ 512 w O O hw1 hw2 λv6 e6=>?_;refine r6 (ho.bO e6) (λb E=>by have:=eu.1;have:=e6.1;omega) O (kL 512 w) λe v8 e8 J=>?_;have e08:bK U v8:=Ext.dT (eu.trans e6) e8 λb E=>.inr E;rw[hdone]at J;have j:∀x∈allM w,sM x:=λx B=>by
   rcases zK.1 B with h1|h1
   ·rw[←hdone]at h1;exact hok x h1
   ·rw[zN]at h1;subst h1;exact Fq 512 w O O
  have hml:(allM w).length<=65:=by unfold allM;rw[←hdone];simp;omega
  have J:Go.Vc.Own (λb=>U.size<=b) v8 e 3 (j7 (allM w)):=J;generalize hall:allM w=l at J j hml;have hmk:qi w=lG l l.length:=by unfold qi;rw[hall]
  have hl2:e.len=l.length:=by have:=J.1;rw[VW]at this;omega
  refine UC (a:=.s) (bb:=bN) (λ(out:Sl) (z:Int) u=>∃i:Nat,z=(i:Int)/\i<=l.length/\bK v8 u/\Go.Vc.Own (λb=>v8.size<=b) u out 3 (j7 (lG l i))/\(lG l i).length<=i) (λ_ z _=>l.length-z.toNat) ⟨0,rfl,O,Ext.refl _ _,Own.nil _ _ _,by simp[lG]⟩ ?_;rintro(out:Sl) (z:Int) u ⟨i,rfl,hi,eu8,hout,hol⟩;refine cQ (λS=>?_) λN=>?_
  ·have hi':i<l.length:=by omega
   have B:l[i]?=some l[i]:=cV hi';generalize l[i]=x at B;have C:=j x (zG B);have g:lG l (i+1)=lG l i++(if oF l i then[x]else[]):=by
    unfold lG;rw[pT,vA]
    congr 1
    by_cases hk:oF l i=true
    ·simp[hk,B]
    ·simp[hk]
   have hA:∀m,bK u m->ie m e l:=λm d=>Ev (J.bO (eu8.trans d));refine xm (λr u'=>bK u u'/\r=oF l i) (λr u' ⟨p,hr⟩=>?_) λJ3 G=>?_
   ·have P:=hout.bO p;cases hk:oF l i with
    | true=>
     rw[hk]at hr g;refine cE hr (yz (hA u' p) B ?_);refine r6 P (λb E=>by have:=eu8.1;have:=p.1;omega) O x λout1 v12 e12 h12=>?_;refine cP (m:=i+1) O O ⟨⟨i+1,rfl,O,Ext.dT (eu8.trans p) e12 λb E=>.inr E,?_,?_⟩,O⟩
     ·rw[g];exact h12
     ·rw[g];simp;omega
    | false=>
     rw[hk]at hr g;refine cB hr (cP (m:=i+1) O O ⟨⟨i+1,rfl,O,eu8.trans p,?_,?_⟩,O⟩)
     ·rw[g];simpa using P
     ·rw[g];simp;omega
   ·refine⟨λm=>bK u m,Ext.refl _ _,ar O O ?_⟩;refine cO (λH=>G _ _ ⟨Ext.refl _ _,?_⟩) λhnl=>?_
    ·have:i=l.length-1:=by simp only[zT]at H;omega
     unfold oF;rw[this];simp
    ·have hi2:i+1<l.length:=by simp only[mj]at hnl;omega
     have hy:l[i+1]?=some l[i+1]:=cV hi2;generalize l[i+1]=y at hy;have D:=j y (zG hy);have M:oF l i=(x.2.1 != y.2.1||mn x != mn y):=by
      unfold oF;rw[B,hy];have:(i==l.length-1)=false:=by simp only[mj];omega
      rw[this];rfl
     have V:=λ(m:Hp) (d:bK u m)=>(hA m d).2 i x.1 x.2.1 x.2.2 B;have hcy:=λ(m:Hp) (d:bK u m)=>(hA m d).2 (i+1) y.1 y.2.1 y.2.2 hy;obtain⟨b,o,Y,_,_⟩:=V u (Ext.refl _ _);have rx:∀m,bK u m->cell m ⟨b,o+i*3,none⟩=some (.int .i64 x.1)/\cell m ⟨b,o+i*3+1,none⟩=some (.int .i64 x.2.1)/\cell m ⟨b,o+i*3+2,none⟩=some (.int .i64 x.2.2):=λm d=>by
      obtain⟨b',o',A,_,h⟩:=V m d;rw[Y]at A;cases A;exact h
     have Z:∀m,bK u m->cell m ⟨b,o+(i+1)*3,none⟩=some (.int .i64 y.1)/\cell m ⟨b,o+(i+1)*3+1,none⟩=some (.int .i64 y.2.1)/\cell m ⟨b,o+(i+1)*3+2,none⟩=some (.int .i64 y.2.2):=λm d=>by
      obtain⟨b',o',A,_,h⟩:=hcy m d;rw[Y]at A;cases A;exact h
     have L:∀{K:Addr->Prop},K ⟨b,o+i*3,none⟩->Ix e.a e.len (i:Int) 3 K:=λhK=>by
      rw[Y];exact ix O O (by rw[add_lit,dE];exact hK)
     have Q:∀{K:Addr->Prop},K ⟨b,o+(i+1)*3,none⟩->Ix e.a e.len ((i+1:Nat):Int) 3 K:=λhK=>by
      rw[Y];exact ix O O (by rw[add_lit,dE];exact hK)
     refine L ⟨x.2.1,λm d=>by rw[add_lit];exact(rx m d).2.1,cP (m:=i+1) O O (Q ⟨y.2.1,λm d=>by rw[add_lit];exact(Z m d).2.1,?_⟩)⟩;refine cO (λhp=>G _ _ ⟨Ext.refl _ _,by rw[M,hp];rfl⟩) λhp=>?_;refine L ⟨x.1,λm d=>by rw[add_lit];exact(rx m d).1,⟨x.2.1,λm d=>by rw[add_lit];exact(rx m d).2.1,⟨x.2.2,λm d=>by rw[add_lit];exact(rx m d).2.2,?_⟩⟩⟩;refine cP (m:=i+1) O O (Q ⟨y.1,λm d=>by rw[add_lit];exact(Z m d).1,⟨y.2.1,λm d=>by rw[add_lit];exact(Z m d).2.1,⟨y.2.2,λm d=>by rw[add_lit];exact(Z m d).2.2,?_⟩⟩⟩);refine Fp x C.1 C.2.1 C.2.2.1 C.2.2.2 λv13 F=>⟨F,Fp y D.1 D.2.1 D.2.2.1 D.2.2.2 λv14 X=>⟨F.trans X,G _ _ ⟨F.trans X,by rw[M,hp];rfl⟩⟩⟩
  ·have hil:i=l.length:=by omega
   subst hil;refine hR out u (e08.trans eu8) ?_;rw[hmk];exact Ev hout
theorem HG:∀w:Nat,2<=w->w<=16->Qc (qi (w:Int))=true:=by
 have h:((List.range 17).all λw=>decide (w<2)||Qc (qi (w:Int)))=true:=by decide +kernel
 intro w h1 h2;have:=j8.1 h w (zg.2 O);simp only[nj,zU]at this;exact this.resolve_left O
end Go.Ar
namespace Go.Proofs
open Go.Shelf
def Tryz.eM:Go.Shelf.Ren:=⟨fun|6=>263|15=>87|14=>291|28=>128|29=>129|20=>311|21=>312|22=>313|23=>314|24=>315|25=>316|26=>317|27=>318|46=>324|47=>185|48=>186|49=>325|50=>326|57=>328|n=>n,fun|22=>129|24=>135|25=>341|3=>3|39=>145|0=>0|53=>196|55=>55|4=>4|46=>188|45=>187|50=>193|5=>5|9=>9|66=>271|70=>275|76=>324|77=>325|n=>n,fun|n=>n⟩
theorem Tryz.nY:Go.Proofs.SlLaysF0.n6 Tryz.prog Tryz.eM:={
 mixed:=by kernel_rfl
 f6:=⟨Tryz.f263.name,by decide,Tryz.func263.trans (congrArg some (by kernel_rfl))⟩
 f14:=⟨Tryz.f291.name,by decide,Tryz.func291.trans (congrArg some (by kernel_rfl))⟩
 f15:=Tryz.func87.trans (congrArg some (by kernel_rfl))
 f20:=⟨Tryz.f311.name,by decide,Tryz.func311.trans (congrArg some (by kernel_rfl))⟩
 f21:=⟨Tryz.f312.name,by decide,Tryz.func312.trans (congrArg some (by kernel_rfl))⟩
 f22:=⟨Tryz.f313.name,by decide,Tryz.func313.trans (congrArg some (by kernel_rfl))⟩
 f23:=⟨Tryz.f314.name,by decide,Tryz.func314.trans (congrArg some (by kernel_rfl))⟩
 f24:=⟨Tryz.f315.name,by decide,Tryz.func315.trans (congrArg some (by kernel_rfl))⟩
 f25:=⟨Tryz.f316.name,by decide,Tryz.func316.trans (congrArg some (by kernel_rfl))⟩
 f26:=⟨Tryz.f317.name,by decide,Tryz.func317.trans (congrArg some (by kernel_rfl))⟩
 f27:=⟨Tryz.f318.name,by decide,Tryz.func318.trans (congrArg some (by kernel_rfl))⟩
 f28:=Tryz.func128.trans (congrArg some (by kernel_rfl))
 f29:=Tryz.func129.trans (congrArg some (by kernel_rfl))
 f46:=⟨Tryz.f324.name,by decide,Tryz.func324.trans (congrArg some (by kernel_rfl))⟩
 f47:=Tryz.func185.trans (congrArg some (by kernel_rfl))
 f48:=Tryz.func186.trans (congrArg some (by kernel_rfl))
 f49:=⟨Tryz.f325.name,by decide,Tryz.func325.trans (congrArg some (by kernel_rfl))⟩
 f50:=⟨Tryz.f326.name,by decide,Tryz.func326.trans (congrArg some (by kernel_rfl))⟩
 f57:=⟨Tryz.f328.name,by decide,Tryz.func328.trans (congrArg some (by kernel_rfl))⟩
 t0:=Tryz.underlying0
 a0:=Tryz.isAgg0
 z0:=Tryz.sizeOf0
 v0:=Tryz.zeroValue0
 t3:=Tryz.underlying3
 a3:=Tryz.isAgg3
 z3:=Tryz.sizeOf3
 v3:=Tryz.zeroValue3
 t4:=Tryz.underlying4
 a4:=Tryz.isAgg4
 z4:=Tryz.sizeOf4
 v4:=Tryz.zeroValue4
 t5:=Tryz.underlying5
 a5:=Tryz.isAgg5
 z5:=Tryz.sizeOf5
 v5:=Tryz.zeroValue5
 t9:=Tryz.underlying9
 a9:=Tryz.isAgg9
 z9:=Tryz.sizeOf9
 v9:=Tryz.zeroValue9
 t22:=Tryz.underlying129
 a22:=Tryz.isAgg129
 z22:=Tryz.sizeOf129
 v22:=Tryz.zeroValue129
 t25:=Tryz.underlying341
 a25:=Tryz.isAgg341
 z25:=Tryz.sizeOf341
 v25:=Tryz.zeroValue341
 t39:=Tryz.underlying145
 a39:=Tryz.isAgg145
 z39:=Tryz.sizeOf145
 v39:=Tryz.zeroValue145
 t45:=Tryz.underlying187
 a45:=Tryz.isAgg187
 z45:=Tryz.sizeOf187
 v45:=Tryz.zeroValue187
 t46:=Tryz.underlying188
 a46:=Tryz.isAgg188
 z46:=Tryz.sizeOf188
 v46:=Tryz.zeroValue188
 t50:=Tryz.underlying193
 a50:=Tryz.isAgg193
 z50:=Tryz.sizeOf193
 v50:=Tryz.zeroValue193
 t53:=Tryz.underlying196
 a53:=Tryz.isAgg196
 z53:=Tryz.sizeOf196
 v53:=Tryz.zeroValue196
 t55:=Tryz.underlying55
 a55:=Tryz.isAgg55
 z55:=Tryz.sizeOf55
 v55:=Tryz.zeroValue55
 t66:=Tryz.underlying271
 a66:=Tryz.isAgg271
 z66:=Tryz.sizeOf271
 v66:=Tryz.zeroValue271
 t70:=Tryz.underlying275
 a70:=Tryz.isAgg275
 z70:=Tryz.sizeOf275
 v70:=Tryz.zeroValue275
 t76:=Tryz.underlying324
 a76:=Tryz.isAgg324
 z76:=Tryz.sizeOf324
 v76:=Tryz.zeroValue324
 t77:=Tryz.underlying325
 a77:=Tryz.isAgg325
 z77:=Tryz.sizeOf325
 v77:=Tryz.zeroValue325}
end Go.Proofs
namespace Go.Ar
open Go Go.Vc Go.Proofs Go.RowKit Go.Sort Go.Shelf Go.Lib
abbrev sX:=Fin 64×Sl
instance:Inhabited sX:=⟨(0,⟨none,0,0⟩)⟩
def ku (x:sX):List Value:=[.int .i64 (x.1.val:Int),.slice x.2.a x.2.len x.2.cap]
def oP (x y:sX):Int:=(x.1.val:Int)-(y.1.val:Int)
theorem BA (x y:sX)(W:World):Calls Tryz.prog 264 #[.agg #[.int .i64 (x.1.val:Int),.slice x.2.a x.2.len x.2.cap],.agg #[.int .i64 (y.1.val:Int),.slice y.2.a y.2.len y.2.cap]] W λe w'=>e=.returned (.int .i64 (oP x y))/\∃q os',w'=grow (W.drewN q) os':=by
 have g:IntKind.i64.wrap ((x.1.val:Int)-(y.1.val:Int))=oP x y:=by
  have d:=x.1.isLt;have b:=y.1.isLt;unfold oP;exact Uj O O
 go_enter Tryz.func264,Tryz.ntmps264
 go_wp2
 go_ret
 exact⟨rfl,0,_,by rw[alloc_eq_grow,alloc_eq_grow,grow_grow];rfl⟩
theorem yZ:SWO (ltOf oP) where
 irrefl x:=by simp[ltOf,oP]
 trans x y z a h2:=by
  have a:=sG a;have h2:=sG h2;unfold oP at a h2;exact zJ (by unfold oP;omega)
 ntrans x y z a h2:=by
  have a:=uV a;have h2:=uV h2;unfold oP at a h2;exact zM (by unfold oP;omega)
def r5 (x:sX):Nat×Sl:=(x.1.val,x.2)
theorem Fm (l:List sX)(j:Nat)(hj:j<l.length*2):(fE (l.map r5))[j]?=some (flatK ku 2 l.toArray)[j]! := by
 rw[get_flatK _ _ _ _ (by simpa using hj)];have a:j/2<l.length:=by omega
 have e1:l.toArray[j/2]! = l[j/2]:=by rw[getElem!_pos _ _ (by simpa using a)];simp
 have b:(l.map r5)[j/2]?=some (r5 l[j/2]):=by simp[a]
 have:=NH b (d:=j%2) O;rw[show 2*(j/2)+j%2=j by omega]at this;rw[this,e1];have hd:j%2=0\/j%2=1:=by omega
 rcases hd with h|h<;>rw[h]<;>rfl
theorem DU:H4:=by
 intro U F s xs hrow hk hlen R hR;rintro w rfl;have W:s.len=xs.length:=by have:=hrow.1;rw[Kq]at this;omega
 rcases hrow.2 with⟨h0,hc0⟩|⟨b,cs,hF,ha,hb,hle,hcl,ht⟩
 ·have J:xs=[]:=vN.1 O;have:=AnyF.slices_SortFunc_none Tryz.nY s.a s.cap (.func (.func 264) #[] #[]) w;show Calls _ _ #[.slice s.a s.len s.cap,.func (.func 264) #[] #[]] w _;rw[h0];refine this.mono ?_;rintro e Y ⟨rfl,rfl⟩;subst J;exact⟨.refl _,[],rfl,hR [] _ (.refl _) List.Pairwise.nil (Ext.refl _ _) hrow⟩
 ·have M:∀x∈xs,x.1<64:=hk
  let toK:Nat×Sl->sX:=λx=>(Fin.ofNat 64 x.1,x.2)
  have u:(xs.map toK).map r5=xs:=by
   rw[k6]
   conv=>rhs;rw[←uk xs]
   apply j5;intro x hx;simp only[Function.comp,toK,r5,Fin.ofNat,id];rw[uD (M x hx)]
  have L:(xs.map toK).length=xs.length:=by simp
  generalize xs.map toK=l at u L;have B:=hb.lt;have V:HoldsK ku 2 w b 0 l.toArray:=by
   intro j hj;simp only[size_flatK,xK]at hj;have hc:Vc.cell w.heap ⟨b,0+j,none⟩=some (flatK ku 2 l.toArray)[j]! := by
    rw[hb.cell,zH,←Fm l j hj,u];rw[←ht,zj,zC (by rw[Kq];omega)]
   exact⟨hc,hb.m6⟩
  have eg:∀args w,(callFunc 264 args).run Tryz.prog w=.ok (.enter 264 args) w:=enters_of Tryz.func264 (by kernel_rfl) rfl;have z:∀w,(isAgg (Tryz.eM.t 24)).run Tryz.prog w=.ok true w:=λw=>by
   have h:=KB (P:=Tryz.prog) (t:=Tryz.eM.t 24) (d:=(Tryz.prog.underlying (Tryz.eM.t 24)).getD .bool) (by kernel_rfl) w
   rwa [show V4 ((Tryz.prog.underlying (Tryz.eM.t 24)).getD .bool)=true by kernel_rfl]at h
  have K:∀w,(Go.sizeOf (Tryz.eM.t 24)).run Tryz.prog w=.ok 2 w:=λw=>by
   have h:=QE (P:=Tryz.prog) (t:=Tryz.eM.t 24) (by kernel_rfl) w
   rwa [show Tryz.prog.cellsOf (Tryz.eM.t 24)=2 by kernel_rfl]at h
  have A:=AnyQ.slices_SortFunc Tryz.nY 2 z K ku (λ_=>rfl) (λx v Q=>by simp only[ku,zW,List.not_mem_nil,or_false]at Q;rcases Q with rfl|rfl<;>rfl) oP yZ 264 #[] b 0 s.cap l.toArray w eg (λ_ _ _ _ x y=>BA x y _) V B (by simp only[xK];omega)
  show Calls _ _ #[.slice s.a s.len s.cap,.func (.func 264) #[] #[]] w _;rw[ha,show s.len=l.toArray.size by simp only[xK];omega];refine A.mono ?_;rintro e Y ⟨rfl,d',n,os,S,H,rfl⟩;have g:d'.size=l.length:=by simpa using S.1
  have r:d'.toList.Perm l:=by
   have G:=S.2.2;rw[show l.toArray.size=d'.size by simp[g]]at G;have e1:(d'.extract 0 d'.size)=d':=by simp
   have e2:(l.toArray.extract 0 d'.size)=l.toArray:=by rw[g];simp
   rw[e1,e2]at G;simpa using G
  obtain⟨Z,E⟩:=hb;have m:(sortWorldK ku 2 w b 0 n d' os).heap=(w.heap.modify b (onCells (putCells id 0 (flatK ku 2 d'))))++os:=rfl;have p:(w.heap.modify b (onCells (putCells id 0 (flatK ku 2 d')))).size=w.heap.size:=by simp
  refine⟨⟨rfl,rfl,rfl,by rw[m,yq,p];omega⟩,[],rfl,?_⟩;rw[m];have C:Ext F w.heap ((w.heap.modify b (onCells (putCells id 0 (flatK ku 2 d'))))++os):=by
   refine⟨by rw[yq,p];omega,λq hq X=>?_⟩;rw[ta (by rw[p];exact hq),uB,zB λ(e:b=q)=>X (by rw[←e];exact hF)]
  refine hR (d'.toList.map r5) _ ?_ ?_ C ⟨?_,.inr ⟨b,(putCells id 0 (flatK ku 2 d') cs.toArray).toList,hF,ha,⟨Z,?_⟩,hle,?_,?_⟩⟩
  ·rw[←u];exact r.map _
  ·rw[sR];rw[mg];intro i j hi hj hij;have D:=H i j O hij (by simp only[uZ]at hj;simp only[xK];omega);rw[getElem!_pos d' i (by simpa using hi),getElem!_pos d' j (by simpa using hj)]at D;have D:=uV D;unfold oP at D;simp only[r5,Array.getElem_toList];omega
  ·rw[Kq,zl,uZ,g];omega
  ·rw[ta (by rw[p];exact B),uB,zC rfl,E];simp[onCells]
  ·simp[putCells,hcl]
  ·rw[Kq,zl,uZ,g];apply zo;intro j;rw[zj];by_cases hj:j<l.length*2
   ·rw[zC hj,Fm d'.toList j (by simpa[g]using hj)];have N:j<cs.length:=by
     have:l.length*2<=s.cap*2:=lX _ O;omega
    simp only[putCells,vu,Array.getElem?_mapIdx,List.getElem?_toArray,cV N,zX];rw[zC ⟨O,by rw[size_flatK,g];omega⟩];simp
   ·rw[zB hj,zV (by rw[Kq,zl,uZ,g];omega)]
end Go.Ar
namespace Go.Proofs
open Go.Vc
set_option maxRecDepth 100000
def XK.h:Hn:=.q .o2 (.q (.q (.cR (.seq [.op,.op,.op,.cX false 3 (RI.ops 3)])) .aK) (.q .o3 (.q (.q .o2 .aK) (.q (.q .o1 (.k (.loop [(8,.I)] (.q (.q .o4 (.c .l .l)) (.q (.k .o6) .o3))))) .aL))))
def XK.v (a b c d e f:Int)(g:Sl)(h:Int)(i:Hp)(j:Option Addr->Hp->Prop):Prop:=aV #[.I a,.I b,.I c,.I d,.I e,.I f] 25 i λk l=>aQ k 0 l λm=>aQ k 1 l λn=>aQ k 2 l λo=>aQ k 3 l λp=>aQ k 4 l λq=>aQ k 5 l λr=>WH.c m n o p q r l λs t=>bW (λu v=>If u (j none v) (aQ k 0 v λw=>aQ k 1 v λx=>aQ k 2 v λy=>aQ k 3 v λz=>aQ k 4 v λaa=>aQ k 5 v λab=>Xs.c w x y z aa ab v λac ad=>If ac.isNone (j none ad) (Yo [bN] (λae=>ae 0 ad) λaf (ag:Int) ah=>If (ag<((g.len:Nat):Int)) (Ix g.a g.len ag 8 λai=>aQ ai 0 ah λaj=>aQ ai 1 ah λak=>aQ ai 2 ah λal=>aQ ai 3 ah λam=>aQ ai 4 ah λan=>aQ ai 5 ah λao=>aQ ai 6 ah λap=>bC ai 7 ah λaq=>Xe.c ac aj ak al am an ao ap aq ah λar au=>bL (ag+1) λav=>af av au) (j ac ah)))) λaw=>If s (aw true t) (XM.c g h t λax ay=>aw ax ay)
theorem XK.o {a b c d e f g h i j}(k:XK.v a b c d e f g h i j):XK.c a b c d e f g h i j:=Wa Tryz.func11 (x:=XK.h) (R0 k)
def XM.h:Hn:=.q .o1 (.q .o5 .l)
def XM.v (a:Sl)(b:Int)(c:Hp)(d:aO):Prop:=d (decide (((a.len:Nat):Int)>b)) c
theorem XM.o {a b c d}(e:XM.v a b c d):XM.c a b c d:=Wa Tryz.func12 (x:=XM.h) (R0 e)
def W8.h:Hn:=.q .o1 (.q .o2 (.q (.q .o2 .aK) (.q .o7 (.q (.q (.cR (.seq [.op,.op,.op,.cX false 2 [.op,.op]])) .aK) (.q .o7 (.q (.q (.cR (.seq [.op,.op,.op,.cX false 2 [.op,.op],.op,.cX false 3 (RI.ops 3)])) .aK) (.q .o8 (.q (.q (.cR (.seq [.op,.op,.op,.cX false 4 (RI.ops 4),.op,.cX false 4 (RI.ops 4),.op,.cX false 3 (RI.ops 3)])) .aK) (.q .o6 (.q (.cR (.seq [.op,.op,.op,.cX true 2 [.op,.op],.op,.cX true 4 (RI.ops 4),.op,.cX true 4 (RI.ops 4),.op])) .l))))))))))
def W8.v (a:Hp)(b:aO):Prop:=Xr.c a λc d=>If c.isNone (b false d) (Qu.c c d λe f g=>bW (λh i=>If h (b false i) (Xn.c e 0 24 8 i λj k l=>bW (λm n=>bW (λo p=>If o (b false p) (Xk.c e j p λq r s=>bW (λt u=>bW (λv w=>bW (λx y=>If x (b false y) (Xh.c e 4128 7 y λz aa=>Xh.c e 4136 7 aa λab ac=>bW (λad ae=>bW (λaf ag=>bW (λah ai=>b ah ai) λaj=>If af (Xj.c e 0 j ag λak al=>aj (ak==9) al) (aj false ag)) λam=>If ad (Xj.c e 0 j ae λan ao=>am (an==0) ao) (am false ae)) λap=>If (z==0) (ap (ab==7) ac) (ap false ac))) λaq=>If v (aq true w) (Xa.c c 4136 (-4137) w λar au=>aq (ar != 0) au)) λav=>If t (av true u) (Xj.c e 0 j u λaw ax=>av (aw != 10) ax)) λay=>If (r != 0) (ay true s) (aV #[.I 4136] 3 s λaz a0=>XH.c q ⟨some az,1,1⟩ a0 λa1 a2=>ay (!a1) a2))) λa3=>If m (a3 true n) (Xa.c c 4136 5 n λa4 a5=>a3 (a4 != 0) a5)) λa6=>If (j != 4112) (a6 true l) (a6 (k != 0) l))) λa7=>If (f != 0) (a7 true g) (a7 e.isNone g))
theorem W8.o {a b}(c:W8.v a b):W8.c a b:=Wa Tryz.func13 (x:=W8.h) (R0 c)
def Yz.h:Hn:=.q .o2 (.q (.q (.cR (.seq [.op,.op,.op,.op,.cX false 3 (RI.ops 3)])) (.c (.q .o3 .l) .l)) (.q (.oq 12) .l))
def Yz.v (a:Sl)(b c d e f g h:Int)(i:ByteArray)(j:Hp)(k:aN):Prop:=aV #[.I b,.I c,.I d,.I e,.I f,.I g,.I h,.string i] 44 j λl m=>aQ l 4 m λn=>bW (λo p=>If o (aQ l 5 p λq=>k q p) (aQ l 4 p λr=>Nz ((a.len:Nat):Int) <| Ix a.a a.len (r.tmod ((a.len:Nat):Int)) 1 λs=>bM s p λt=>aQ l 5 p λu=>bL (t+u) λv=>k v p)) λw=>If (n<0) (w true m) (w (((a.len:Nat):Int)==0) m)
theorem Yz.o {a b c d e f g h i j k}(l:Yz.v a b c d e f g h i j k):Yz.c a b c d e f g h i j k:=Wa Tryz.func18 (x:=Yz.h) (R0 l)
def Xe.h:Hn:=.q .o2 (.q (.cR (.tail 5 (RI.ops 5) [.op,.op])) (.q (.q .o2 (.k (.q .o2 (.c (.q (.cR (.held true [10] (.tk [0,1,2,3,4,5,6,7,8,9] (.all [(10,.tk [11,12,13,14,15] (.done))])))) (.q (.q .o2 (.c (.q (.o 11) (.cR (.held true [15] (.tk [0,1,2,3,4,5,6,7,8,9,10] (.all [(11,.all [(12,.take 13 (.take 14 (.all [(15,.done)])))])]))))) .l)) .aL)) (.ka [(69,.one .b)] (.q .o2 (.c .l .o2)) (.c (.q (.cR (.tail 7 (RI.ops 7) [.op,.op])) (.q (.q .o2 (.c (.q .o1 (.q (.q .o1 (.k (.loop [(9,.one .s),(10,.I)] (.q (.q .o7 (.c .l .l)) (.q (.k (.q .gQ (.c (.o 11) .l))) .o3))))) .o5)) .l)) .aL)) (.q .o2 (.c (.q (.o 11) .aL) (.q .o2 (.c .o5 (.q .o2 (.c (.q (.o 11) .aL) (.q .o2 (.c (.q (.cR (.tail 7 (RI.ops 7) [.op,.op])) .l) (.q .o2 (.c (.q (.o 12) .aL) .l)))))))))))))))) .aM))
def Xe.v (a:R2)(b c d e f g h:Int)(i:ByteArray)(j:Hp)(k:aN):Prop:=aV #[.I b,.I c,.I d,.I e,.I f,.I g,.I h,.string i] 44 j λl m=>bE a 1 m λo=>aQ l 0 m λp=>aQ l 1 m λq=>aQ l 2 m λr=>aQ l 3 m λs=>aQ l 4 m λt=>aQ l 5 m λu=>aQ l 6 m λv=>bC l 7 m λw=>Yz.c o p q r s t u v w m λx y=>aQ l 0 y λz=>If (z==20) (eL y λaa=>bU a λab=>aU aa ab 0 λac=>aS aa l 1 λad=>aS aa l 2 λae=>aS aa l 3 λaf=>Xn.c ac ad ae af y λag ah ai=>If (ah==0) (bE a 1 ai λak=>aV #[.I ag] 3 ai λal am=>App ak 1 8 3 [.I 0] ⟨some al,1,1⟩ am λan ao=>bU a λap=>aR ap 1 (.slice an.a an.len an.cap) ao λaq=>eL aq λar=>bU a λau=>aT ar au 2 λav=>aS ar l 2 λaw=>aS ar l 3 λax=>aV #[.I ag,.I aw,.I ax] 60 aq λay az=>And (ar az) <| App av 3 24 60 [.I 0,.I 0,.I 0] ⟨some ay,1,1⟩ az λa0 a1=>And (ar a1) <| bU a λa2=>aR a2 2 (.slice a0.a a0.len a0.cap) a1 λa3=>k ah a3) (k ah ai)) (Jn [.b] (λ(a4:Bool) a5=>If a4 (bF a 0 a5 λa7=>aQ l 1 a5 λa8=>Xj.c a7 a8 x a5 λa9 ba=>If (a9==0) (Yo [.s,bN] (λbb=>bb ⟨none,0,0⟩ 0 ba) λbc (bd:Sl) (be:Int) bf=>bE a 2 bf λbh=>
 If (be<((bh.len:Nat):Int)) (bE a 2 bf λbj=>Ix bj.a bj.len be 3 λbk=>aQ bk 0 bf λbl=>If (bl != x) (bE a 2 bf λbn=>Ix bn.a bn.len be 3 λbo=>aQ bo 0 bf λbp=>aQ bo 1 bf λbq=>aQ bo 2 bf λbr=>aV #[.I bp,.I bq,.I br] 60 bf λbs bt=>App bd 3 24 60 [.I 0,.I 0,.I 0] ⟨some bs,1,1⟩ bt λbu bv=>bL (be+1) λbw=>bc bu bw bv) (bL (be+1) λbx=>bc bd bx bf)) (bU a λbz=>aR bz 2 (.slice bd.a bd.len bd.cap) bf λb0=>k a9 b0)) (k a9 ba)) (If (z==23) (bF a 0 a5 λb2=>Xk.c b2 x a5 λb3 b4 b5=>k b4 b5) (If (z==24) (bF a 0 a5 λb7=>Xz.c b7 a5 λb8 b9=>k 0 b9) (If (z==25) (bF a 0 a5 λcb=>YJ.c cb x a5 λcc cd ce=>k cd ce) (If (z==26) (bF a 0 a5 λcg=>aQ l 6 a5 λch=>Xh.c cg x ch a5 λci cj=>k ci cj) (If (z==27) (bF a 0 a5 λcl=>YG.c cl x a5 λcm cn co cp cq cr=>aV #[.I 0,.I 0,.I 0,.I 0] 52 cr λcs ct=>aR cs 0 (.I cm) ct λcu=>aR cs 1 (.I cn) cu λcv=>aR cs 2 (.I co) cv λcw=>aR cs 3 (.I cp) cw λcx=>k cq cx) (k 0 a5))))))) λcy=>If (z==21) (cy (z==21) y) (cy (z==22) y))
theorem Xe.o {a b c d e f g h i j k}(l:Xe.v a b c d e f g h i j k):Xe.c a b c d e f g h i j k:=Wa Tryz.func19 (x:=Xe.h) (R0 l)
def Xr.h:Hn:=.q .o1 (.q .o4 .l)
def Xr.v (a:Hp)(b:Option Addr->Hp->Prop):Prop:=Wv.c 8 64 1 1 1024 2 a λc d=>b c d
theorem Xr.o {a b}(c:Xr.v a b):Xr.c a b:=Wa Tryz.func37 (x:=Xr.h) (R0 c)
def WH.h:Hn:=.q .o2 (.q .o5 .l)
def WH.v (a b c d e f:Int)(g:Hp)(h:aO):Prop:=aV #[.I a,.I b,.I c,.I d,.I e,.I f] 25 g λi j=>bM ((i.add 1).add 0) j λk=>h (decide (k>128)) j
theorem WH.o {a b c d e f g h}(i:WH.v a b c d e f g h):WH.c a b c d e f g h:=Wa Tryz.func38 (x:=WH.h) (R0 i)
def Xs.h:Hn:=.q .o2 (.q .o3 (.q (.q .o2 .aK) (.q .o7 (.q (.q (.cR (.seq [.op,.op,.op,.cX false 2 [.op,.op]])) .aK) (.q .o4 .l)))))
def Xs.v (a b c d e f:Int)(g:Hp)(h:Option Addr->Hp->Prop):Prop:=aV #[.I a,.I b,.I c,.I d,.I e,.I f] 25 g λi j=>aQ i 0 j λk=>aQ i 1 j λl=>aQ i 2 j λm=>aQ i 3 j λn=>aQ i 4 j λo=>aQ i 5 j λp=>Wv.c k l m n o p j λq r=>If q.isNone (h none r) (Qu.c q r λs t u=>bW (λv w=>If v (h none w) (aV #[.pointer s,.slice none 0 0,.slice none 0 0] 37 w λx y=>h (some x) y)) λz=>If (t != 0) (z true u) (z s.isNone u))
theorem Xs.o {a b c d e f g h}(i:Xs.v a b c d e f g h):Xs.c a b c d e f g h:=Wa Tryz.func39 (x:=Xs.h) (R0 i)
def Wv.h:Hn:=.q .o2 (.q .o8 (.q .o9 (.q (.q .o2 .aK) .aL)))
def Wv.v (a b c d e f:Int)(g:Hp)(h:Option Addr->Hp->Prop):Prop:=aV #[.I a,.I b,.I c,.I d,.I e,.I f] 25 g λi j=>aQ i 0 j λk=>WO.c k j λl m n=>bM ((i.add 1).add 0) n λo=>bM ((i.add 1).add 1) n λp=>bM ((i.add 1).add 2) n λq=>bM ((i.add 1).add 3) n λr=>bM ((i.add 1).add 4) n λs=>Kl.c l o p q r s n λt u v=>If (u != 0) (h none v) (h t v)
theorem Wv.o {a b c d e f g h}(i:Wv.v a b c d e f g h):Wv.c a b c d e f g h:=Wa Tryz.func69 (x:=Wv.h) (R0 i)
end Go.Proofs
namespace Go.Ar
open Go Go.Vc Go.Proofs
variable {U w w':Hp}{F P Q:Rg}{L:dM}{H H':Hw}{held:List Pc}{s0:Sp}{t n:Nat}{g:Th}
structure fQ where
 kd:Int
 th:Int
 a:Int
 b:Int
 of:Int
 pl:Int
 va:Int
 s:ByteArray
def qp (d:fQ):List Value:=[.int .i64 d.kd,.int .i64 d.th,.int .i64 d.a,.int .i64 d.b,.int .i64 d.of,.int .i64 d.pl,.int .i64 d.va,.string d.s]
def kY (x:Int):Prop:=-9223372036854775808<=x/\x<=9223372036854775807
structure lK (d:fQ):Prop where
 a:kY d.a
 b:kY d.b
 pl:kY d.pl
 va:kY d.va
structure jo (U:Hp) (sl:Sl) (ds:List fQ):Prop where
 len:sl.len=ds.length
 at_:∀(i:Nat) (d:fQ),ds[i]?=some d->∃b o,sl.a=some ⟨b,o,none⟩/\b<U.size/\∀(j:Nat) v,(qp d)[j]?=some v->cell U ⟨b,o+i*8+j,none⟩=some v
 i:∀d∈ds,lK d
 xW:ds.length<=9223372036854775807
theorem jo.bO {sl:Sl}{ds:List fQ}(h:jo U sl ds)(e:bK U w):jo w sl ds:=⟨h.len,λi d g=>by
 obtain⟨b,o,m,r,p⟩:=h.at_ i d g;exact⟨b,o,m,by have:=e.1;omega,λj v a=>by rw[QP e r id];exact p j v a⟩,h.i,h.xW⟩
theorem jo.rd {sl:Sl}{ds:List fQ}(h:jo U sl ds)(e:bK U w){i:Nat}{d:fQ}(hx:ds[i]?=some d){K:Addr->Prop}(hK:∀b o,(∀w',bK U w'->∀(j:Nat) v,(qp d)[j]?=some v->cell w' ⟨b,o+j,none⟩=some v)->K ⟨b,o,none⟩):Ix sl.a sl.len (i:Int) 8 K:=by
 obtain⟨b,o,p,u,r⟩:=h.at_ i d hx;have x:=(cW.1 hx).1;have g:=h.len;rw[p];refine ix O O ?_;rw[add_lit,dE];exact hK b _ λw' s j v m=>by rw[QP s u id];exact r j v m
theorem AA {b o i:Nat}{h:Hp}{x:ByteArray}{K:ByteArray->Prop}(hc:cell h ⟨b,o+i,none⟩=some (.string x))(hK:K x):wC (Addr.add ⟨b,o,none⟩ i) h K:=⟨x,by rw[add_lit];exact hc,hK⟩
theorem _root_.Go.Vc.bY.rT {b o i:Nat}{cs:List Value}(hb:bY U b cs){x:ByteArray}{K:ByteArray->Prop}(hc:cs[o+i]?=some (.string x))(hK:K x):wC (Addr.add ⟨b,o,none⟩ i) U K:=⟨x,by rw[add_lit,hb.cell];exact hc,hK⟩
def rU (ad:List Int)(d:fQ):Int:=if d.of<0\/ad=[]then d.pl else IntKind.i64.wrap (ad.getD (d.of.toNat%ad.length) 0+d.pl)
theorem IN {ad:List Int}{d:fQ}(h:lK d):kY (rU ad d):=by
 unfold rU;split
 ·exact h.pl
 ·exact JK _
theorem Rr {addrs:Sl}{ad:List Int}(hs:cU addrs 1 (Wo ad) U F)(d:fQ){R:aN}(hR:∀σ',bK U σ'->R (rU ad d) σ'):Yz.c addrs d.kd d.th d.a d.b d.of d.pl d.va d.s U R:=by
 refine Yz.o ?_;unfold Yz.v;have x:addrs.len=ad.length:=by have:=hs.1;simp[Wo]at this;omega
 refine nw (cs:=qp d) λv D e j=>j.rI rfl (KE (λr w=>w=v/\r=decide (d.of<0\/ad=[])) (λr w ⟨B,y⟩=>?_) λJ z=>cQ (λm=>z _ _ ⟨rfl,by rw[zJ (.inl m)]⟩) λm=>z _ _ ⟨rfl,?_⟩)
 ·subst B;have g:=hR w e;by_cases hc:d.of<0\/ad=[]
  ·refine cE (by rw[y];exact zJ hc) (j.rI rfl ?_);unfold rU at g;rw[zC hc]at g;exact g
  ·have i:0<ad.length:=pI.2 λh=>hc (.inr h);refine cB (by rw[y];exact zM hc) (j.rI rfl (nz O ?_));have A:0<=d.of:=by omega
   have C:d.of.tmod (addrs.len:Int)=((d.of.toNat%ad.length:Nat):Int):=by
    rw[Qz A,x,Int.natCast_emod,Int.toNat_of_nonneg A]
   rw[C];have p:d.of.toNat%ad.length<ad.length:=tJ _ i;have u:ad[d.of.toNat%ad.length]?=some ad[d.of.toNat%ad.length]:=cV p;refine(cU.loc _ _ _ |>.bO (aH.cut hs) e).mY u (j.rI rfl (yo ?_));unfold rU at g;rw[zB hc,zP,u]at g;exact g
 ·rw[x];rw[lQ];simp only[zT,zU];constructor
  ·intro h;exact .inr (vN.1 O)
  ·rintro(h|h)
   ·exact(m h).elim
   ·rw[h];rfl
theorem Jk {l:Sl}{most:Int}{R:aO}(hR:R (decide ((l.len:Int)>most)) U):XM.c l most U R:=by
 refine XM.o ?_;unfold XM.v;exact hR
theorem LX {xs:List (Int×Int×Int)}(h:Qc xs=true):(xs.map ZZ).map mw=xs:=by
 rw[k6]
 conv=>rhs;rw[←uk xs]
 apply j5;intro t ht;obtain⟨i,b⟩:=zQ ht;have:=((Z7 xs).1 h).2.2.1 i t b;obtain⟨c,_,a,e,d,g⟩:=Gb this;simp only[Function.comp,id];rw[show ZZ t=c from a];unfold mw;rw[←e,←d,←g]
theorem R7 {xs:List (Int×Int×Int)}(h:Qc xs=true):(xs.map ZZ).length<=40/\∀c∈xs.map ZZ,c.ok:=by
 refine⟨by have:=((Z7 xs).1 h).2.1;simpa using this,λc e=>?_⟩;obtain⟨t,b,rfl⟩:=zE.1 e;obtain⟨i,g⟩:=zQ b;have:=((Z7 xs).1 h).2.2.1 i t g;obtain⟨c,a,d,_⟩:=Gb this;rw[show ZZ t=c from d];exact a
structure sA (H:Hw) (aF:Int):Prop where
 hi:HI H [] (KZ H.cf.aF)
 cf:lj H
 pg:(H.cf.aF:Int)=aF
 live:H.live=[]
 ph:∀g∈H.bQ,g.ph=none
 th:1<=H.cf.threads
theorem DT {xs:List (Int×Int×Int)}{p a t b r:Int}(h:Qc xs=true)(hc:qY p a t b r=true):sA (VP (xs.map ZZ) ⟨p.toNat,a.toNat,t.toNat,b.toNat,r.toNat⟩) p:=by
 obtain⟨⟨u,x,y⟩,⟨j,m⟩,⟨s,w⟩,_⟩:=(Fe p a t b r).1 hc;obtain⟨e,d⟩:=R7 h;refine⟨Sy (cf:=⟨p.toNat,a.toNat,t.toNat,b.toNat,r.toNat⟩) aC aC aC aC e d,⟨by simp only[VP];omega,by simp[VP],?_⟩,by simp only[VP];omega,rfl,λg i=>by rw[y6 i],by simp only[VP];omega⟩;show Qc ((xs.map ZZ).map mw)=true;rw[LX h];exact h
theorem Il (g:Gl U)(gd:Gd U)(b b1 b2 b3 b4 b5:Int){R:Option Addr->Hp->Prop}(h0:∀σ',bK U σ'->R none σ')
 (h1:∀σ' L N H,bK U σ'->U.size<=N->N<=σ'.size->HH σ' (λb=>N<=b) L H->sA H b1->R (some ⟨L.p,0,none⟩) σ'):Wv.c b b1 b2 b3 b4 b5 U R:=by
 refine Wv.o ?_;unfold Wv.v;refine nw (cs:=[.int .i64 b,.int .i64 b1,.int .i64 b2,.int .i64 b3,.int .i64 b4,.int .i64 b5]) λv E e j=>j.rI rfl ?_;by_cases hw:2<=b/\b<=16
 ·refine Dy b hw.1 hw.2 λs D e1 w=>?_;have d:=e1.bT j id;have a:=e.trans e1;have m:Qc (qi b)=true:=by
   have:=HG b.toNat O O;rw[show((b.toNat:Nat):Int)=b by omega]at this;exact this
  refine d.eY rfl (d.eY rfl (d.eY rfl (d.eY rfl (d.eY rfl ?_))));refine Ao w (g.bO a) (gd.bO a) b1 b2 b3 b4 b5 (λr=>by rw[m]at r;cases r) (λ_ A u e2=>?_) λ_ A u L e2 B=>?_
  ·exact cE rfl (h0 u (a.trans e2))
  ·exact cB rfl (h1 u L D.size _ (a.trans e2) a.1 e2.1 B (DT m A))
 ·refine Mp b O (j.eY rfl (j.eY rfl (j.eY rfl (j.eY rfl (j.eY rfl ?_)))));have w:ie v ⟨none,0,0⟩ []:=⟨rfl,λi x y z C=>by simp at C⟩;refine Ao w (g.bO e) (gd.bO e) b1 b2 b3 b4 b5 (λ_ u e2=>cE rfl (h0 u (e.trans e2))) (λm=>?_) λm=>?_
  ·exact absurd m aB
  ·exact absurd m aB
def Safe (H:Hw)(d:fQ)(x:Int)(e:Int×Bk):Prop:=(∀j,fG H j≠some (.find e.1))/\¬((d.kd=3\/d.kd=1\/d.kd=6)/\e.1<=x/\x<e.1+e.2.2.1)
structure qe (H:Hw) (d:fQ) (x:Int) (H':Hw):Prop where
 hi:∃held s0,HI H' held s0
 kp:Qr H' H
 fx:∀e∈H.live,Safe H d x e->e∈H'.live/\(∀w:Nat,e.1<=((8*w:Nat):Int)->((8*w:Nat):Int)<e.1+e.2.2.1->H'.sp.wd w=H.sp.wd w)/\∀j,fG H' j≠some (.find e.1)
theorem qe.op (h:HI H held s0){d:fQ}{x:Int}(o:fY H H')(hl:∀e∈H.live,Safe H d x e->e∈H'.live):qe H d x H':=
 ⟨o.hi,o.kp,λe b a=>⟨hl e b a,h.kl o.ks e b,λj=>by rw[o.ph];exact a.1 j⟩⟩
theorem qe.ar {d:fQ}{x:Int}(o:lY H H'):qe H d x H':=
 ⟨o.hi,o.kp,λe a b=>⟨by rw[o.live];exact a,o.kl e a,λj=>by unfold fG;rw[o.bQ];exact b.1 j⟩⟩
theorem HI.re (h:HI H held s0){e:Int×Bk}(he:e∈H.live):8<=e.2.2.1/\0<=e.1/\e.1%8=0/\e.2.2.1%8=0/\e.1+e.2.2.1<=270000:=by
 obtain⟨_,p,g,B,E,J,K,_⟩:=h.lv e he;have z:=h.yw.size_pos g;have F:=h.yw.jE g;obtain⟨A,u,hd⟩:=h.yw.hf p g;have G:p.addr%8=0:=by
  rcases hd with⟨_,_,r,hr,c2,c3⟩|⟨j,c,c1,c2,c3,c4,_⟩
  ·omega
  ·obtain⟨a,y,b,w⟩:=c4;have:a=c:=Option.some.inj (b.1.symm.trans c2);subst this;have m:=(h.yw.ga _ A u).cD j a y b;obtain⟨l,s,i,D,C,e,_⟩:=(Vs m).1 w;have d:=m.ok;unfold bZ.ok at d;unfold at_ at e;have x:a.size=8*(a.size/8):=by omega
   have:i*a.size=8*(i*(a.size/8)):=by rw[Nat.mul_left_comm,←x]
   omega
 omega
theorem qe.free (h:HI H held s0){d:fQ}{x thread e:Int}(hd:d.kd=1)(o:fY H H')(hf:ot H thread x H' e):qe H d x H':=by
 refine qe.op h o λj a g=>?_;have m:=h.re a;rcases hf with⟨_,h2,_⟩|⟨_,_,_,h4⟩|⟨_,b,_,_,h4⟩
 ·rw[h2];exact a
 ·rw[h4];exact a
 ·rw[h4];refine Gr.2 ⟨a,λi=>g.2 ⟨.inr (.inl hd),O,O⟩⟩
theorem qe.step (h:HI H held s0){d:fQ}{x:Int}(hg:H.bQ[t]?=some g){p:Ph}(hp:g.ph=some p):qe H d x (Qq H t p):=by
 have J:=(cW.1 hg).1;have s:=h.IW hg hp;have E:fG H t=some p:=by unfold fG;rw[hg];exact hp
 have live:∀e∈H.live,p≠.find e.1->e∈(Qq H t p).live:=λe i w=>by
  by_cases hf:k5 p
  ·obtain⟨_,_,_,K,m⟩:=qj h hg hp hf;by_cases u:∃y,p=.find y
   ·obtain⟨y,rfl⟩:=u;cases hm:bV H.live y with
    | none=>rw[((m y rfl).1 hm).2.2];exact i
    | some b=>
     rw[((m y rfl).2 b hm).2];exact Gr.2 ⟨i,λa=>w (by rw[a])⟩
   ·rw[(K λy a=>u ⟨y,a⟩).2];exact i
  ·obtain⟨cl,G,z⟩:=Bs h hg hp hf;obtain⟨_,r⟩:=qd h hg hp z;rcases r with⟨_,_,_,e2,_⟩|⟨_,_,_,e4⟩|⟨_,_,e3,e4⟩
   ·rw[e2];exact i
   ·rw[e4];exact i
   ·rw[e4];exact(Gi e3).2 (.inl i)
 have D:∀y,(Wt H t p).2.1≠some (.find y):=λy a=>by
  by_cases hf:k5 p
  ·obtain⟨_,_,r,_⟩:=qj h hg hp hf;rcases r with⟨p',C,e1,_,e3,_⟩|e1
   ·rw[e1]at a;exact e3 y (Option.some.inj a)
   ·rw[e1]at a;cases a
  ·obtain⟨cl,G,z⟩:=Bs h hg hp hf;obtain⟨_,r⟩:=qd h hg hp z;rcases r with⟨p',C,e1,_,_,e4,_⟩|⟨e1,_⟩|⟨e1,_⟩
   ·rw[e1]at a;cases a;exact e4.elim
   ·rw[e1]at a;cases a
   ·rw[e1]at a;cases a
 refine⟨s.hi,Ug H t p,λe i F=>⟨live e i λu=>F.1 t (by rw[E,u]),h.kl s.ks e i,λj=>?_⟩⟩;by_cases hj:j=t
 ·subst hj;obtain⟨C,B,A⟩:=U9 (p:=p) J;unfold fG;rw[B];show C.ph≠_;rw[A];exact D _
 ·unfold fG;rw[Uc p hj];exact F.1 j
end Go.Ar
namespace Go.Ar
open Go Go.Vc Go.Proofs
variable {U w w':Hp}{F P Q X:Rg}{L:dM}{H H':Hw}{held:List Pc}{s0:Sp}{t n:Nat}{g:Th}
structure gU (σ0 U:Hp) (L:dM) (H:Hw) (held:List Pc) (s0:Sp) (P Q:Rg) (addrs:Sl) (ad:List Int):Prop where
 e:bK σ0 U
 h:HH U P L H
 hi:HI H held s0
 cf:lj H
 pg:H.cf.aF<=128
 pP:∀b,P b->σ0.size<=b/\b<U.size
 pQ:∀b,Q b->σ0.size<=b/\b<U.size/\¬P b
 row:bR addrs 1 (Wo ad) U Q
 al:ad.length<=60
 g0:iN (λb=>σ0.size<=b)/\¬σ0.size<=1
variable {σ0:Hp}{addrs:Sl}{ad:List Int}
theorem gU.step (p:gU σ0 U L H held s0 P Q addrs ad){ts':List eH}(e:Ext P U w)(h':HH w (Grow P U) {L with ts:=ts'} H'){held':List Pc}{s0':Sp}(hi':HI H' held' s0')(k:Qr H' H) :
 gU σ0 w {L with ts:=ts'} H' held' s0' (Cut (Grow P U) w) Q addrs ad:=by
 have r:=e.1;refine⟨Ext.dT p.e e λb a=>.inr (p.pP b a).1,h'.cut,hi',p.cf.bS k,by rw[k.2.1];exact p.pg,λb a=>⟨?_,a.2⟩,λb a=>?_,aI.bS p.row e λb _ i g=>(p.pQ b i).2.2 g,p.al,p.g0⟩
 ·have:=p.e.1;rcases a.1 with h1|h1
  ·exact(p.pP b h1).1
  ·omega
 ·obtain⟨j,s,m⟩:=p.pQ b a;exact⟨j,O,λd=>by
   rcases d.1 with h1|h1
   ·exact m h1
   ·omega⟩
theorem gU.out (p:gU σ0 U L H held s0 P Q addrs ad){T:Rg}(e:Ext T U w)(hT:∀b,b<U.size->T b->¬P b/\¬Q b/\σ0.size<=b):gU σ0 w L H held s0 P Q addrs ad:=by
 have r:=e.1;have g:Ext (λb=>T b/\b<U.size) U w:=⟨e.1,λb a j=>e.2 b a λd=>j ⟨d,a⟩⟩;refine⟨Ext.dT p.e g λb a=>.inr (hT b a.2 a.1).2.2,p.h.bS g (λb a i d=>(hT b a d.1).1 i) (λb a=>?_) (λa=>?_),p.hi,p.cf,p.pg,λb a=>⟨(p.pP b a).1,by have:=(p.pP b a).2;omega⟩,λb a=>⟨(p.pQ b a).1,by have:=(p.pQ b a).2.1;omega,(p.pQ b a).2.2⟩,aI.bS p.row g λb a m d=>(hT b a d.1).2.1 m,p.al,p.g0⟩
 ·exact p.g0.1 b (hT b a.2 a.1).2.2
 ·exact p.g0.2 (hT _ a.2 a.1).2.2
theorem Ct (hr:bR addrs 1 (Wo ad) U Q)(hl:ad.length<=1000000)(x:Int){e t:Nat}{K:Sl->Hp->Prop}(hK:∀s' w,Ext Q U w->bR s' 1 (Wo (ad++[x])) w (λb=>Q b\/U.size<=b/\b<w.size)->K s' w) :
 Nw (.cells #[.int .i64 x] t (0,0)) U λn v=>App addrs 1 8 e [.int .i64 0] ⟨some n,1,1⟩ v K:=by
 have i:addrs.len=ad.length:=by have:=hr.1;simp[Wo]at this;omega
 refine bR.push (F:=λb=>Q b\/U.size<=b) (vs:=[.int .i64 x]) (aI.mono hr λb _ a=>.inl a) (λb a=>.inr a) rfl rfl (by simp[dQ]) O O λs' w p g j=>hK s' w ⟨g.1,λb a m=>g.2 b a λd=>d.elim m λd=>O⟩ ?_;have:Wo (ad++[x])=Wo ad++[.int .i64 x]:=by simp[Wo]
 rw[this];refine aI.mono (aI.cut j) λb a d=>?_;rcases d.1 with h1|h1
 ·exact .inl h1
 ·exact .inr ⟨h1,a⟩
end Go.Ar
namespace Go.Ar
open Go.Vc (bV dB cT)
def i63 (x:Int):Bool:=decide (x<=9223372036854775807)
def pJ (H:Hw)(t:Nat):Ph->Bool
 | .take k=>decide (k<H.tb.length)&&(match QX (H.cls k) ((H.jG t).li k)with
  | (some y,_)=>i63 y
  | (none,_)=>true)
 | .cH k _=>decide (k<H.tb.length)&&(ZV (H.dZ t) (k:Int) != 0 || !(Yn (H.dZ t) (k:Int)).isEmpty)
 | .cJ _ _=>true
 | .grow _ _=>true
 | .fill=>match (H.jG t).bP with
  | (k,x::xs)::_=>decide (k<H.tb.length)&&(i63 x&&decide (((H.jG t).li k).os.length+xs.length<=256))
  | _=>false
 | .eD m=>decide (ZT (H.dZ t) H.sp (m:Int) 1<=1000000)
 | .find x=>i63 x&&((bV H.live x).isSome&&decide (0<=x))
 | .put k _=>decide (k<H.tb.length) && !(H.jG t).bP.isEmpty
 | .back=>match (H.jG t).bP with
  | (_,xs)::_=>(xs.all λx=>i63 x&&decide (0<=XO H.bX x))&&decide (xs.length<=1000000)
  | _=>false
 | .dC _ a=>decide (0<=a)&&(decide (a.toNat<H.bX.length)&&H.bX.all λA=>A.runs.all λr=>decide (r.1<=1000000))
 | .drain=>true
theorem xl {x:Int}(h:i63 x=true):iD x:=by
 unfold i63 at h;unfold iD;exact sG h
theorem Sa {H:Hw}{t:Nat}{p:Ph}(h:pJ H t p=true):tN H t p:=by
 cases p with
 | take k=>
  simp only[pJ,zF,zU]at h;refine⟨h.1,λy l i=>?_⟩;have g:=h.2;rw[i]at g;exact xl g
 | cH k w=>
  simp only[pJ,zF,zU,nj]at h;refine⟨h.1,λj d=>?_⟩;rw[j,d]at h;simp at h
 | cJ k w=>trivial
 | grow k w=>trivial
 | fill=>
  simp only[pJ]at h;split at h
  ·rename_i k x xs r hh;simp only[zF,zU]at h;exact⟨k,x,xs,r,hh,h.1,xl h.2.1,h.2.2⟩
  ·cases h
 | eD m=>
  simp only[pJ,zU]at h;exact h
 | find x=>
  simp only[pJ,zF,zU]at h;exact⟨xl h.1,λu=>by rw[u]at h;simp at h,λb _=>h.2.2⟩
 | put k x=>
  simp only[pJ,zF,zU]at h;exact⟨h.1,λd=>by rw[d]at h;simp at h⟩
 | back=>
  simp only[pJ]at h;split at h
  ·rename_i k xs r hh;simp only[zF,zU,j8]at h;exact⟨k,xs,r,hh,λx e=>⟨xl (h.1 x e).1,(h.1 x e).2⟩,h.2⟩
  ·cases h
 | dC s a=>
  simp only[pJ,zF,zU,j8]at h;exact⟨h.1,h.2.1,h.2.2⟩
 | drain=>trivial
def oK:Nat->Hw->Nat->Ph->Option (Hw×Int×Int)
 | 0,_,_,_=>none
 | n+1,H,t,p=>if pJ H t p&&decide ((H.jG t).bP.length<=900)then(match (Wt H t p).2.1 with
  | none=>some (Qq H t p,(Wt H t p).2.2.1,(Wt H t p).2.2.2)
  | some p'=>oK n (Qq H t p) t p')else none
theorem DK:∀{n:Nat} {H:Hw} {t:Nat} {p:Ph} {r:Hw×Int×Int},oK n H t p=some r->∃m,iz m H t p r.1 r.2.1 r.2.2
 | 0,_,_,_,_,h=>by simp[oK]at h
 | n+1,H,t,p,r,h=>by
  rw[oK]at h;split at h
  ·rename_i hc;simp only[zF,zU]at hc;have hok:tW H t p:=⟨Sa hc.1,λg a=>by rw[←HV a];exact hc.2⟩;split at h
   ·rename_i hn;cases h;exact⟨1,.done hok hn⟩
   ·rename_i p' hs;obtain⟨m,b⟩:=DK h;exact⟨m+1,.next hok hs b⟩
  ·cases h
def xg (H:Hw)(thread kind size align addr:Int):Option (Hw×Int×Int):=match Kc H thread kind size align addr with
 | .inl e=>if e=0 then none else some (H,0,e)
 | .inr (t,p)=>oK 40 (eN H t (some p)) t p
theorem Rk {H:Hw}{thread kind size align addr:Int}{r:Hw×Int×Int}(h:xg H thread kind size align addr=some r):V1 H thread kind size align addr r.1 r.2.1 r.2.2:=by
 unfold xg at h;split at h
 ·rename_i e he;split at h
  ·cases h
  ·rename_i hne;cases h;exact .inl ⟨he,hne,rfl,rfl⟩
 ·rename_i t p he;obtain⟨m,a⟩:=DK h;exact .inr ⟨t,p,m,he,a⟩
def Fx:List bZ:=(qi 8).map ZZ
def w0:Hw:=VP Fx ⟨64,1,1,1024,2⟩
theorem wG:VP ((qi 8).map ZZ) ⟨(64:Int).toNat,(1:Int).toNat,(1:Int).toNat,(1024:Int).toNat,(2:Int).toNat⟩=w0:=rfl
end Go.Ar
namespace Go.Ar
open Go Go.Vc Go.Proofs
variable {U u u':Hp}{F:Rg}{L:dM}{H H':Hw}{N:Nat}
attribute [local irreducible] w0 Fx
theorem MQ (g:Gl U)(gd:Gd U){R:Option Addr->Hp->Prop}(hR:∀σ' L N,bK U σ'->U.size<=N->N<=σ'.size->HH σ' (λb=>N<=b) L w0->R (some ⟨L.p,0,none⟩) σ'):Xr.c U R:=by
 refine Xr.o ?_;unfold Xr.v;refine Wv.o ?_;unfold Wv.v;refine nw (cs:=[.int .i64 8,.int .i64 64,.int .i64 1,.int .i64 1,.int .i64 1024,.int .i64 2]) λv y e j=>j.rI rfl ?_;refine Dy 8 aB aB λs x e1 r=>?_;have a:=e1.bT j id;have d:=e.trans e1;refine a.eY rfl (a.eY rfl (a.eY rfl (a.eY rfl (a.eY rfl ?_))));refine Ao r (g.bO d) (gd.bO d) 64 1 1 1024 2 (λi=>?_) (λ_ u=>?_) λ_ _ w L e2 m=>?_
 ·have:=HG 8 aB aB;rw[show((8:Nat):Int)=8 from rfl]at this;rw[this]at i;cases i
 ·exact absurd u aB
 ·rw[wG]at m;exact cB rfl (hR w L x.size (d.trans e2) d.1 e2.1 m)
end Go.Ar
namespace Go.Proofs
open Go.Vc
set_option maxRecDepth 100000
def Xn.h:TX:=.nx (.o 3) (.nx (.seq (.o 3) (.cond (.seq (.o 2) (.leaf)) (.leaf))) (.nx (.seq (.cR (.seq [.op,.op,.op,.cX false 2 [.op,.op],.op,.cX false 2 [.op,.op],.op,.cX false 2 [.op,.op],.op,.cX false 5 [.op,.op,.op,.op,.op]])) (.cond (.seq (.o 2) (.leaf)) (.leaf))) (.nx (.o 3) (.nx (.o 5) (.nx (.cR (.held true [] (.take 0 (.take 1 (.take 2 (.take 3 (.take 4 (.take 5 (.take 6 (.take 10 (.all [(7,.take 8 (.take 9 (.all [(11,.take 12 (.take 13 (.take 14 (.take 15 (.take 16 (.done))))))])))]))))))))))) (.nx (.seq (.o 2) (.cond (.seq (.o 3) (.leaf)) (.leaf))) (.nx (.o 8) (.nx (.o 16) (.nx (.o 12) (.r1 (.o 2) bN (.block (.cR (.held true [] (.take 0 (.take 1 (.take 2 (.take 3 (.take 4 (.take 5 (.all [(6,.all [(7,.done)])])))))))))) (.seq (.o 3) (.seq (.cR (.held true [8] (.take 0 (.take 1 (.take 2 (.take 3 (.take 4 (.take 5 (.take 6 (.take 7 (.all [(8,.done)]))))))))))) (.seq (.o 5) (.leaf))))))))))))))
def Xn.v (a:R2)(b c d:Int)(e:Hp)(f:Int->Int->Hp->Prop):Prop:=aV #[.pointer a] 33 e λg h=>fT g h λi=>WG.c i h λj k=>If (!j) (f 0 5 k) (bW (λl m=>bW (λn o=>bW (λp q=>bW (λr s=>If r (f 0 1 s) (aV #[.I 0,.I 0,.I 0,.I 0,.I 0] 95 s λt u=>aR t 0 (.I 0) u λv=>aR t 1 (.I c) v λw=>aR t 2 (.I 0) w λx=>aR t 3 (.I 0) x λy=>aR t 4 (.I 0) y λz=>eL z λaa=>gC aa .p g λ(ab:R2)=>bU ab λac=>aU aa ac 0 λad=>aS aa t 0 λae=>aS aa t 1 λaf=>aS aa t 2 λag=>aS aa t 3 λah=>aS aa t 4 λai=>Xf.c ae af ag ah ai z λaj ak=>And (aa ak) <| bL ((if 16>d then 16 else d)+aj) λal=>bL (al+16) λam=>YN.c ad b am (if 16>d then 16 else d) ak λan ao ap=>And (aa ap) <| If (ao != 0) (f 0 ao ap) (fT g ap λaq=>bD aq 3 ap λau=>bL (au+1) λav=>bU aq λaw=>aR aw 3 (.I av) ap λax=>fT g ax λay=>bD ay 3 ax λa0=>bL (an+(if 16>d then 16 else d)) λa1=>aR t 4 (.I a0) ax λa2=>dW ((t.add 0).add 2) (.I an) a2 λa3=>dW ((t.add 0).add 0) (.I a1) a3 λa4=>fT g a4 λa5=>bF a5 0 a4 λa7=>Xt.c a7 an a4 λa8 a9 ba=>dW ((t.add 0).add 3) (.I a8) ba λbb=>aQ t 0 bb λbc=>aQ t 1 bb λbd=>aQ t 2 bb λbe=>aQ t 3 bb λbf=>aQ t 4 bb λbg=>
 Xx.c bc bd be bf bg bb λbh bi=>BB Tryz.prog (e1 bN) bh bi (λ(bj:Int) bk bl=>eL bl λbm=>gC bm .p g λ(bn:Option Addr)=>bU bn λbo=>aU bm bo 0 λbp=>Zy.c bj bl λbq br=>And (bm br) <| Xa.c bp bj bq br λbs bt=>And (bm bt) <| bk bt) λbu=>fT g bu λbv=>aQ t 0 bu λbw=>aQ t 1 bu λbx=>aQ t 2 bu λbz=>aQ t 3 bu λb0=>aQ t 4 bu λb1=>X1.c bv bw bx bz b0 b1 0 bu λb2=>eL b2 λb3=>gC b3 .p g λ(b4:Option Addr)=>bU b4 λb5=>gC b3 .m (b5.add 1) λ(b6:Option Nat)=>gC b3 bN ((t.add 0).add 0) λ(b7:Int)=>aS b3 t 0 λb8=>aS b3 t 1 λb9=>aS b3 t 2 λca=>aS b3 t 3 λcb=>aS b3 t 4 λcc=>ke .i64 (.ag 5) b6 b7 (b8,b9,ca,cb,cc) b2 λcd=>bM ((t.add 0).add 0) cd λce=>tI bi.size cd λcf=>f ce 0 cf))) λcg=>If p (cg true q) (bL (d-1) λch=>cg ((bits .and .i64 d ch) != 0) q)) λci=>If n (ci true o) (ci (decide (d>256)) o)) λcj=>If l (cj true m) (cj (decide (d<1)) m)) λck=>If (c<1) (ck true k) (ck (decide (c>1024)) k))
theorem Xn.o {a b c d e f}(g:Xn.v a b c d e f):Xn.c a b c d e f:=ES Tryz.func14 (x:=Xn.h) (R0 g)
def YJ.h:Hn:=.q .o2 (.q (.q .o4 (.q .o2 (.c (.q .o3 .l) .l))) (.q .gQ .l))
def YJ.v (a:R2)(b:Int)(c:Hp)(d:Int->Int->Hp->Prop):Prop:=X0.c a b c λe f=>If (e != 0) (d 0 e f) (bF a 0 f λh=>YK.c h b f λi j k=>d i j k)
theorem YJ.o {a b c d}(e:YJ.v a b c d):YJ.c a b c d:=Wa Tryz.func16 (x:=YJ.h) (R0 e)
def Xh.h:Hn:=.q .o1 (.q (.q .o4 (.q .o2 .aJ)) (.q .o8 .l))
def Xh.v (a:R2)(b c:Int)(d:Hp)(e:aN):Prop:=X0.c a b d λf g=>If (f != 0) (e f g) (bF a 0 g λi=>Xa.c i b c g λj k=>e j k)
theorem Xh.o {a b c d e}(f:Xh.v a b c d e):Xh.c a b c d e:=Wa Tryz.func17 (x:=Xh.h) (R0 f)
def YD.h:Hn:=.q .o1 (.q (.q .o3 .aK) (.q .o1 (.q (.q .o8 (.k (.loop [(3,.one .s),(16,.I)] (.q .o1 (.q (.c .l .l) (.q (.k (.q .o3 (.o 11))) .o2)))))) .aL)))
def YD.v (a:R2)(b:Hp)(c:Sl->Hp->Prop):Prop:=WG.c a b λd e=>If (!d) (c ⟨none,0,0⟩ e) (bI a 1 e λg=>Zb.c g e λh i=>Vp.c h i λj k=>Yo [.s,bN] (λl=>l ⟨none,0,0⟩ 0 k) λm (n:Sl) (o:Int) p=>If (o<((j.len:Nat):Int)) (Ix j.a j.len o 1 λq=>bM q p λr=>bU a λs=>bB s 1 p λt=>Lk .i64 (.ag 5) t r p λu=>aV #[.I ((u.getD (0,0,0,0,0)).1),.I ((u.getD (0,0,0,0,0)).2.1),.I ((u.getD (0,0,0,0,0)).2.2.1),.I ((u.getD (0,0,0,0,0)).2.2.2.1)] 52 p λv w=>App n 4 32 52 [.I 0,.I 0,.I 0,.I 0] ⟨some v,1,1⟩ w λx y=>bL (o+1) λz=>m x z y) (c n p))
theorem YD.o {a b c}(d:YD.v a b c):YD.c a b c:=Wa Tryz.func20 (x:=YD.h) (R0 d)
def Xk.h:Hn:=.q .o2 (.q (.q .o3 .aJ) (.q (.o 12) (.q (.q .o2 .aJ) (.q (.q .o3 .aJ) (.q .o5 .l)))))
def Xk.v (a:R2)(b:Int)(c:Hp)(d:Sl->Int->Hp->Prop):Prop:=WG.c a c λe f=>If (!e) (d ⟨none,0,0⟩ 5 f) (bI a 1 f λh=>Lk .i64 (.ag 5) h b f λi=>aV #[.I 0,.I 0,.I 0,.I 0,.I 0] 95 f λj k=>aR j 0 (.I ((i.getD (0,0,0,0,0)).1)) k λl=>aR j 1 (.I ((i.getD (0,0,0,0,0)).2.1)) l λm=>aR j 2 (.I ((i.getD (0,0,0,0,0)).2.2.1)) m λn=>aR j 3 (.I ((i.getD (0,0,0,0,0)).2.2.2.1)) n λo=>aR j 4 (.I ((i.getD (0,0,0,0,0)).2.2.2.2)) o λp=>If (!i.isSome) (d ⟨none,0,0⟩ 8 p) (aQ j 0 p λq=>aQ j 1 p λr=>aQ j 2 p λs=>aQ j 3 p λt=>aQ j 4 p λu=>W4.c a q r s t u p λv w=>If v (d ⟨none,0,0⟩ 5 w) (aQ j 0 w λx=>aQ j 1 w λy=>aQ j 2 w λz=>aQ j 3 w λaa=>aQ j 4 w λab=>W6.c a x y z aa ab w λac ad=>d ac 0 ad)))
theorem Xk.o {a b c d}(e:Xk.v a b c d):Xk.c a b c d:=Wa Tryz.func21 (x:=Xk.h) (R0 e)
def Xz.h:Hn:=.q .o1 (.q (.q .o3 .aK) (.q .o1 (.q (.q .o5 (.k (.loop [(3,.one .s)] (.q (.cR (.seq [.it .i64 (.ag 5),.op])) (.q (.c .l .l) (.k (.q (.cR (.seq [.it .i64 (.ag 5),.op,.op,.op])) (.q .o4 (.c .o6 .l))))))))) (.q .o2 (.q .o3 .l)))))
def Xz.v (a:R2)(b:Hp)(c:Sl->Hp->Prop):Prop:=WG.c a b λd e=>If (!d) (c ⟨none,0,0⟩ e) (bI a 1 e λg=>nA .i64 (.ag 5) g e λh i=>Yo [.s] (λj=>j ⟨none,0,0⟩ i) λk (l:Sl) m=>ny .i64 (.ag 5) h m (KJ.c l m λn=>WS.c l n λo p=>c o p) (λq r s=>nM .i64 (.ag 5) h s λt u=>aV #[.I 0,.I 0,.I 0,.I 0,.I 0] 95 s λv w=>aR v 0 (.I u.1) w λx=>aR v 1 (.I u.2.1) x λy=>aR v 2 (.I u.2.2.1) y λz=>aR v 3 (.I u.2.2.2.1) z λaa=>aR v 4 (.I u.2.2.2.2) aa λab=>aQ v 0 ab λac=>aQ v 1 ab λad=>aQ v 2 ab λae=>aQ v 3 ab λaf=>aQ v 4 ab λag=>W4.c a ac ad ae af ag ab λah ai=>If (!ah) (aQ v 0 ai λaj=>aQ v 1 ai λak=>aQ v 2 ai λal=>aQ v 3 ai λam=>aQ v 4 ai λan=>W6.c a aj ak al am an ai λao ap=>App l 1 8 3 [.I 0] ao ap λaq ar=>k aq ar) (k l ai)))
theorem Xz.o {a b c}(d:Xz.v a b c):Xz.c a b c:=Wa Tryz.func22 (x:=Xz.h) (R0 d)
def YG.h:Hn:=.q .o2 (.q (.q .o3 (.c (.q .o3 .l) .l)) (.q .o9 (.q (.q .o2 (.c (.q .o3 .l) .l)) (.q .o4 .l))))
def YG.v (a:R2)(b:Int)(c:Hp)(d:Int->Int->Int->Int->Int->Hp->Prop):Prop:=aV #[.I 0,.I 0,.I 0,.I 0] 52 c λe f=>WG.c a f λg h=>If (!g) (aR e 0 (.I 0) h λi=>aR e 1 (.I 0) i λj=>aR e 2 (.I 0) j λk=>aR e 3 (.I 0) k λl=>aQ e 0 l λm=>aQ e 1 l λn=>aQ e 2 l λo=>aQ e 3 l λp=>d m n o p 5 l) (YT.c a b ⟨57,#[],#[]⟩ h λq r s t u v w=>aV #[.I 0,.I 0,.I 0,.I 0,.I 0] 95 w λx y=>aR x 0 (.I q) y λz=>aR x 1 (.I r) z λaa=>aR x 2 (.I s) aa λab=>aR x 3 (.I t) ab λac=>aR x 4 (.I u) ac λad=>If (!v) (aR e 0 (.I 0) ad λae=>aR e 1 (.I 0) ae λaf=>aR e 2 (.I 0) af λag=>aR e 3 (.I 0) ag λah=>aQ e 0 ah λai=>aQ e 1 ah λaj=>aQ e 2 ah λak=>aQ e 3 ah λal=>d ai aj ak al 8 ah) (bM ((x.add 0).add 0) ad λam=>bM ((x.add 0).add 1) ad λan=>bM ((x.add 0).add 2) ad λao=>bM ((x.add 0).add 3) ad λap=>aR e 0 (.I am) ad λaq=>aR e 1 (.I an) aq λar=>aR e 2 (.I ao) ar λau=>aR e 3 (.I ap) au λav=>aQ e 0 av λaw=>aQ e 1 av λax=>aQ e 2 av λay=>aQ e 3 av λaz=>d aw ax ay az 0 av))
theorem YG.o {a b c d}(e:YG.v a b c d):YG.c a b c d:=Wa Tryz.func23 (x:=YG.h) (R0 e)
def Xj.h:Hn:=.q .o1 (.q .o5 .l)
def Xj.v (a:R2)(b c:Int)(d:Hp)(e:aN):Prop:=XQ.c a b c true d λf g=>e f g
theorem Xj.o {a b c d e}(f:Xj.v a b c d e):Xj.c a b c d e:=Wa Tryz.func29 (x:=Xj.h) (R0 f)
def Qu.h:Hn:=.q .o2 (.q (.q .o3 .aJ) (.q .o7 .l))
def Qu.v (a:R2)(b:Hp)(c:Option Addr->Int->Hp->Prop):Prop:=Qk.c a b λd e=>If (!d) (c none 1 e) (Nw (.map #[] 0) e λf g=>Nw (.map #[] 0) g λh i=>aV #[.pointer a,.map (some f.block),.map (some h.block),.I 0] 74 i λj k=>c (some j) 0 k)
theorem Qu.o {a b c}(d:Qu.v a b c):Qu.c a b c:=Wa Tryz.func33 (x:=Qu.h) (R0 d)
def WG.h:Hn:=.q .o1 (.q (.cR (.seq [.op,.op,.op,.cX true 5 (RI.ops 5),.op])) .l)
def WG.v (a:R2)(b:Hp)(c:aO):Prop:=bW (λd e=>c d e) λf=>If (!a.isNone) (bF a 0 b λh=>f (!h.isNone) b) (f false b)
theorem WG.o {a b c}(d:WG.v a b c):WG.c a b c:=Wa Tryz.func42 (x:=WG.h) (R0 d)
def Xf.h:Hn:=.q .o2 (.q .o8 .l)
def Xf.v (a b c d e:Int)(f:Hp)(g:aN):Prop:=aV #[.I a,.I b,.I c,.I d,.I e] 95 f λh i=>bM ((h.add 0).add 1) i λj=>bL (j+8) λk=>bL (k-1) λl=>Nz 8<|bL (l.tdiv 8) λm=>bL (m*8) λn=>g n i
theorem Xf.o {a b c d e f g}(h:Xf.v a b c d e f g):Xf.c a b c d e f g:=Wa Tryz.func44 (x:=Xf.h) (R0 h)
def Xx.h:Hn:=.q .o2 .aL
def Xx.v (a b c d e:Int)(f:Hp)(g:Fv->Hp->Prop):Prop:=aV #[.I a,.I b,.I c,.I d,.I e] 95 f λh i=>g ⟨82,#[],#[.pointer (some h)]⟩ i
theorem Xx.o {a b c d e f g}(h:Xx.v a b c d e f g):Xx.c a b c d e f g:=Wa Tryz.func45 (x:=Xx.h) (R0 h)
def Zy.h:Hn:=.q .o1 (.q .o4 .l)
def Zy.v (a:Int)(b:Hp)(c:aN):Prop:=bL (0-a) λd=>bL (d-1) λe=>c e b
theorem Zy.o {a b c}(d:Zy.v a b c):Zy.c a b c:=Wa Tryz.func46 (x:=Zy.h) (R0 d)
def X1.h:Hn:=.q .o1 (.q .o1 (.k (.loop [(6,.I)] (.q (.q .o4 (.c .l .l)) (.q (.k (.cR (.tail 10 (RI.ops 10) [.op]))) .o3)))))
def X1.v (a:R2)(b c d e f g:Int)(h:Hp)(i:aP):Prop:=aV #[.I b,.I c,.I d,.I e,.I f] 95 h λj k=>Yo [bN] (λl=>l 0 k) λm (n:Int) o=>aQ j 0 o λp=>aQ j 1 o λq=>aQ j 2 o λr=>aQ j 3 o λs=>aQ j 4 o λt=>Xf.c p q r s t o λu v=>If (n<u) (bF a 0 v λx=>bM ((j.add 0).add 0) v λy=>bL (y+n) λz=>Xa.c x z g v λaa ab=>bL (n+8) λac=>m ac ab) (i v)
theorem X1.o {a b c d e f g h i}(j:X1.v a b c d e f g h i):X1.c a b c d e f g h i:=Wa Tryz.func47 (x:=X1.h) (R0 j)
def X0.h:Hn:=.q .o1 (.q (.q .o3 .aK) (.q .o9 (.q (.k (.q (.cR (.seq [.op,.op,.op,.cX false 3 (RI.ops 3),.op])) (.c .aM (.q .o4 .aK)))) .aM)))
def X0.v (a:R2)(b:Int)(c:Hp)(d:aN):Prop:=WG.c a c λe f=>If (!e) (d 5 f) (YT.c a b ⟨44,#[],#[]⟩ f λg h i j k l m=>aV #[.I 0,.I 0,.I 0,.I 0,.I 0] 95 m λn o=>aR n 0 (.I g) o λp=>aR n 1 (.I h) p λq=>aR n 2 (.I i) q λr=>aR n 3 (.I j) r λs=>aR n 4 (.I k) s λt=>bW (λu v=>If u (d 7 v) (aQ n 0 v λw=>aQ n 1 v λx=>aQ n 2 v λy=>aQ n 3 v λz=>aQ n 4 v λaa=>W4.c a w x y z aa v λab ac=>If ab (d 5 ac) (d 0 ac))) λad=>If (!l) (ad true t) (Nz 8 <| ad ((b.tmod 8) != 0) t))
theorem X0.o {a b c d}(e:X0.v a b c d):X0.c a b c d:=Wa Tryz.func48 (x:=X0.h) (R0 e)
def W4.h:Hn:=.q .o2 (.q (.cR (.held true [7] (.tk [0,1,2,3,4,5,6] (.all [(7,.tk [8,9,10,11,12] (.done))])))) (.q (.cR (.seq [.op,.op,.op,.cX false 5 (RI.ops 5),.op])) .l))
def W4.v (a:R2)(b c d e f:Int)(g:Hp)(h:aO):Prop:=aV #[.I b,.I c,.I d,.I e,.I f] 95 g λi j=>eL j λk=>bU a λl=>aU k l 0 λm=>gC k bN ((i.add 0).add 2) λ(n:Int)=>Xt.c m n j λo p q=>bW (λr s=>h r s) λt=>If (p != 0) (t true q) (bM ((i.add 0).add 3) q λu=>t (o != u) q)
theorem W4.o {a b c d e f g h}(i:W4.v a b c d e f g h):W4.c a b c d e f g h:=Wa Tryz.func52 (x:=W4.h) (R0 i)
def W6.h:TX:=.nx (.o 3) (.nx (.o 1) (.r1 (.o 2) bN (.block (.seq (.o 11) (.seq (.cR (.seq [.op,.op,.op,.cX false 4 [.op,.op,.op,.op]])) (.cond (.o 5) (.leaf))))) (.seq (.o 2) (.leaf))))
def W6.v (a:R2)(b c d e f:Int)(g:Hp)(h:Sl->Hp->Prop):Prop:=aV #[.pointer a] 33 g λi j=>aV #[.I b,.I c,.I d,.I e,.I f] 95 j λk l=>aV #[.slice none 0 0] 34 l λm n=>aQ k 0 n λo=>aQ k 1 n λp=>aQ k 2 n λq=>aQ k 3 n λr=>aQ k 4 n λs=>Xx.c o p q r s n λt u=>BB Tryz.prog (e1 bN) t u (λ(v:Int) w x=>fT i x λy=>bF y 0 x λaa=>YK.c aa v x λab ac ad=>bW (λae af=>If ae (jr m af λag=>aV #[.I v] 3 af λah ai=>App ag 1 8 3 [.I 0] ⟨some ah,1,1⟩ ai λaj ak=>dW m (.slice aj.a aj.len aj.cap) ak λal=>w al) (w af)) λam=>If (ac != 0) (am true ad) (Zy.c v ad λan ao=>am (ab != an) ao)) λap=>jr m ap λaq=>tI u.size ap λar=>h aq ar
theorem W6.o {a b c d e f g h}(i:W6.v a b c d e f g h):W6.c a b c d e f g h:=ES Tryz.func53 (x:=W6.h) (R0 i)
def YT.h:Hn:=.q .o2 (.q .o1 (.q .o2 (.q (.q .o5 (.k (.loop [(9,.one .b),(10,.one .b)] (.q (.cR (.seq [.it .i64 (.ag 5),.op])) (.q (.c .l .l) (.k (.q (.cR (.seq [.it .i64 (.ag 5),.op,.op,.op])) (.q (.q (.cR (.hO true [] [(38,.one .b)] (.tk [0,1,2,3,4,5] (.split 28 (.tk [6,7,8,9,10,11,12,13,14,15] (.done)) (.tk [6,7,8,9,10,11] (.all [(12,.tk [13,14,15] (.done))])))))) (.c .l .l)) (.q .o5 (.q (.cR (.seq [.op,.op,.op,.cX false 5 [.op,.op,.cX true 2 [.op,.op]],.op,.cX false 10 [.op,.op,.op,.op,.cX true 5 (RI.ops 5)]])) (.c .o5 .l))))))))))) (.q .o4 .l))))
def YT.v (a:R2)(b:Int)(c:Fv)(d:Hp)(e:Int->Int->Int->Int->Int->Bool->Hp->Prop):Prop:=aV #[.I 0,.I 0,.I 0,.I 0,.I 0] 95 d λf g=>aV #[.I 0,.I 0,.I 0,.I 0,.I 0] 95 g λh i=>bI a 1 i λk=>nA .i64 (.ag 5) k i λl m=>Yo [.b,.b] (λn=>n false false m) λo (p:Bool) (q:Bool) r=>ny .i64 (.ag 5) l r (aQ h 0 r λs=>aQ h 1 r λt=>aQ h 2 r λu=>aQ h 3 r λv=>aQ h 4 r λw=>aR f 0 (.I s) r λx=>aR f 1 (.I t) x λy=>aR f 2 (.I u) y λz=>aR f 3 (.I v) z λaa=>aR f 4 (.I w) aa λab=>aQ f 0 ab λac=>aQ f 1 ab λad=>aQ f 2 ab λae=>aQ f 3 ab λaf=>aQ f 4 ab λag=>e ac ad ae af ag p ab) (λah ai aj=>nM .i64 (.ag 5) l aj λak al=>aV #[.I 0,.I 0,.I 0,.I 0,.I 0] 95 aj λam an=>aR am 0 (.I al.1) an λao=>aR am 1 (.I al.2.1) ao λap=>aR am 2 (.I al.2.2.1) ap λaq=>aR am 3 (.I al.2.2.2.1) aq λar=>aR am 4 (.I al.2.2.2.2) ar λau=>Jn [.b] (λ(av:Bool) aw=>If av (o p q aw) (aQ am 0 aw λax=>aQ am 1 aw λay=>aQ am 2 aw λaz=>aQ am 3 aw λa0=>aQ am 4 aw λa1=>W4.c a ax ay az a0 a1 aw λa2 a3=>bW (λa4 a5=>bW (λa6 a7=>If a6 (aQ am 0 a7 λa8=>aQ am 1 a7 λa9=>aQ am 2 a7 λba=>aQ am 3 a7 λbb=>aQ am 4 a7 λbc=>aR h 0 (.I a8) a7 λbd=>
 aR h 1 (.I a9) bd λbe=>aR h 2 (.I ba) be λbf=>aR h 3 (.I bb) bf λbg=>aR h 4 (.I bc) bg λbh=>o true (!a2) bh) (o p q a7)) λbi=>If a4 (bi true a5) (bW (λbj bk=>bi bj bk) λbl=>If ((!a2)==q) (aQ am 4 a5 λbm=>aQ h 4 a5 λbn=>bl (decide (bm>bn)) a5) (bl false a5))) λbo=>If (!p) (bo true a3) (bW (λbp bq=>bo bp bq) λbr=>If (!a2) (br (!q) a3) (br false a3)))) λbs=>eL au λbt=>gC bt bN ((am.add 0).add 0) λ(bu:Int)=>If (b<bu) (bs true au) (gC bt bN ((am.add 0).add 0) λ(bv:Int)=>aS bt am 0 λbw=>aS bt am 1 λbx=>aS bt am 2 λbz=>aS bt am 3 λb0=>aS bt am 4 λb1=>VF Tryz.prog c [.agg #[.I bw,.I bx,.I bz,.I b0,.I b1]] [.I] au λb2 b3=>And (bt b3) <| bL (bv+b2) λb4=>bs (decide (b≥b4)) b3))
theorem YT.o {a b c d e}(f:YT.v a b c d e):YT.c a b c d e:=Wa Tryz.func56 (x:=YT.h) (R0 f)
def Yw.h:Hn:=.q .o2 (.q .o4 .l)
def Yw.v (a b c d e:Int)(f:Hp)(g:aN):Prop:=aV #[.I a,.I b,.I c,.I d,.I e] 95 f λh i=>bM ((h.add 0).add 1) i λj=>g j i
theorem Yw.o {a b c d e f g}(h:Yw.v a b c d e f g):Yw.c a b c d e f g:=Wa Tryz.func57 (x:=Yw.h) (R0 h)
def XQ.h:Hn:=.q .o1 (.q (.q .o3 .aK) (.q (.q .o4 (.q .o2 .aJ)) (.q (.o 12) (.q (.k (.q (.cR (.seq [.op,.op,.op,.cX true 6 (RI.ops 6),.op])) (.c .aM (.q .o3 (.c .aM (.q .o4 (.c .aM (.q (.cR (.seq [.op,.op,.cX true 5 (RI.ops 5),.op])) .aK)))))))) (.q .o3 (.q .o6 (.q .o6 (.q (.cR (.tail 8 (RI.ops 8) [.op])) .aM))))))))
def XQ.v (a:R2)(b c:Int)(d:Bool)(e:Hp)(f:aN):Prop:=WG.c a e λg h=>If (!g) (f 5 h) (Yc.c a b h λi j=>If (i != 0) (f i j) (bI a 1 j λl=>Lk .i64 (.ag 5) l c j λm=>aV #[.I 0,.I 0,.I 0,.I 0,.I 0] 95 j λn o=>aR n 0 (.I ((m.getD (0,0,0,0,0)).1)) o λp=>aR n 1 (.I ((m.getD (0,0,0,0,0)).2.1)) p λq=>aR n 2 (.I ((m.getD (0,0,0,0,0)).2.2.1)) q λr=>aR n 3 (.I ((m.getD (0,0,0,0,0)).2.2.2.1)) r λs=>aR n 4 (.I ((m.getD (0,0,0,0,0)).2.2.2.2)) s λt=>bW (λu v=>If u (f 9 v) (If (!m.isSome) (f 8 v) (aQ n 0 v λw=>aQ n 1 v λx=>aQ n 2 v λy=>aQ n 3 v λz=>aQ n 4 v λaa=>W4.c a w x y z aa v λab ac=>If ab (f 5 ac) (bW (λad ae=>If ad (f 10 ae) (aQ n 0 ae λaf=>aQ n 1 ae λag=>aQ n 2 ae λah=>aQ n 3 ae λai=>aQ n 4 ae λaj=>X1.c a af ag ah ai aj (-1234567) ae λak=>bI a 1 ak λam=>ld .i64 (.ag 5) am c ak λan=>bI a 2 an λap=>ke .i64 .b ap c true an λaq=>bF a 0 aq λau=>bM ((n.add 0).add 2) aq λav=>Zh.c au b av aq λaw ax=>f 0 ax)) λay=>If d (aQ n 0 ac λaz=>aQ n 1 ac λa0=>aQ n 2 ac λa1=>aQ n 3 ac λa2=>aQ n 4 ac λa3=>W6.c a az a0 a1 a2 a3 ac λa4 a5=>ay (decide (((a4.len:Nat):Int)>0)) a5) (ay false ac))))) λa6=>If (!m.isSome) (bI a 2 t λa8=>
 Lk .i64 .b a8 c t λa9=>a6 (a9.getD false) t) (a6 false t)))
theorem XQ.o {a b c d e f}(g:XQ.v a b c d e f):XQ.c a b c d e f:=Wa Tryz.func63 (x:=XQ.h) (R0 g)
def Qk.h:Hn:=.q .o1 (.q (.cR (.seq [.op,.op,.op,.cX true 4 (RI.ops 4),.op])) .l)
def Qk.v (a:R2)(b:Hp)(c:aO):Prop:=bW (λd e=>c d e) λf=>If (!a.isNone) (XY.c a b λg h i j k l=>f (decide (g>0)) l) (f false b)
theorem Qk.o {a b c}(d:Qk.v a b c):Qk.c a b c:=Wa Tryz.func65 (x:=Qk.h) (R0 d)
def cI.qU (l:Nat)(cap0:Addr)(U:Hp)(R:aP):Prop:=Be Tryz.prog 82 #[.func (.yield l) #[] #[],.pointer (some cap0)] U R
def cI.uS:Hn:=.seq (.seq (.o 4) (.block (.loop [(3,.one bN)] (.seq (.seq (.o 5) (.cond (.leaf) (.leaf))) (.seq (.block (.seq (.leaf) (.cond (.leaf) (.leaf)))) (.o 3)))))) (.seq (.cR (.held true [] (.tk [0,1,2,3] (.all [(4,.take 5 (.take 6 (.done)))])))) (.block (.loop [(4,.one bN)] (.seq (.seq (.o 10) (.cond (.leaf) (.leaf))) (.seq (.block (.seq (.leaf) (.cond (.leaf) (.leaf)))) (.o 3))))))
def cI.vY (l:Nat)(cap0:Addr)(U:Hp)(R:aP):Prop:=
 gp .i64 ((cap0.add 0).add 2) U λvw=>
 Yo [bN] (λI=>I vw U) λJ (vw1:Int) v=>
 gp .i64 ((cap0.add 0).add 0) v λt11=>
 If (decide (vw1<t11)) (U8 Tryz.prog l [.int .i64 vw1] v λmore v1=>
  If (!more) (R v1)
   (Ar .i64 (vw1+8) λvw2=>
   J vw2 v1))
  (eL v λS=>
  gC S bN ((cap0.add 0).add 0) λ(t21:Int)=>
  gC S bN (cap0.add 0) λ(t22:Int)=>
  gC S bN (cap0.add 1) λ(t221:Int)=>
  gC S bN (cap0.add 2) λ(t222:Int)=>
  gC S bN (cap0.add 3) λ(t223:Int)=>
  gC S bN (cap0.add 4) λ(t224:Int)=>
  Xf.c t22 t221 t222 t223 t224 v λt23 v2=>
  And (S v2) <|
  Ar .i64 (t21+t23) λvw3=>
  Yo [bN] (λI1=>I1 vw3 v2) λJ1 (vw4:Int) v3=>
  Ar .i64 (vw4+8) λt26=>
  gp .i64 ((cap0.add 0).add 2) v3 λt29=>
  gp .i64 ((cap0.add 0).add 3) v3 λt32=>
  Ar .i64 (t29+t32) λt33=>
  If (decide (t26<=t33)) (U8 Tryz.prog l [.int .i64 vw4] v3 λmore1 v4=>
   If (!more1) (R v4)
    (Ar .i64 (vw4+8) λvw5=>
    J1 vw5 v4))
   (R v3))
theorem cI.rX {l:Nat}{cap0:Addr}{U:Hp}{R:aP}(hv:cI.vY l cap0 U R):cI.qU l cap0 U R:=
 IJ Tryz.func82 (x:=cI.uS) (args:=[.func (.yield l) #[] #[],.pointer (some cap0)]) (R:=R) (R0 hv)
def Yc.h:Hn:=.q .o1 (.q (.q (.cR (.seq [.op,.op,.op,.cX false 8 (RI.ops 8)])) .aK) (.q (.q .o7 .aK) .aM))
def Yc.v (a:R2)(b:Int)(c:Hp)(d:aN):Prop:=bW (λe f=>If e (d 1 f) (bF a 0 f λh=>Y6.c h b f λi j=>If (!(i.toList==(ByteArray.mk #[]).toList)) (d 5 j) (d 0 j))) λk=>If (b<0) (k true c) (bF a 0 c λm=>XY.c m c λn o p q r s=>k (decide (b≥p)) s)
theorem Yc.o {a b c d}(e:Yc.v a b c d):Yc.c a b c d:=Wa Tryz.func90 (x:=Yc.h) (R0 e)
end Go.Proofs
namespace Go.Ar
open Go Go.Vc Go.Proofs
open Go.Vc (bV dB cT)
variable {U σ0 v w w':Hp}{F P Q X T:Rg}{L:dM}{H H':Hw}{held:List Pc}{s0 sp:Sp}{t n:Nat}{g:Th}{gb km fm m:Nat}
theorem iE {S:aP}{b i:Nat}{cs:List Value}{c:CK}{y:c.T}(hS:∀m,S m->bY m b cs)(hc:cs[i]?=some (c.v y)){K:c.T->Prop}(hK:K y):gC S c (Addr.add ⟨b,0,none⟩ i) K:=
 ⟨y,λm a=>by rw[add_lit,(hS m a).cell,zH];exact hc,hK⟩
theorem tx {S:aP}{b:Nat}{cs:List Value}{c:CK}{y:c.T}(hS:∀m,S m->bY m b cs)(hc:cs[0]?=some (c.v y)){K:c.T->Prop}(hK:K y):gC S c ⟨b,0,none⟩ K:=
 ⟨y,λm a=>by rw[(hS m a).cell];exact hc,hK⟩
theorem oM {S:aP}{b i j:Nat}{cs:List Value}{c:CK}{y:c.T}(hS:∀m,S m->bY m b cs)(hc:cs[i+j]?=some (c.v y)){K:c.T->Prop}(hK:K y):gC S c (Addr.add (Addr.add ⟨b,0,none⟩ i) j) K:=
 ⟨y,λm a=>by rw[add_lit,add_lit,(hS m a).cell,zH];exact hc,hK⟩
abbrev B5:=Int×Int×Int×Int×Int
def eU (b:B5):List Value:=[.int .i64 b.1,.int .i64 b.2.1,.int .i64 b.2.2.1,.int .i64 b.2.2.2.1,.int .i64 b.2.2.2.2]
def ZB (n:Int):Int:=(n+7)/8*8
structure gS (b:B5):Prop where
 s:1<=b.2.1/\b.2.1<=1024
 base:0<=b.2.2.1/\b.2.2.1%8=0
 z:16<=b.1-b.2.2.1/\b.1-b.2.2.1<=256/\b.1%8=0
 t:b.1+ZB b.2.1+16<=b.2.2.1+b.2.2.2.1/\b.2.2.2.1%8=0
 m:b.2.2.1+b.2.2.2.1<=270000
theorem Qe {n:Int}(h:0<=n):n<=ZB n/\ZB n<=n+7/\ZB n%8=0:=by unfold ZB;omega
structure Gu where
 kn:List (Int×B5)
 fr:List (Int×Bool)
 no:Int
def nC:Gu:=⟨[],[],0⟩
def Vq (b:B5):Nat:=(b.1-b.2.2.1).toNat/8
def pF (b:B5):Nat:=(b.2.2.1+b.2.2.2.1-b.1-ZB b.2.1).toNat/8
def Y9 (b:B5):List Int:=((List.range (Vq b)).map λ(i:Nat)=>b.2.2.1+8*(i:Int))++(List.range (pF b)).map λ(i:Nat)=>b.1+ZB b.2.1+8*(i:Int)
theorem En (b:B5):(Y9 b).length=Vq b+pF b:=by unfold Y9;simp
theorem Ng {b:B5}{i:Nat}(h:i<Vq b):(Y9 b)[i]?=some (b.2.2.1+8*(i:Int)):=by
 unfold Y9;rw[ze (by simpa using h)];simp[h]
theorem Ib {b:B5}{i:Nat}(h:i<pF b):(Y9 b)[Vq b+i]?=some (b.1+ZB b.2.1+8*(i:Int)):=by
 unfold Y9;rw[zp aA];simp[h]
theorem U6 {b:B5}(bi:gS b){z:Int}(hz:z∈Y9 b):b.2.2.1<=z/\z%8=0/\z+8<=b.2.2.1+b.2.2.2.1/\(z+8<=b.1\/b.1+ZB b.2.1<=z):=by
 obtain⟨s,⟨r,e⟩,⟨d,u,g⟩,⟨t,j⟩,m⟩:=bi;have p:=Qe (n:=b.2.1) O;unfold Y9 at hz;rcases zK.1 hz with h|h
 ·obtain⟨i,a,rfl⟩:=zE.1 h;have:=zg.1 a;unfold Vq at this;exact⟨O,O,O,.inl O⟩
 ·obtain⟨i,a,rfl⟩:=zE.1 h;have:=zg.1 a;unfold pF at this;exact⟨O,O,O,.inr O⟩
def jC (z:Int):Int:=-z-1
def qZ (hp km fm:Nat)(x:Gu):List Value:=[.pointer (some ⟨hp,0,none⟩),.map (some km),.map (some fm),.int .i64 x.no]
structure GP (σ0 U:Hp) (L:dM) (H:Hw) (held:List Pc) (s0:Sp) (P:Rg) (gb km fm:Nat) (x:Gu):Prop where
 e:bK σ0 U
 h:HH U P L H
 hi:HI H held s0
 cf:lj H
 pg:H.cf.aF<=128
 pP:∀b,P b->σ0.size<=b/\b<U.size
 rr:σ0.size<=gb/\¬P gb
 si:σ0.size<=km/\¬P km
 r9:σ0.size<=fm/\¬P fm
 n1:gb≠km
 n2:gb≠fm
 n3:km≠fm
 b:bY U gb (qZ L.p km fm x)
 m:dH U km .i64 (.ag 5) x.kn
 f:dH U fm .i64 .b x.fr
 g0:iN (λb=>σ0.size<=b)/\¬σ0.size<=1
variable {x y:Gu}
theorem GP.fr (p:GP σ0 U L H held s0 P gb km fm x)(e:bK U w):GP σ0 w L H held s0 P gb km fm x:=
 ⟨p.e.trans e,p.h.bO e,p.hi,p.cf,p.pg,λb a=>⟨(p.pP b a).1,by have:=(p.pP b a).2;have:=e.1;omega⟩,p.rr,p.si,p.r9,p.n1,p.n2,p.n3,e.bT p.b id,e.fO p.m id,e.fO p.f id,p.g0⟩
theorem GP.out (p:GP σ0 U L H held s0 P gb km fm x)(e:Ext T U w)(hT:∀b,b<U.size->T b->¬P b/\b≠gb/\b≠km/\b≠fm/\σ0.size<=b):GP σ0 w L H held s0 P gb km fm x:=by
 have s:=e.1;have a:=p.b.lt;have r:=p.m.lt;have g:=p.f.lt;have i:Ext (λb=>T b/\b<U.size) U w:=⟨e.1,λb a g=>e.2 b a λd=>g ⟨d,a⟩⟩;refine⟨Ext.dT p.e i λb a=>.inr (hT b a.2 a.1).2.2.2.2,p.h.bS i (λb a j d=>(hT b a d.1).1 j) (λb a=>?_) (λa=>?_),p.hi,p.cf,p.pg,λb a=>⟨(p.pP b a).1,by have:=(p.pP b a).2;omega⟩,p.rr,p.si,p.r9,p.n1,p.n2,p.n3,e.bT p.b λd=>(hT gb a d).2.1 rfl,e.fO p.m λd=>(hT km r d).2.2.1 rfl,e.fO p.f λd=>(hT fm g d).2.2.2.1 rfl,p.g0⟩
 ·exact p.g0.1 b (hT b a.2 a.1).2.2.2.2
 ·exact p.g0.2 (hT _ a.2 a.1).2.2.2.2
theorem GP.step (p:GP σ0 U L H held s0 P gb km fm x){ts':List eH}(e:Ext P U w)(h':HH w (Grow P U) {L with ts:=ts'} H'){held':List Pc}{s0':Sp}(hi':HI H' held' s0')(k:Qr H' H) :
 GP σ0 w {L with ts:=ts'} H' held' s0' (Cut (Grow P U) w) gb km fm x:=by
 have u:=e.1;have a:=p.b.lt;have i:=p.m.lt;have s:=p.f.lt;have g:∀b,b<U.size->¬P b->¬Cut (Grow P U) w b:=λb d j r=>by
  rcases r.1 with h3|h3
  ·exact j h3
  ·omega
 refine⟨Ext.dT p.e e λb a=>.inr (p.pP b a).1,h'.cut,hi',p.cf.bS k,by rw[k.2.1];exact p.pg,λb a=>⟨?_,a.2⟩,⟨p.rr.1,g gb a p.rr.2⟩,⟨p.si.1,g km i p.si.2⟩,⟨p.r9.1,g fm s p.r9.2⟩,p.n1,p.n2,p.n3,e.bT p.b p.rr.2,e.fO p.m p.si.2,e.fO p.f p.r9.2,p.g0⟩;have:=p.e.1;rcases a.1 with d|d
 ·exact(p.pP b d).1
 ·omega
theorem GP.fB (p:GP σ0 U L H held s0 P gb km fm x)(e:Ext (λb=>b=gb\/b=km\/b=fm) U w)(hb:bY w gb (qZ L.p km fm y))(hm:dH w km .i64 (.ag 5) y.kn)(hf:dH w fm .i64 .b y.fr):GP σ0 w L H held s0 P gb km fm y:=by
 have i:=e.1;have a:∀b,(b=gb\/b=km\/b=fm)->σ0.size<=b/\¬P b:=λb hb=>by
  rcases hb with rfl|rfl|rfl
  ·exact p.rr
  ·exact p.si
  ·exact p.r9
 exact⟨Ext.dT p.e e λb hb=>.inr (a b hb).1,p.h.bS e (λb _ d g=>(a b g).2 d) (λb hb=>p.g0.1 b (a b hb).1) (λhb=>p.g0.2 (a _ hb).1),p.hi,p.cf,p.pg,λb hb=>⟨(p.pP b hb).1,by have:=(p.pP b hb).2;omega⟩,p.rr,p.si,p.r9,p.n1,p.n2,p.n3,hb,hm,hf,p.g0⟩
theorem VQ (p:GP σ0 U L H held s0 P gb km fm x){R:aO}(hR:R true U):WG.c (aW gb) U R:=by
 refine WG.o ?_;unfold WG.v;exact bW.intro (cE rfl (aG (p.b.rP rfl hR)))
theorem U0 (b:B5)(h0:0<=b.2.1)(h1:b.2.1<=1000000){R:aN}(hR:∀σ',bK U σ'->R (ZB b.2.1) σ'):Xf.c b.1 b.2.1 b.2.2.1 b.2.2.2.1 b.2.2.2.2 U R:=by
 refine Xf.o ?_;unfold Xf.v;refine nw (cs:=eU b) λv d e a=>a.eY rfl (ar O O (ar O O (nz aB (ar (by rw[Yq O];omega) (by rw[Yq O];omega) ?_))));rw[Yq O];refine ar O O ?_;have:(b.2.1+8-1)/8*8=ZB b.2.1:=by unfold ZB;omega
 rw[this];exact hR v e
theorem CW (z:Int)(h0:0<=z)(h1:z<=1000000){R:aN}(hR:R (jC z) U):Zy.c z U R:=by
 refine Zy.o ?_;unfold Zy.v;refine ar O O (ar O O ?_);have:0-z-1=jC z:=by unfold jC;omega
 rw[this];exact hR
theorem CG (b:B5){R:Fv->Hp->Prop}(hR:∀σ',σ'.size=U.size+1->bK U σ'->bY σ' U.size (eU b)->R ⟨82,#[],#[.pointer (some ⟨U.size,0,none⟩)]⟩ σ'):Xx.c b.1 b.2.1 b.2.2.1 b.2.2.2.1 b.2.2.2.2 U R:=by
 refine Xx.o ?_;unfold Xx.v;exact nw (cs:=eU b) λv a e d=>hR v a e d
theorem GF {P:Program}{l:Nat}{args:List Value}{h:Hp}{R R':Bool->Hp->Prop}(hy:U8 P l args h R)(hm:∀b w,R b w->R' b w):U8 P l args h R':=λw g=>by
 obtain⟨p,a,s,u,d,r⟩:=hy w g;exact⟨p,a,s,u,d,r.mono λe x ⟨m,b,j,i⟩=>⟨m,b,j,hm _ _ i⟩⟩
theorem Fz {b:B5}(bi:gS b):vU Tryz.prog ⟨82,#[],#[.pointer (some ⟨n,0,none⟩)]⟩ ((Y9 b).map (e1 bN)) (λs=>bY s n (eU b)):=by
 intro l J hst hKp hy h h0;obtain⟨s,⟨Q,H⟩,⟨N,M,K⟩,⟨t,P⟩,R⟩:=bi;have L:=Qe (n:=b.2.1) O;have E:(Vq b:Int)*8=b.1-b.2.2.1:=by unfold Vq;omega
 have G:(pF b:Int)*8=b.2.2.1+b.2.2.2.1-b.1-ZB b.2.1:=by unfold pF;omega
 show cI.qU l ⟨n,0,none⟩ h λF=>J ((Y9 b).map (e1 bN)).length F;rw[zl,En];refine cI.rX ?_;unfold cI.vY;refine(hKp 0 h h0).eY rfl (ZY (a:=bN) (λ(z:Int) s=>∃i:Nat,z=b.2.2.1+8*(i:Int)/\i<=Vq b/\J i s) (λz _=>(b.1-z).toNat) ⟨0,O,O,h0⟩ ?_);rintro(z:Int) s ⟨i,rfl,hi,hJ⟩;have B:=hKp i s hJ;refine B.eY rfl (cQ (λx=>?_) λw=>?_)
 ·have d:i<Vq b:=by omega
  have A:((Y9 b).map (e1 bN))[i]?=some [Value.int .i64 (b.2.2.1+8*(i:Int))]:=by rw[zd,Ng d];rfl
  refine GF (hy i _ A s hJ) λC D ⟨g,j⟩=>?_;subst g;exact cB rfl (ar O O ⟨⟨i+1,O,O,j⟩,O⟩)
 ·have d:i=Vq b:=by omega
  subst d;have p:∀m,bK s m->bY m n (eU b):=λm e=>e.bT B id;refine⟨λm=>bK s m,Ext.refl _ _,oM (c:=bN) (y:=b.1) p rfl (iE (c:=bN) (y:=b.1) p rfl (iE (c:=bN) (y:=b.2.1) p rfl (iE (c:=bN) (y:=b.2.2.1) p rfl (iE (c:=bN) (y:=b.2.2.2.1) p rfl (iE (c:=bN) (y:=b.2.2.2.2) p rfl ?_)))))⟩;refine U0 b O O λs1 r=>⟨r,ar O O ?_⟩;refine ZY (a:=bN) (λ(z:Int) s=>∃i:Nat,z=b.1+ZB b.2.1+8*(i:Int)/\i<=pF b/\J (Vq b+i) s) (λz _=>(b.2.2.1+b.2.2.2.1-z).toNat) ⟨0,O,O,hst _ _ _ hJ r⟩ ?_;rintro(z:Int) s2 ⟨i,rfl,hi,hJ2⟩;have u:=hKp _ s2 hJ2;refine ar O O (u.eY rfl (u.eY rfl (ar O O (cQ (λx=>?_) λw=>?_))))
  ·have d:i<pF b:=by omega
   have A:((Y9 b).map (e1 bN))[Vq b+i]?=some [Value.int .i64 (b.1+ZB b.2.1+8*(i:Int))]:=by rw[zd,Ib d];rfl
   refine GF (hy _ _ A s2 hJ2) λC D ⟨g,j⟩=>?_;subst g;exact cB rfl (ar O O ⟨⟨i+1,O,O,j⟩,O⟩)
  ·have d:i=pF b:=by omega
   subst d;exact hJ2
def Ut (H:Hw)(b:B5):Bool:=!(Kg H b.2.2.1==some b.2.2.2.1)
theorem UN (p:GP σ0 U L H held s0 P gb km fm x)(b:B5){R:aO}(hR:∀σ',bK U σ'->R (Ut H b) σ'):W4.c (aW gb) b.1 b.2.1 b.2.2.1 b.2.2.2.1 b.2.2.2.2 U R:=by
 refine W4.o ?_;unfold W4.v;refine nw (cs:=eU b) λv s e j=>?_;have g:=p.fr e;refine⟨λm=>bK v m,Ext.refl _ _,aG (iE (c:=.p) (y:=some ⟨L.p,0,none⟩) (λm e=>e.bT g.b id) rfl (oM (c:=bN) (y:=b.2.2.1) (λm e=>e.bT j id) rfl (F3 g.h b.2.2.1 λr e1=>?_)))⟩;have d:=e1.bT j id;have a:=hR r (e.trans e1);refine bW.intro ?_;cases hu:Kg H b.2.2.1 with
 | none=>
  unfold Ut at a;rw[hu]at a;exact cE rfl a
 | some u=>
  unfold Ut at a;rw[hu]at a;refine cB rfl (d.eY rfl ?_);have:(!(some u==some b.2.2.2.1))=((some u).getD 0 != b.2.2.2.1):=by simp[bne]
  rw[this]at a;exact a
def Kb (H:Hw)(thread:Int):Int:=if thread<0\/thread≥(H.cf.threads:Int)then 1 else if(VZ H thread).isSome then 5 else 0
theorem OQ (p:GP σ0 U L H held s0 P gb km fm x)(thread:Int){R:aN}(hR:∀σ',bK U σ'->R (Kb H thread) σ'):Yc.c (aW gb) thread U R:=by
 refine Yc.o ?_;unfold Yc.v;refine KE (λr u=>bK U u/\r=decide (thread<0\/thread≥(H.cf.threads:Int))) (λr u ⟨d,i⟩=>?_) λJ j=>?_
 ·by_cases hc:thread<0\/thread≥(H.cf.threads:Int)
  ·have a:=hR u d;unfold Kb at a;rw[zC hc]at a;exact cE (by rw[i];exact zJ hc) a
  ·have g:=p.fr d;refine cB (by rw[i];exact zM hc) (aG (g.b.rP rfl (RB g.h thread λs y e2 w=>?_)));have a:=hR y (d.trans e2);unfold Kb at a;rw[zB hc]at a;rw[w];cases hp:VZ H thread with
   | none=>rw[hp]at a;exact cB rfl a
   | some q=>rw[hp]at a;exact cE rfl a
 ·refine cQ (λh=>j _ _ ⟨Ext.refl _ _,by rw[zJ];exact .inl h⟩) λh=>aG (p.b.rP rfl (Eg p.h λu e=>j _ _ ⟨e,?_⟩));rw[lQ,decide_eq_true_iff,decide_eq_true_iff];exact⟨.inr,λm=>m.resolve_left h⟩
theorem Nm (h:HH U F L H)(hp:1<=H.cf.aF){R:aO}(hR:∀σ',bK U σ'->R true σ'):Qk.c (aW L.p) U R:=by
 refine Qk.o ?_;unfold Qk.v;refine bW.intro (cE rfl (Eg h λw e=>?_));have:decide ((H.cf.aF:Int)>0)=true:=zJ O;rw[this];exact hR w e
theorem EH (e0:bK σ0 U)(h:HH U P L H)(hi:HI H held s0)(hc:lj H)(hpg:H.cf.aF<=128)(hP:∀b,P b->σ0.size<=b/\b<U.size)(hg:iN (λb=>σ0.size<=b)/\¬σ0.size<=1){R:Option Addr->Int->Hp->Prop}
 (hR:∀w gb km fm,bK U w->U.size<=gb/\U.size<=km/\U.size<=fm->GP σ0 w L H held s0 P gb km fm nC->R (some ⟨gb,0,none⟩) 0 w):Qu.c (aW L.p) U R:=by
 refine Qu.o ?_;unfold Qu.v;refine Nm h hc.1 λv e=>cB rfl (sJ λj r e1 x=>sJ λz m e2 u=>nw (cs:=qZ L.p v.size j.size nC) λv3 A g y=>?_);have B:=e.1;have D:=e0.1;have a:=((e.trans e1).trans e2).trans g;have d:∀b,U.size<=b->¬P b:=λb C s=>by have:=(hP b s).2;omega
 exact hR v3 z.size v.size j.size a ⟨O,O,O⟩ ⟨e0.trans a,h.bO a,hi,hc,hpg,λb i=>⟨(hP b i).1,by have:=(hP b i).2;have:=a.1;omega⟩,⟨O,d _ O⟩,⟨O,d _ O⟩,⟨O,d _ O⟩,O,O,O,y,(e2.trans g).fO (x _ _) id,g.fO (u _ _) id,hg⟩
end Go.Ar
namespace Go.Ar
open Go Go.Vc Go.Proofs
open Go.Vc (bV dB cT)
variable {U σ0 v w w':Hp}{F P Q X T:Rg}{L:dM}{H H':Hw}{held:List Pc}{s0 sp:Sp}{t n:Nat}{g:Th}{gb km fm m:Nat}{x y:Gu}{b:B5}
def j6 (sp:Sp)(l:List Int)(f:Int->Int):Sp:=l.foldl (λs z=>ZU s z (f z)) sp
theorem Pj (sp:Sp)(z:Int)(l:List Int)(f:Int->Int):j6 sp (z::l) f=j6 (ZU sp z (f z)) l f:=rfl
theorem Cc (sp:Sp)(l:List Int)(z:Int)(f:Int->Int):j6 sp (l++[z]) f=ZU (j6 sp l f) z (f z):=by unfold j6;rw[wO];rfl
theorem Uk {sp:Sp}{x:Nat}:eP sp ((8*x:Nat):Int)=0↔gf sp.st (x/32)≠0:=by
 unfold eP;rw[zB O,show((8*x:Nat):Int).toNat/256=x/32 by omega];unfold gf;split
 ·rename_i h;rw[h];simp
 ·rename_i h;exact⟨λ_=>h,λ_=>rfl⟩
theorem Gh (sp:Sp)(x:Nat):QY sp ((8*x:Nat):Int)=if gf sp.st (x/32)≠0 then sp.wd x else 0:=by
 unfold QY;by_cases h:gf sp.st (x/32)≠0
 ·rw[zC (Uk.2 h),zC h];congr 1;omega
 ·rw[zB (λa=>h (Uk.1 a)),zB h]
theorem xX (f:Int->Int):∀(l:List Int) (sp:Sp),(∀z∈l,0<=z/\z%8=0)->(j6 sp l f).st.length=sp.st.length/\(∀p,gf (j6 sp l f).st p=0↔gf sp.st p=0) ∧
 ∀w:Nat,(j6 sp l f).wd w=if((8*w:Nat):Int)∈l/\gf sp.st (w/32)≠0 then f ((8*w:Nat):Int)else sp.wd w
 | [],sp,_=>⟨rfl,λ_=>Iff.rfl,λw=>by rw[zB aA];rfl⟩
 | z::l,sp,hl=>by
  obtain⟨i1,i2,i3⟩:=xX f l (ZU sp z (f z)) λz a=>hl z (nu _ a);obtain⟨d,b,g⟩:=Fl sp z (f z);have m:=hl z pd;obtain⟨zn,rfl⟩:∃c:Nat,z=((8*c:Nat):Int):=⟨z.toNat/8,O⟩;rw[Pj];refine⟨i1.trans d,λp=>(i2 p).trans (b p),λw=>?_⟩;rw[i3,g];have a:=b (w/32);by_cases hm:gf sp.st (w/32)≠0
  ·by_cases hw:((8*w:Nat):Int)∈l
   ·rw[zC ⟨hw,λh=>hm (a.1 h)⟩,zC ⟨nu _ hw,hm⟩]
   ·rw[zB λh=>hw h.1];by_cases he:w=zn
    ·subst he;rw[zC ⟨Uk.2 hm,O⟩,zC ⟨pd,hm⟩]
    ·rw[zB λh=>he (by have:=h.2;omega),zB λh=>(zW.1 h.1).elim (λh=>he O) hw]
  ·have key:¬(eP sp ((8*zn:Nat):Int)=0/\w=((8*zn:Nat):Int).toNat/8):=λh=>by
    have e:=Uk.1 h.1;have i:w=zn:=by omega
    subst i;exact hm e
   rw[zB λh=>hm λj=>h.2 (a.2 j),zB key,zB λh=>hm h.2]
theorem HI.j6 (f:Int->Int):∀(l:List Int) {H:Hw} {s0:Sp},HI H held s0->∃s0',HI {H with sp:=Go.Ar.j6 H.sp l f} held s0'
 | [],H,s0,h=>⟨s0,h⟩
 | z::l,H,s0,h=>HI.j6 f l (h.write z (f z))
theorem KQ {f:Int->Int}{l:List Int}{sp:Sp}(hl:∀z∈l,0<=z/\z%8=0)(w:Nat):QY (j6 sp l f) ((8*w:Nat):Int)=if((8*w:Nat):Int)∈l/\gf sp.st (w/32)≠0 then f ((8*w:Nat):Int)else QY sp ((8*w:Nat):Int):=by
 obtain⟨_,a,d⟩:=xX f l sp hl;rw[Gh,Gh];by_cases hm:gf sp.st (w/32)≠0
 ·rw[zC λh=>hm ((a _).1 h),d];by_cases hw:((8*w:Nat):Int)∈l
  ·rw[zC ⟨hw,hm⟩,zC ⟨hw,hm⟩]
  ·rw[zB λh=>hw h.1,zB λh=>hw h.1,zC hm]
 ·rw[zB λh=>hm λb=>h ((a _).2 b),zB λh=>hm h.2,zB hm]
def tu (b:B5):Nat:=(ZB b.2.1/8).toNat
def Qx (b:B5):List Int:=(List.range (tu b)).map λ(i:Nat)=>b.1+8*(i:Int)
theorem BD (bi:gS b){z:Int}(hz:z∈Qx b):b.1<=z/\z%8=0/\z+8<=b.1+ZB b.2.1:=by
 obtain⟨s,⟨r,e⟩,⟨d,u,g⟩,⟨t,j⟩,m⟩:=bi;have p:=Qe (n:=b.2.1) O;obtain⟨i,a,rfl⟩:=zE.1 hz;have:=zg.1 a;unfold tu at this;omega
theorem GP.write (p:GP σ0 U L H held s0 P gb km fm x)(gc:Gc σ0)(z u:Int)(hz:z<=9223372036854775807){R:aN}
 (hR:∀w s0' P',Ext P U w->GP σ0 w L {H with sp:=ZU H.sp z u} held s0' P' gb km fm x->(∀c,P' c->P c\/U.size<=c)->R (eP H.sp z) w):Xa.c (aW L.p) z u U R:=by
 refine OO p.h (gc.bO p.e) z u hz λw e a=>?_;exact hR w _ _ e (p.step (ts':=L.ts) e a (p.hi.write z u) ⟨rfl,rfl,rfl,rfl⟩) λc b=>b.1
theorem EB {D:Nat}{s:Hp}{K:aP}(h:s[D]?=some (.deferred (some [])))(hK:∀w,Ext (· = D) s w->K w):tI D s K:=
 ⟨h,hK _ ⟨by simp,λb d a=>by rw[Array.getElem?_setIfInBounds,zB λh=>a h.symm]⟩⟩
set_option maxRecDepth 8000 in
theorem DH (p:GP σ0 U L H held s0 P gb km fm x)(gc:Gc σ0)(bi:gS b)(val:Int){R:aP}
 (hR:∀w s0' P',Ext P U w->GP σ0 w L {H with sp:=j6 H.sp (Qx b) λ_=>val} held s0' P' gb km fm x->(∀c,P' c->P c\/U.size<=c)->R w):X1.c (aW gb) b.1 b.2.1 b.2.2.1 b.2.2.2.1 b.2.2.2.2 val U R:=by
 obtain⟨⟨s1,s2⟩,⟨Z,K⟩,⟨V,S,M⟩,⟨t,X⟩,W⟩:=bi;have N:=Qe (n:=b.2.1) O;have hn:(tu b:Int)*8=ZB b.2.1:=by unfold tu;omega
 refine X1.o ?_;unfold X1.v;refine nw (cs:=eU b) λv Y e J=>?_;refine ZY (a:=bN) (λ(z:Int) u=>∃(i:Nat) (s0':Sp) (P':Rg),z=8*(i:Int)/\i<=tu b/\Ext P v u/\bY u U.size (eU b)/\GP σ0 u L {H with sp:=j6 H.sp ((List.range i).map λ(j:Nat)=>b.1+8*(j:Int)) λ_=>val} held s0' P' gb km fm x/\∀c,P' c->P c\/v.size<=c) (λz _=>(ZB b.2.1-z).toNat)
  ⟨0,s0,P,O,O,Ext.refl _ _,J,p.fr e,λc m=>.inl m⟩ ?_
 rintro(z:Int) u ⟨i,s0',P',rfl,hi,eu,hbu,pu,hP⟩;refine hbu.rI rfl (hbu.rI rfl (hbu.rI rfl (hbu.rI rfl (hbu.rI rfl (U0 b O O λF e1=>?_)))));have g:=e1.bT hbu id;have y:=pu.fr e1;refine cQ (λD=>?_) λB=>?_
 ·refine aG (y.b.rP rfl (g.eY rfl (ar O O (y.write gc _ val O λQ d P'' e2 G s=>?_))));have A:=e1.1;have C:=eu.1;refine ar O O ⟨⟨i+1,d,P'',O,O,Ext.dT (eu.jQ e1) e2 hP,e2.bT g λE=>?_,?_,λc m=>?_⟩,O⟩
  ·rcases hP _ E with h|h
   ·have:=(p.pP _ h).2;omega
   ·omega
  ·rw[pT,jY,List.map_singleton,Cc];exact G
  ·rcases s c m with h|h
   ·exact hP c h
   ·exact .inr O
 ·have r:i=tu b:=by omega
  subst r;refine hR F _ _ ((bK.to e).trans (eu.jQ e1)) y λc m=>?_;have:=e.1;exact(hP c m).imp id λh=>by omega
def jX (sp:Sp)(z:Int):Bool:=eP sp z != 0||QY sp z != jC z
def Kh (sp:Sp)(b:B5):List Int:=(Y9 b).filter (jX sp)
set_option maxRecDepth 16000 in
theorem Hj (p:GP σ0 U L H held s0 P gb km fm x)(bi:gS b){R:Sl->Hp->Prop}
 (hR:∀s w Q,bK U w->bR s 1 (Wo (Kh H.sp b)) w Q->(∀c,Q c->U.size<=c/\c<w.size)->R s w):W6.c (aW gb) b.1 b.2.1 b.2.2.1 b.2.2.2.1 b.2.2.2.2 U R:=by
 refine W6.o ?_;unfold W6.v;refine nw (cs:=[.pointer (some ⟨gb,0,none⟩)]) λv1 hz1 e1 b1=>nw (cs:=eU b) λM hz2 e2 b2=>nw (cs:=[.slice none 0 0]) λv3 hz3 e3 b3=>?_;have j:=e3.bT b2 id;have X:=(e2.trans e3).bT b1 id;refine j.rI rfl (j.rI rfl (j.rI rfl (j.rI rfl (j.rI rfl (CG b λY hz4 e4 b4=>?_)))));have S:=((e1.trans e2).trans e3).trans e4;have hzs:(Y9 b).length<=100000:=by
  obtain⟨⟨s1,s2⟩,⟨b1,b2⟩,⟨z1,z2,z3⟩,⟨t,t2⟩,hm⟩:=bi;have hw:=Qe (n:=b.2.1) O;rw[En];unfold Vq pF;omega
 refine⟨rfl,by kernel_rfl,Y9 b,_,λk s=>bK U s/\bY s U.size [.pointer (some ⟨gb,0,none⟩)]/\bY s v3.size (eU b)/\∃(sl:Sl) (Q:Rg),bY s M.size [.slice sl.a sl.len sl.cap]/\bR sl 1 (Wo (((Y9 b).take k).filter (jX H.sp))) s Q/\∀c,Q c->Y.size+2<=c/\c<s.size,Fz bi,?_,λk s h=>h.2.2.1,?_,?_,?_⟩
 ·rintro k s s' ⟨B,E,G,sl,Q,C,D,A⟩ e;have hz:=e.1;refine⟨Ext.dT B e λc d=>.inr O,e.bT E O,e.bT G O,sl,Q,e.bT C O,aI.bS D e λc _ W d=>?_,λc d=>?_⟩
  ·have:=A c W;omega
  ·have:=A c d;omega
 ·exact⟨S,(e4).bT X id,b4,⟨none,0,0⟩,λ_=>False,e4.bT b3 id,⟨rfl,.inl ⟨rfl,rfl⟩⟩,λc d=>d.elim⟩
 ·rintro k z Z s ⟨B,E,G,sl,Q,C,D,A⟩ hsz;have zi:=U6 bi (zG Z);have N:=bi.base;have hm:=bi.m;have hkl:=(cW.1 Z).1;have ps:=p.fr B;have F:(Y9 b).take (k+1)=(Y9 b).take k++[z]:=by rw[k7,Z];rfl
  refine E.rO rfl (aG (ps.b.rP rfl (Fb ps.h z O λv5 g=>?_)));have hz5:=g.1;refine KE (λr u=>u=v5/\r=jX H.sp z) (λr u ⟨hu,hr⟩=>?_) λJ hJ=>?_
  ·subst hu;have K:=aI.bO D g;have i:∀c,Q c->c≠Y.size/\c≠Y.size+1/\c≠U.size/\c≠v3.size/\c≠M.size:=λc d=>by have:=A c d;omega
   refine cO (λN=>?_) λN=>?_
   ·refine(g.bT C id).tY rfl (Ct K ?_ z λs' v8 V h8=>?_)
    ·have B:=qT (jX H.sp) ((Y9 b).take k);rw[zZ]at B;omega
    have hz8:=V.1;have h48:=V.bT (g.bT C id) λd=>(i _ d).2.2.2.2 rfl;refine h48.s0 aA λv9 o9 h9=>?_;have e9:=o9.ext;have hz9:=o9.1;have y:Ext (λc=>Q c\/c=M.size) u v9:=(V.sub λc d=>.inl d).trans (e9.sub λc d=>.inr d);refine⟨⟨Ext.dT (B.trans g) y λc d=>?_,y.bT (g.bT E id) ?_,y.bT (g.bT G id) ?_,s',λc=>Q c\/u.size<=c/\c<v8.size,h9,?_,λc d=>?_⟩,?_,?_⟩
    ·rcases d with d|d
     ·have:=A c d;exact .inr O
     ·exact .inr O
    ·rintro(d|d)
     ·exact(i _ d).2.2.1 rfl
     ·omega
    ·rintro(d|d)
     ·exact(i _ d).2.2.2.1 rfl
     ·omega
    ·have:((Y9 b).take (k+1)).filter (jX H.sp)=((Y9 b).take k).filter (jX H.sp)++[z]:=by
      rw[F,tZ,uJ (by rw[←hr];exact N)];rfl
     rw[this];refine aI.bS h8 e9 λc _ d (hx:c=M.size)=>?_;rcases d with d|d
     ·exact(i _ d).2.2.2.2 hx
     ·omega
    ·rcases d with d|d
     ·have:=A c d;omega
     ·omega
    ·rw[y.2 _ O (by rintro(d|d);exact(i _ d).1 rfl;omega)];exact g.2 _ O id
    ·rw[y.2 _ O (by rintro(d|d);exact(i _ d).2.1 rfl;omega)];exact g.2 _ O id
   ·refine⟨⟨B.trans g,g.bT E id,g.bT G id,sl,Q,g.bT C id,?_,λc d=>?_⟩,g.2 _ O id,g.2 _ O id⟩
    ·have:((Y9 b).take (k+1)).filter (jX H.sp)=((Y9 b).take k).filter (jX H.sp):=by
      rw[F,tZ,ux (by rw[←hr,N];decide),List.filter_nil,kX]
     rw[this];exact K
    ·have:=A c d;omega
  ·refine cO (λh=>hJ _ _ ⟨rfl,by unfold jX;rw[h];rfl⟩) λh=>CW z O O (hJ _ _ ⟨rfl,by unfold jX;rw[h];rfl⟩)
 ·rintro s ⟨B,E,G,sl,Q,C,D,A⟩ hD;rw[mV]at D;refine C.tY rfl (EB hD λw ew=>?_);have hz:=ew.1;refine hR sl w Q (Ext.dT B ew λc d=>.inr O) (aI.bS D ew λc _ W d=>?_) λc d=>?_
  ·have:=A c W;omega
  ·have:=A c d;omega
end Go.Ar
namespace Go.Ar
open Go Go.Vc Go.Proofs
open Go.Vc (bV dB cT)
variable {U w w':Hp}{F P Q X:Rg}{L:dM}{H H':Hw}{held:List Pc}{s0:Sp}{t n:Nat}{g:Th}{σ0:Hp}{addrs:Sl}{ad:List Int}{l:Sl}{ds:List fQ}
theorem gU.push (p:gU σ0 U L H held s0 P Q addrs ad){s':Sl}{x:Int}(e:Ext Q U w)(hr:bR s' 1 (Wo (ad++[x])) w (λb=>Q b\/U.size<=b/\b<w.size))(hl:(ad++[x]).length<=60):gU σ0 w L H held s0 P (λb=>Q b\/U.size<=b/\b<w.size) s' (ad++[x]):=by
 have j:=e.1;have i:=p.e.1;refine⟨Ext.dT p.e e λb a=>.inr (p.pQ b a).1,p.h.bS e (λb a d g=>(p.pQ b g).2.2 d) (λb a=>p.g0.1 b (p.pQ b a).1) (λa=>p.g0.2 (p.pQ _ a).1),p.hi,p.cf,p.pg,λb a=>⟨(p.pP b a).1,by have:=(p.pP b a).2;omega⟩,λb a=>?_,hr,hl,p.g0⟩;rcases a with a|a
 ·exact⟨(p.pQ b a).1,by have:=(p.pQ b a).2.1;omega,(p.pQ b a).2.2⟩
 ·exact⟨O,a.2,λd=>by have:=(p.pP b d).2;omega⟩
theorem EI {tb:List bZ}{size align:Int}{k:Nat}(h:gN tb size align=some k):∃c,tb[k]?=some c/\size<=(c.size:Int)/\(c.size:Int)%align=0:=by
 unfold gN at h;obtain⟨b,a,_⟩:=nk.1 h;simp only[zF,zU,zT]at a;exact⟨tb[k],cV b,a.1,a.2⟩
theorem MP {tb:List bZ}{size align:Int}(h:size<=16384/\Uw size align=true):size<=(GC tb size align).1/\(GC tb size align).2=0:=by
 unfold GC;rw[zC h];refine⟨?_,rfl⟩;cases hc:gN tb size align with
 | some k=>
  obtain⟨c,b,a,_⟩:=EI hc;simp only;rw[zP,b];exact a
 | none=>simp only;unfold x8;omega
theorem Ag {live:List (Int×Bk)}{x:Int}(b:Bk):bV (dB live x b) x=some b:=by rw[V9,zC rfl]
end Go.Ar
namespace Go.Ar
open Go Go.Vc Go.Proofs
open Go.Vc (bV dB cT)
open Go.Bu (eW KK Uz)
variable {size align:Int}{U σ0 v w w':Hp}{F P Q X T:Rg}{L:dM}{H H' H1:Hw}{held:List Pc}{s0 sp:Sp}{t n:Nat}{g:Th}{gb km fm m:Nat}{x y:Gu}{b:B5}
theorem _root_.Go.Vc.bY.s2 {U:Hp}{b o i j:Nat}{cs:List Value}(hb:bY U b cs){v:Value}(ho:o+i+j<cs.length){K:aP}(hK:∀h',Qm U h' b->bY h' b (cs.set (o+i+j) v)->K h'):dW (Addr.add (Addr.add ⟨b,o,none⟩ i) j) v U K:=by
 rw[add_lit];exact hb.s1 ho hK
def Mg (P:Rg)(gb km fm:Nat):Rg:=λb=>P b\/b=gb\/b=km\/b=fm
def ni (size align:Int):Bool:=decide (1<=size/\size<=1024/\1<=align/\align<=256)&&eW align
def zA (align:Int):Int:=if 16>align then 16 else align
theorem u9 {align:Int}(h:align<=256):16<=zA align/\zA align<=256:=by unfold zA;split<;>omega
structure xC (H:Hw) (x:Gu) (size align:Int) (b:B5) (H1:Hw):Prop where
 me:qz H (zA align+ZB size+16) (zA align) H1 b.2.2.1 0
 a:b.1=b.2.2.1+zA align
 s:b.2.1=size
 u:Kg H1 b.2.2.1=some b.2.2.2.1
 n:b.2.2.2.2=x.no+1
 ok:ni size align=true
 bi:gS b
def lT (sp:Sp)(b:B5):Sp:=j6 (j6 sp (Y9 b) jC) (Qx b) λ_=>0
def Gu.fP (x:Gu)(b:B5):Gu:=⟨dB x.kn b.1 b,x.fr,x.no+1⟩
theorem yT {a:Int}(h1:1<=a)(h2:a<=256)(hp:eW a=true):a%8=0\/a<8:=by
 by_cases h:a<8
 ·exact .inr h
 ·left;obtain⟨a,rfl⟩:=za (show 0<=a by omega);rw[KK]at hp;have key:∀a:Nat,a<=256->8<=a->(a &&& (a-1)=0)->a%8=0:=by decide +kernel
  have:=key a O O (by have:=Uz (a:=a) O O;rw[hp]at this;simpa using this);omega
theorem RA (hi:HI H1 held s0)(hok:ni size align=true){base:Int}(me:qz H (zA align+ZB size+16) (zA align) H1 base 0):∃u,Kg H1 base=some u/\gS (base+zA align,size,base,u,x.no+1):=by
 unfold ni at hok;rw[zF,zU]at hok;obtain⟨⟨i,r,p,e⟩,kp⟩:=hok;have s:=u9 e;have w:=Qe (n:=size) O;rcases me with⟨h,_⟩|⟨_,hm,hok,cl,hl,hcl⟩
 ·exact absurd rfl h
 have g:Kg H1 base=some (GC H.tb (zA align+ZB size+16) (zA align)).1:=by unfold Kg;rw[hl,Ag];rfl
 have m:=(MP (tb:=H.tb) ⟨hok.2.1,hok.2.2⟩).1;obtain⟨y,b,d⟩:=nV.1 g;have a:=hi.re (Vh b);simp only at a;rw[d]at a;have j:zA align%8=0:=by
  unfold zA;split
  ·decide
  ·rcases yT p e kp with h|h
   ·exact h
   ·omega
 exact⟨_,g,⟨⟨i,r⟩,⟨a.2.1,a.2.2.1⟩,⟨by simp only;omega,by simp only;omega,by simp only;omega⟩,⟨by simp only;omega,a.2.2.2.1⟩,by simp only;omega⟩⟩
set_option maxRecDepth 16000 in
theorem Ce (p:GP σ0 U L H held s0 P gb km fm x)(gc:Gc σ0)(x0:0<=x.no/\x.no<=100000)(thread size align:Int){R:Int->Int->Hp->Prop}
 (h0:∀w,ni size align=false->bK U w->R 0 1 w)
 (h1:∀e w ts H' held' s0' P',ni size align=true->e≠0->V1 H thread 0 (zA align+ZB size+16) (zA align) 0 H' 0 e->fY H H'->H'.live=H.live->Ext P U w->GP σ0 w {L with ts:=ts} H' held' s0' P' gb km fm x->(∀c,P' c->P c\/U.size<=c)->R 0 e w)
 (h2:∀b w ts H1 held' s0' P',xC H x size align b H1->V1 H thread 0 (zA align+ZB size+16) (zA align) 0 H1 b.2.2.1 0->fY H H1->Ext (Mg P gb km fm) U w->GP σ0 w {L with ts:=ts} {H1 with sp:=lT H1.sp b} held' s0' P' gb km fm (x.fP b)->(∀c,P' c->P c\/U.size<=c)->R b.1 0 w) :
 Xn.c (aW gb) thread size align U R:=by
 refine Xn.o ?_;unfold Xn.v;rw[show(if(16:Int)>align then(16:Int)else align)=zA align from rfl]
 refine nw (cs:=[.pointer (some ⟨gb,0,none⟩)]) λv hz e hn4=>hn4.rO rfl (VQ (p.fr e) (cB rfl ?_));refine KE (λr u=>u=v/\r = !decide (1<=size/\size<=1024)) (λr u ⟨hu,hr⟩=>?_) λJ hJ=>cQ (λh=>hJ _ _ ⟨rfl,by rw[zM O];rfl⟩) λh=>hJ _ _ ⟨rfl,?_⟩
 ·rw[hu];refine KE (λr u=>u=v/\r = !decide (1<=size/\size<=1024/\1<=align)) (λr1 u1 ⟨hu1,hr1⟩=>?_) λJ1 hJ1=>?_
  ·rw[hu1];refine KE (λr u=>u=v/\r = !decide (1<=size/\size<=1024/\1<=align/\align<=256)) (λr2 u2 ⟨hu2,hr2⟩=>?_) λJ2 hJ2=>?_
   ·rw[hu2];refine KE (λr u=>u=v/\r = !ni size align) (λr3 u3 ⟨hu3,hr3⟩=>?_) λJ3 hJ3=>?_
    ·rw[hu3];clear hr hr1 hr2 hu hu1 hu2 hu3;by_cases hgk:ni size align=true
     ·refine cB (by rw[hr3,hgk];rfl) ?_;have hk:=hgk;unfold ni at hk;rw[zF,zU]at hk;obtain⟨⟨k1,k2,k3,k4⟩,kp⟩:=hk;have hzz:=u9 k4;have hww:=Qe (n:=size) O;refine nw (cs:=[.int .i64 0,.int .i64 0,.int .i64 0,.int .i64 0,.int .i64 0]) λv6 hz6 e6 b6=>?_;refine b6.s1 aA λv7 o7 b7=>b7.s1 aA λv8 o8 b8=>b8.s1 aA λv9 o9 b9=>b9.s1 aA λv10 gQ b10=>b10.s1 aA λv11 o11 b11=>?_;have bb:bY v11 v.size (eU (0,size,0,0,0)):=b11;have eo:Ext (· = v.size) v6 v11:=(((o7.ext.trans o8.ext).trans o9.ext).trans gQ.ext).trans o11.ext;have e11:bK v v11:=Ext.fresh e6 eo λi (hi:i=v.size)=>by omega
      have p11:=(p.fr e).fr e11;have S:=e11.bT hn4 id;have zv:U.size<v.size:=by omega
      have zb:=bb.lt;refine⟨λm=>bY m U.size [.pointer (some ⟨gb,0,none⟩)]/\bY m gb (qZ L.p km fm x)/\bY m v.size (eU (0,size,0,0,0)),⟨S,p11.b,bb⟩,?_⟩;refine tx (c:=.p) (y:=some ⟨gb,0,none⟩) (λm G=>G.1) rfl (aG (iE (c:=.p) (y:=some ⟨L.p,0,none⟩) (λm G=>G.2.1) rfl ?_));refine iE (c:=bN) (y:=0) (λm G=>G.2.2) rfl (iE (c:=bN) (y:=size) (λm G=>G.2.2) rfl (iE (c:=bN) (y:=0) (λm G=>G.2.2) rfl (iE (c:=bN) (y:=0) (λm G=>G.2.2) rfl (iE (c:=bN) (y:=0) (λm G=>G.2.2) rfl ?_))));refine U0 (0,size,0,0,0) aC aC λv12 A=>⟨⟨A.bT S id,A.bT p11.b id,A.bT bb id⟩,?_⟩;refine ar aC aC (ar aC aC ?_);have p12:=p11.fr A;have e012:=(e.trans e11).trans A;have z1112:=A.1;obtain⟨H',a,er,hw,o,me⟩:=Ov p.hi thread (zA align+ZB size+16) (zA align);obtain⟨held',s0',hi'⟩:=o.hi;refine Sd DU p12.h p12.cf.2.2 hw λv13 ts F h13=>?_;have B:=p12.step F h13 hi' o.kp;have z12:=e012.1;have z13:=F.1;have nP:∀c,U.size<=c->¬P c:=λc h1 h2=>by have:=(p.pP c h2).2;omega
      have W:=F.bT (A.bT S id) (nP _ (zD _));have bb13:=F.bT (A.bT bb id) (nP _ O);refine⟨⟨W,F.bT p12.b p.rr.2,bb13⟩,?_⟩;generalize hP1:Cut (Grow P v12) v13=P1 at B;have E:∀c,P1 c->P c\/U.size<=c:=λc d=>by
       rw[←hP1]at d;exact d.1.imp id λh=>by omega
      have X:∀c,P1 c->c<v13.size:=λc d=>by rw[←hP1]at d;exact d.2
      have K:∀c,c<v12.size->¬P c->¬P1 c:=λc h1 h2 C=>by
       rw[←hP1]at C;rcases C.1 with h4|h4
       ·exact h2 h4
       ·omega
      have E13:Ext P U v13:=(bK.to e012).trans F;refine cO (λhne=>?_) λheq=>?_
      ·have hne':er≠0:=by simpa using hne
       rcases me with⟨_,ha,hl⟩|⟨h,_⟩
       ·subst ha;exact h1 er v13 ts H' held' s0' P1 hgk hne' hw o hl E13 B E
       ·exact absurd h hne'
      ·have he0:er=0:=by simpa using heq
       subst he0;obtain⟨u,hu,Z⟩:=RA (x:=x) (size:=size) (align:=align) hi' hgk me;obtain⟨b,g⟩:∃b:B5,b=(a+zA align,size,a,u,x.no+1):=⟨_,rfl⟩;rw[←g]at Z;have hbs:=Z.base;have hbm:=Z.m;have hbz:=Z.z;have hbt:=Z.t;have hb1:b.1=a+zA align:=by rw[g]
       have hb2:b.2.1=size:=by rw[g]
       rw[hb2]at hbt;have Q:b.2.2.1=a:=by rw[g]
       have hb4:b.2.2.2.1=u:=by rw[g]
       rw[Q]at hbs;have gr:xC H x size align b H':=⟨by rw[Q];exact me,by rw[hb1,Q],by rw[g],by rw[Q,hb4];exact hu,by rw[g],hgk,Z⟩;have hgb13:=B.b.lt;have hvg:v.size≠gb:=λh=>by have:=p.b.lt;omega
       have hsg:U.size≠gb:=λh=>by have:=p.b.lt;omega
       have hvk:v.size≠km:=λh=>by have:=p.m.lt;omega
       have hsk:U.size≠km:=λh=>by have:=p.m.lt;omega
       have hvf:v.size≠fm:=λh=>by have:=p.f.lt;omega
       refine W.rO rfl (aG (B.b.rI rfl (ar O O (aG (B.b.s1 (by simp[qZ]) λM D b14=>?_)))));have p14:GP σ0 M {L with ts:=ts} H' held' s0' P1 gb km fm {x with no:=x.no+1}:=B.fB (D.ext.sub λc d=>.inl d) b14 (D.ext.fO B.m λ(h:km=gb)=>p.n1 h.symm) (D.ext.fO B.f λ(h:fm=gb)=>p.n2 h.symm);have hn14:=D.ext.bT W hsg;have bb14:=D.ext.bT bb13 hvg;refine hn14.rO rfl (aG (p14.b.rI rfl (ar O O ?_)));refine bb14.s1 (by simp[eU]) λv15 o15 b15=>b15.s2 (by simp[eU]) λv16 o16 b16=>b16.s2 (by simp[eU]) λv17 o17 b17=>?_;have e17:Ext (· = v.size) M v17:=(o15.ext.trans o16.ext).trans o17.ext;have hout:∀c,c<M.size->c=v.size->¬P1 c/\c≠gb/\c≠km/\c≠fm/\σ0.size<=c:=λc _ d=>by
        subst d;have:=p.e.1;exact⟨K _ O (nP _ O),hvg,hvk,hvf,O⟩
       have p17:=p14.out e17 hout;have hn17:=e17.bT hn14 (show ¬U.size=v.size by omega);refine hn17.rO rfl (aG (p17.b.rP rfl (F3 p17.h a λv18 V=>?_)));rw[hu];refine(V.bT b17 id).s2 (by simp[eU]) λv19 o19 b19=>?_;have j:bY v19 v.size (eU b):=by rw[g];exact b19
       have p18:=p17.fr V;have z17:=o17.1;have z16:=o16.1;have z15:=o15.1;have z14:=D.1;have z18:=V.1;have z19:=o19.1;have p19:=p18.out o19.ext λc hc1 (d:c=v.size)=>by
        subst d;have:=p.e.1;exact⟨K _ O (nP _ O),hvg,hvk,hvf,O⟩
       have hn19:=o19.ext.bT (V.bT hn17 id) (show ¬U.size=v.size by omega);have E19:Ext (Mg P gb km fm) U v19:=by
        refine Ext.dT (((((E13.sub λc d=>.inl d).trans (D.ext.sub λc d=>.inr (.inl d))))):Ext (Mg P gb km fm) U M) (((e17.trans (bK.to V)).trans o19.ext):Ext (· = v.size) M v19) λc (d:c=v.size)=>.inr O
       refine j.rI rfl (j.rI rfl (j.rI rfl (j.rI rfl (j.rI rfl (CG b λv20 hz20 N b20=>?_)))));have p20:=p19.fr N;have hn20:=N.bT hn19 id;have bb20:=N.bT j id;have z20:=N.1;have E20:Ext (Mg P gb km fm) U v20:=E19.jQ N;refine⟨rfl,by kernel_rfl,Y9 b,_,λk s=>Ext (Mg P gb km fm) U s/\v20.size<=s.size/\bY s U.size [.pointer (some ⟨gb,0,none⟩)]/\bY s v.size (eU b)/\bY s v19.size (eU b)/\∃(s0':Sp) (P':Rg),GP σ0 s {L with ts:=ts} {H' with sp:=j6 H'.sp ((Y9 b).take k) jC} held' s0' P' gb km fm {x with no:=x.no+1}/\∀c,P' c->P1 c\/v20.size+2<=c,Fz Z,?_,λk s h=>h.2.2.2.2.1,?_,?_,?_⟩
       ·rintro k s s' ⟨i1,i2,i3,Y,i5,s1',P',i6,i7⟩ es;have zs:=es.1;have nn:∀c,c<v20.size->¬(c=v20.size\/c=v20.size+1):=λc h=>by omega
        refine⟨Ext.dT i1 es λc d=>.inr O,O,es.bT i3 (nn _ O),es.bT Y (nn _ O),es.bT i5 (nn _ O),s1',P',i6.out es λc _ d=>?_,i7⟩;have:=p.e.1;have g1:=p.b.lt;have g2:=p.m.lt;have g3:=p.f.lt;refine⟨λhx=>?_,O,O,O,O⟩;rcases i7 c hx with h|h
        ·have:=X c h;omega
        ·omega
       ·exact⟨E20,zD _,hn20,bb20,b20,s0',P1,p20,λc d=>.inl d⟩
       ·rintro k (z:Int) hk s ⟨i1,i2,i3,Y,i5,s1',P',i6,i7⟩ hsz;have zi:=U6 Z (zG hk);have hzk:0<=z/\z<=1000000:=by
         have z1:=zi.1;have z2:=zi.2.2.1;have h0:=Z.base.1;omega
        have htk:(Y9 b).take (k+1)=(Y9 b).take k++[z]:=by rw[k7,hk];rfl
        have n7:∀c,c<v20.size+2->(¬P1 c)->¬P' c:=λc h1 h2 C=>(i7 c C).elim h2 λh=>by omega
        have q1:¬P1 U.size:=K _ O (nP _ (zD _));have q2:¬P1 v.size:=K _ O (nP _ O);have q3:∀c,v13.size<=c->¬P1 c:=λc h1 h2=>by have:=X c h2;omega
        refine⟨λm=>bY m U.size [.pointer (some ⟨gb,0,none⟩)]/\bY m gb (qZ L.p km fm {x with no:=x.no+1}),⟨i3,i6.b⟩,tx (c:=.p) (y:=some ⟨gb,0,none⟩) (λm h=>h.1) rfl (aG (iE (c:=.p) (y:=some ⟨L.p,0,none⟩) (λm h=>h.2) rfl ?_))⟩;refine CW z hzk.1 hzk.2 ⟨⟨i3,i6.b⟩,?_⟩;refine i6.write gc z (jC z) O λs2 s2' P2 e2 p2 hP2=>?_;have zs2:=e2.1;have i3':=e2.bT i3 (n7 _ O q1);refine⟨⟨i3',p2.b⟩,⟨Ext.dT i1 e2 λc d=>?_,O,i3',e2.bT Y (n7 _ O q2),e2.bT i5 (n7 _ O (q3 _ O)),s2',P2,?_,λc d=>?_⟩,e2.2 _ O (n7 _ O (q3 _ O)),e2.2 _ O (n7 _ O (q3 _ O))⟩
        ·rcases i7 c d with h|h
         ·exact(E c h).imp .inl id
         ·exact .inr O
        ·rw[htk,Cc];exact p2
        ·rcases hP2 c d with h|h
         ·exact i7 c h
         ·exact .inr O
       ·rintro s ⟨i1,i2,i3,Y,i5,s1',P',i6,i7⟩ hD;rw[mV]at i6;have n7:∀c,c<v20.size+2->(¬P1 c)->¬P' c:=λc h1 h2 C=>(i7 c C).elim h2 λh=>by omega
        have q1:¬P1 U.size:=K _ O (nP _ (zD _));have q2:¬P1 v.size:=K _ O (nP _ O);have q3:∀c,v13.size<=c->¬P1 c:=λc h1 h2=>by have:=X c h2;omega
        refine i3.rO rfl (Y.rI rfl (Y.rI rfl (Y.rI rfl (Y.rI rfl (Y.rI rfl (DH i6 gc Z 0 λs2 s2' P2 e2 p2 hP2=>?_))))));have zs2:=e2.1;have hlt:=(zt.1 hD).1;have i3':=e2.bT i3 (n7 _ O q1);have i4':=e2.bT Y (n7 _ O q2);have hS:∀m,(bY m U.size [.pointer (some ⟨gb,0,none⟩)]/\bY m gb (qZ L.p km fm {x with no:=x.no+1})/\bY m v.size (eU b))->bY m v.size (eU b):=λm h=>h.2.2;refine⟨λm=>bY m U.size [.pointer (some ⟨gb,0,none⟩)]/\bY m gb (qZ L.p km fm {x with no:=x.no+1})/\bY m v.size (eU b),⟨i3',p2.b,i4'⟩,tx (c:=.p) (y:=some ⟨gb,0,none⟩) (λm h=>h.1) rfl (aG (iE (c:=.m) (y:=some km) (λm h=>h.2.1) rfl ?_))⟩;refine oM (c:=bN) (y:=b.1) hS rfl (iE (c:=bN) (y:=b.1) hS rfl (iE (c:=bN) (y:=b.2.1) hS rfl (iE (c:=bN) (y:=b.2.2.1) hS rfl (iE (c:=bN) (y:=b.2.2.2.1) hS rfl (iE (c:=bN) (y:=b.2.2.2.2) hS rfl ⟨km,x.kn,rfl,p2.m,λs3 o3 m3=>?_⟩)))));have p3:GP σ0 s3 {L with ts:=ts} {H' with sp:=lT H'.sp b} held' s2' P2 gb km fm (x.fP b):=p2.fB (y:=x.fP b) (o3.ext.sub λc d=>.inr (.inl d)) (o3.ext.bT p2.b p.n1) m3 (o3.ext.fO p2.f λ(h:fm=km)=>p.n3 h.symm);have zs3:=o3.1;have hkm:=p.m.lt;have hfm:=p.f.lt;have hgb:=p.b.lt;have hD3:s3[v20.size]?=some (.deferred (some [])):=(o3.2 _ O).trans ((e2.2 _ hlt (n7 _ O (q3 _ O))).trans hD);refine(o3.ext.bT i4' hvk).eY rfl (EB hD3 λs4 e4=>?_);have hP2':∀c,P2 c->P c\/U.size<=c:=λc d=>by
         rcases hP2 c d with h|h
         ·rcases i7 c h with h|h
          ·exact E c h
          ·exact .inr O
         ·exact .inr O
        refine h2 b s4 ts H' held' s2' P2 gr (by rw[Q];exact hw) o ?_ (p3.out e4 λc _ (d:c=v20.size)=>?_) hP2'
        ·have E1:Ext (Mg P gb km fm) U s2:=Ext.dT i1 e2 λc d=>by
          rcases i7 c d with h|h
          ·exact(E c h).imp .inl id
          ·exact .inr O
         have E2:Ext (Mg P gb km fm) U s3:=E1.trans (o3.ext.sub λc d=>.inr (.inr (.inl d)));exact Ext.dT E2 e4 λc (d:c=v20.size)=>.inr O
        ·subst d;have:=p.e.1;refine⟨λhx=>?_,O,O,O,O⟩;rcases hP2 _ hx with h|h
         ·exact n7 _ O (q3 _ O) h
         ·omega
     ·exact cE (by rw[hr3];simp[hgk]) (h0 v (by simpa using hgk) e)
    ·by_cases g:1<=size/\size<=1024/\1<=align/\align<=256
     ·refine cB (by rw[hr2,zJ g];rfl) (ar O O (hJ3 _ _ ⟨rfl,?_⟩));rw[O6 g.2.2.1 g.2.2.2];unfold ni;rw[zJ g];rfl
     ·refine cE (by rw[hr2,zM g];rfl) (hJ3 _ _ ⟨rfl,?_⟩);unfold ni;rw[zM g];rfl
   ·by_cases g:1<=size/\size<=1024/\1<=align
    ·refine cB (by rw[hr1,zJ g];rfl) (hJ2 _ _ ⟨rfl,?_⟩);by_cases C:align>256
     ·rw[zJ C,zM O];rfl
     ·rw[zM C,zJ O];rfl
    ·exact cE (by rw[hr1,zM g];rfl) (hJ2 _ _ ⟨rfl,by rw[zM O];rfl⟩)
  ·by_cases g:1<=size/\size<=1024
   ·refine cB (by rw[hr,zJ g];rfl) (hJ1 _ _ ⟨rfl,?_⟩);by_cases C:align<1
    ·rw[zJ C,zM O];rfl
    ·rw[zM C,zJ O];rfl
   ·exact cE (by rw[hr,zM g];rfl) (hJ1 _ _ ⟨rfl,by rw[zM O];rfl⟩)
 ·by_cases C:size>1024
  ·rw[zJ C,zM O];rfl
  ·rw[zM C,zJ O];rfl
end Go.Ar
namespace Go.Ar
open Go Go.Vc Go.Proofs Go.RowKit Go.Sort Go.Shelf Go.Lib
variable {U:Hp}{F Q:Rg}{s:Sl}{xs:List Int}
theorem RW (hrow:bR s 1 (Wo xs) U F)(hlen:xs.length<=1000000){R:aP}(hR:∀ys w,ys.Perm xs->Ext F U w->bR s 1 (Wo ys) w F->R w):KJ.c s U R:=by
 rintro w rfl;have z:s.len=xs.length:=by have:=hrow.1;simp[Wo]at this;omega
 rcases hrow.2 with⟨h0,hc0⟩|⟨b,cs,hF,ha,hb,hle,hcl,ht⟩
 ·have E:xs=[]:=vN.1 O;have:=AnyM.slices_Sort_int_none Tryz.lp s.a s.cap w;show Calls _ _ #[.slice s.a s.len s.cap] w _;rw[h0];refine this.mono ?_;rintro e G ⟨rfl,rfl⟩;exact⟨.refl _,[],rfl,hR xs _ (.refl _) (Ext.refl _ _) hrow⟩
 ·have r:=hb.lt;have K:Holds (Value.int .i64) w b 0 xs.toArray:=by
   intro j hj;have i:j<xs.length:=by simpa using hj
   have N:Vc.cell w.heap ⟨b,0+j,none⟩=some (.int .i64 xs.toArray[j]!):=by
    rw[hb.cell,zH];have:(cs.take (Wo xs).length)[j]?=some (.int .i64 xs[j]):=by rw[ht];simp[Wo,i]
    rw[zj,zC (by simpa[Wo]using i)]at this;rw[this,getElem!_pos xs.toArray j hj];simp
   exact⟨N,hb.m6⟩
  have m:=AnyM.slices_Sort_int Tryz.lp b 0 s.cap xs w K r O;show Calls _ _ #[.slice s.a s.len s.cap] w _;rw[ha,z];refine m.mono ?_;rintro e G ⟨rfl,n,os,rfl⟩;obtain⟨ys,p⟩:∃ys,ys=xs.mergeSort λx y=>decide (x<=y):=⟨_,rfl⟩;have D:ys.Perm xs:=by rw[p];exact List.mergeSort_perm _ _
  have L:ys.length=xs.length:=D.length_eq;rw[←p];obtain⟨H,B⟩:=hb;have d:(grow (putRow (Value.int .i64) (Sort.ahead w n) b 0 ys.toArray) os).heap=(w.heap.modify b (onCells (putCells (Value.int .i64) 0 ys.toArray)))++os:=rfl;have g:(w.heap.modify b (onCells (putCells (Value.int .i64) 0 ys.toArray))).size=w.heap.size:=by simp
  refine⟨⟨rfl,rfl,rfl,by rw[d,yq,g];omega⟩,[],rfl,?_⟩;rw[d];have u:Ext F w.heap ((w.heap.modify b (onCells (putCells (Value.int .i64) 0 ys.toArray)))++os):=by
   refine⟨by rw[yq,g];omega,λq J M=>?_⟩;rw[ta (by rw[g];exact J),uB,zB λ(e:b=q)=>M (by rw[←e];exact hF)]
  refine hR ys _ D u ⟨by simp[Wo];omega,.inr ⟨b,(putCells (Value.int .i64) 0 ys.toArray cs.toArray).toList,hF,ha,⟨H,?_⟩,hle,?_,?_⟩⟩
  ·rw[ta (by rw[g];exact r),uB,zC rfl,B];simp[onCells]
  ·simp[putCells,hcl]
  ·have C:(Wo ys).length=ys.length:=by simp[Wo]
   rw[C];apply zo;intro j;rw[zj];by_cases hj:j<ys.length
   ·rw[zC hj];have A:j<cs.length:=by omega
    simp only[putCells,vu,Array.getElem?_mapIdx,List.getElem?_toArray,cV A,zX];rw[zC ⟨O,by simpa using hj⟩];rw[Nat.sub_zero,getElem!_pos ys.toArray j (by simpa using hj)];simp[Wo,hj]
   ·rw[zB hj,zV O]
theorem Fu {b:Nat}:∀(vs:List Value) {cs:List Value} {o i:Nat} {h:Hp} {K:aP},bY h b cs->o+i+vs.length<=cs.length->(∀h',Ext (· = b) h h'->K h')->np ⟨b,o,none⟩ h vs i K
 | [],cs,o,i,h,K,_,_,hK=>hK h (Ext.refl _ _)
 | v::vs,cs,o,i,h,K,hb,hl,hK=>by
  have hl':o+i+(vs.length+1)<=cs.length:=hl;unfold np;refine hb.s1 O λe o1 a=>Fu vs a (by rw[nQ];omega) λd e2=>hK d (o1.ext.trans e2)
theorem Lw (hrow:bR s 1 (Wo xs) U F)(hlen:xs.length<=1000000){R:Sl->Hp->Prop}(hR:∀s' w,Ext F U w->(xs.length<=1->bR s' 1 (Wo xs) w F)->R s' w):WS.c s U R:=by
 refine WS.o ?_;unfold WS.v;have P:s.len=xs.length:=by have:=hrow.1;simp[Wo]at this;omega
 refine cQ (λh=>hR s U (Ext.refl _ _) λ_=>hrow) λZ=>?_;have p:¬xs.length<=1:=by omega
 have g:∀s' w,Ext F U w->R s' w:=λs' w e=>hR s' w e λh=>(p h).elim;rcases hrow.2 with⟨h0,hc0⟩|⟨b,cs,hF,ha,hb,hle,hcl,ht⟩
 ·omega
 have d:∀j,j<s.len->∃v:Int,cs[j]?=some (.int .i64 v):=λj D=>by
  have:(cs.take (Wo xs).length)[j]?=some (.int .i64 (xs[j]' O)):=by rw[ht];simp[Wo,show j<xs.length by omega]
  rw[zj,zC (by simp[Wo];omega)]at this;exact⟨_,this⟩
 have x:∀{w},Ext (· = b) U w->Ext F U w:=λe=>e.sub λc (W:c=b)=>by rw[W];exact hF
 have rd:∀{u:Hp} {cs':List Value} {j o:Nat} {K:Int->Prop},bY u b cs'->(∃v:Int,cs'[o+j]?=some (.int .i64 v))->(∀v,K v)->gp .i64 (Addr.add ⟨b,o,none⟩ j) u K:=λA ⟨v,E⟩ S=>A.rI E (S v);have r:∀n:Nat,((List.replicate n [Value.int .i64 0]).flatten).length=n:=λn=>by simp
 rw[ha];refine ZY (a:=bN) (λ(z:Int) w=>w=U/\∃k:Nat,z=k/\1<=k/\k<=s.len) (λz _=>s.len-z.toNat) ⟨rfl,1,rfl,O,O⟩ ?_;rintro(z:Int) w ⟨rfl,k,rfl,h1,hk⟩;refine cQ (λM=>?_) λG=>g s w (Ext.refl _ _);have L:k<s.len:=by omega
 refine ix O O (rd hb (by rw[zH];exact d _ O) λX=>ar O O (ix O O (rd hb (by rw[zH];exact d _ O) λH=>cO (λ_=>?_) λ_=>cP (m:=k+1) O O ⟨⟨rfl,k+1,rfl,O,O⟩,O⟩)));refine iR (s:=s) (sz:=1) (lo:=k) (hi:=s.len) (mx:=s.cap) O hle (zD _) ?_;rw[zB (show ¬s.cap=k by omega),ha];simp only[zX];refine UC (a:=bN) (bb:=bN) (λ(y z:Int) u=>∃(k1 k2:Nat) (cs':List Value),y=k1/\z=k2/\1<=k2/\k2<=s.len-k/\k<=k1/\k1<=k+k2-1/\Ext (· = b) w u/\bY u b cs'/\cs'.length=s.cap/\∀j,j<s.len->∃v:Int,cs'[j]?=some (.int .i64 v)) (λ_ z _=>(s.len-k)-z.toNat)
  ⟨k,1,cs,rfl,rfl,O,O,O,O,Ext.refl _ _,hb,O,d⟩ ?_
 rintro(y:Int) (z:Int) u ⟨k1,k2,cs',rfl,rfl,g1,g2,g3,g4,eu,hbu,hcl',hin⟩;refine cQ (λC=>?_) λB=>?_
 ·have Q:k2<s.len-k:=by omega
  have e1:∀j:Nat,Addr.add (Addr.add ⟨b,0,none⟩ (k*1)) j=Addr.add ⟨b,k,none⟩ j:=λj=>by rw[add_lit,add_lit,add_lit];congr 1;omega
  refine ix O O ?_;rw[e1];refine rd hbu (hin _ O) λX=>ar O O (ix O O ?_);rw[e1];refine rd hbu (hin _ O) λH=>cO (λ_=>?_) λ_=>cP (m:=k2+1) O O ⟨⟨k1,k2+1,cs',rfl,rfl,O,O,O,O,eu,hbu,hcl',hin⟩,O⟩;refine ix O O ?_;rw[e1];refine rd hbu (hin _ O) λv3=>ix O O (hbu.s1 O λY o2 N=>cP (m:=k1+1) O O (cP (m:=k2+1) O O ⟨⟨k1+1,k2+1,_,rfl,rfl,O,O,O,O,eu.trans o2.ext,N,by rw[nQ];exact hcl',λj D=>?_⟩,O⟩));rw[mJ];split
  ·rw[zC O];exact⟨v3,rfl⟩
  ·exact hin j D
 ·refine iR (s:=s) (sz:=1) (lo:=k1) (hi:=s.len) (mx:=s.cap) O hle (zD _) ?_;rw[zB (show ¬s.cap=k1 by omega),ha];simp only[zX];refine⟨by simp[dQ],?_⟩;simp only[add_lit];refine Fu _ hbu ?_ λJ V=>?_
  ·rw[r];omega
  ·refine iR (s:=s) (sz:=1) (lo:=0) (hi:=k1) (mx:=s.cap) O O (zD _) ?_;exact g _ J (x (eu.trans V))
end Go.Ar
namespace Go.Ar
open Go Go.Vc Go.Proofs
open Go.Vc (bV dB cT)
variable {size align:Int}{U σ0 v w w':Hp}{F P Q X T:Rg}{L:dM}{H H' H1:Hw}{held:List Pc}{s0 sp:Sp}{t n:Nat}{g:Th}{gb km fm m:Nat}{x y:Gu}{b:B5}
def Dm:Int:=-1234567
def mB (H:Hw)(x:Gu)(thread addr:Int)(whole:Bool):Int:=
 if Kb H thread≠0 then Kb H thread else match bV x.kn addr with
 | none=>if(bV x.fr addr).getD false then 9 else 8
 | some b=>if Ut H b then 5 else if whole&&decide (0<(Kh H.sp b).length)then 10 else 0
def Gu.gone (x:Gu)(addr:Int):Gu:=⟨cT x.kn addr,dB x.fr addr true,x.no⟩
def iy (H:Hw)(b:B5):Hw:={H with sp:=j6 H.sp (Qx b) λ_=>Dm}
set_option maxRecDepth 16000 in
theorem Gx (p:GP σ0 U L H held s0 P gb km fm x)(gc:Gc σ0)(xi:∀e∈x.kn,e.1=e.2.1/\gS e.2)(thread addr:Int)(whole:Bool){R:aN}
 (h0:∀w,mB H x thread addr whole≠0->bK U w->R (mB H x thread addr whole) w)
 (h1:∀b w ts H1 held' s0' P' e,bV x.kn addr=some b->mB H x thread addr whole=0->V1 (iy H b) thread 1 0 0 b.2.2.1 H1 0 e->fY (iy H b) H1->ot (iy H b) thread b.2.2.1 H1 e->Ext (Mg P gb km fm) U w->GP σ0 w {L with ts:=ts} H1 held' s0' P' gb km fm (x.gone addr)->(∀c,P' c->P c\/U.size<=c)->R 0 w) :
 XQ.c (aW gb) thread addr whole U R:=by
 refine XQ.o ?_;unfold XQ.v;refine VQ p (cB rfl (OQ p thread λC e1=>?_));have p1:=p.fr e1;refine cO (λhne=>?_) λheq=>?_
 ·have hn:Kb H thread≠0:=by simpa using hne
  have he:mB H x thread addr whole=Kb H thread:=by unfold mB;rw[zC hn]
  have:=h0 C (by rw[he];exact hn) e1;rw[he]at this;exact this
 have hrd:Kb H thread=0:=by simpa using heq
 have a:mB H x thread addr whole=match bV x.kn addr with
  | none=>if(bV x.fr addr).getD false then 9 else 8
  | some b=>if Ut H b then 5 else if whole&&decide (0<(Kh H.sp b).length)then 10 else 0:=by
  unfold mB;rw[zB (by rw[hrd];decide)]
 refine aG (p1.b.rM rfl ⟨x.kn,p1.m,?_⟩);refine nw (cs:=[.int .i64 0,.int .i64 0,.int .i64 0,.int .i64 0,.int .i64 0]) λv2 hz2 e2 b2=>b2.s1 aA λv3 o3 b3=>b3.s1 aA λv4 o4 b4=>b4.s1 aA λv5 o5 b5=>b5.s1 aA λv6 o6 b6=>b6.s1 aA λv7 o7 b7=>?_;have eo:Ext (· = C.size) v2 v7:=(((o3.ext.trans o4.ext).trans o5.ext).trans o6.ext).trans o7.ext;have e17:bK C v7:=Ext.fresh e2 eo λi (hi:i=C.size)=>by omega
 have D:=e1.trans e17;have Z:=p.fr D;have d:bY v7 C.size (eU ((bV x.kn addr).getD (0,0,0,0,0))):=b7;cases hk:bV x.kn addr with
 | none=>
  rw[hk]at a;simp only at a;refine KE (λr u=>u=v7/\r=(bV x.fr addr).getD false) (λr u ⟨hu,K⟩=>?_) λJ N=>cE rfl (aG (Z.b.rM rfl ⟨x.fr,Z.f,N _ _ ⟨rfl,rfl⟩⟩));rw[hu];refine cO (λh=>?_) λh=>cE rfl ?_
  ·rw[←K,h]at a;have:=h0 v7 (by rw[a];decide) D;rw[a]at this;exact this
  ·rw[←K,h]at a;have:=h0 v7 (by rw[a];decide) D;rw[a]at this;exact this
 | some b=>
  rw[hk]at a d;simp only at a;have d:bY v7 C.size (eU b):=d;have G:gS b:=(xi _ (Vh hk)).2;refine KE (λr u=>u=v7/\r=false) (λr u ⟨hu,K⟩=>?_) λJ N=>cB rfl (N _ _ ⟨rfl,rfl⟩);rw[hu];refine cB K (cB rfl (d.rI rfl (d.rI rfl (d.rI rfl (d.rI rfl (d.rI rfl (UN Z b λv9 e9=>?_)))))));have E:=D.trans e9;have p9:=p.fr E;have j:=e9.bT d id;refine cO (λhl=>?_) λhl=>?_
  ·rw[zC hl]at a;have:=h0 v9 (by rw[a];decide) E;rw[a]at this;exact this
  rw[zB (by rw[hl];decide)]at a;refine KE (λr u=>bK U u/\bY u C.size (eU b)/\r=(whole&&decide (0<(Kh H.sp b).length))) (λr u ⟨F,B,K⟩=>?_) λJ N=>cO (λM=>?_) λM=>N _ _ ⟨E,j,by rw[M];rfl⟩
  ·refine cO (λh=>?_) λh=>?_
   ·rw[←K,zC h]at a;have:=h0 u (by rw[a];decide) F;rw[a]at this;exact this
   ·rw[←K,zB (by rw[h];decide)]at a;have pu:=p.fr F;have zu:=F.1;have z1:=e1.1;refine B.rI rfl (B.rI rfl (B.rI rfl (B.rI rfl (B.rI rfl (DH pu gc G (-1234567) λu1 X P1 ef Y V=>?_)))));have nP:¬P C.size:=λhx=>by have:=(p.pP _ hx).2;omega
    have hb1:=ef.bT B nP;have zf:=ef.1;refine aG (Y.b.rM rfl ⟨x.kn,Y.m,λu2 o2 _ m2=>?_⟩);have o2:=o2 km rfl;have S:GP σ0 u2 L (iy H b) held X P1 gb km fm ⟨cT x.kn addr,x.fr,x.no⟩:=Y.fB (y:=⟨cT x.kn addr,x.fr,x.no⟩) (o2.ext.sub λc g=>.inr (.inl g)) (o2.ext.bT Y.b p.n1) m2 (o2.ext.fO Y.f λ(h:fm=km)=>p.n3 h.symm);refine aG (S.b.rM rfl ⟨fm,x.fr,rfl,S.f,λu3 A m3=>?_⟩);have W:GP σ0 u3 L (iy H b) held X P1 gb km fm (x.gone addr):=S.fB (y:=x.gone addr) (A.ext.sub λc g=>.inr (.inr g)) (A.ext.bT S.b p.n2) (A.ext.fO S.m p.n3) m3;have hkm:=p.m.lt;have hfm:=p.f.lt;have hb3:=A.ext.bT (o2.ext.bT hb1 (show ¬C.size=km by omega)) (show ¬C.size=fm by omega);obtain⟨H',er,M,o,fe⟩:=JZ W.hi thread b.2.2.1 (by have:=G.base;have:=G.m;have:=G.t;have:=G.z;have:=G.s;have:=Qe (n:=b.2.1) O;unfold iD;omega);obtain⟨held',s0',hi'⟩:=o.hi;refine aG (W.b.rP rfl (hb3.eY rfl (RR DU W.h W.cf.2.2 M λu4 ts e4 h4=>?_)));have p5:=W.step e4 h4 hi' o.kp;have z2:=o2.1;have z3:=A.1;have z4:=e4.1;refine h1 b u4 ts H' held' s0' _ er hk a M o fe ?_ p5 λc g=>?_
    ·have E1:Ext (Mg P gb km fm) U u1:=(bK.to F).trans (ef.sub λc g=>.inl g);have E3:Ext (Mg P gb km fm) U u3:=(E1.trans (o2.ext.sub λc g=>.inr (.inr (.inl g)))).trans (A.ext.sub λc g=>.inr (.inr (.inr g)));exact Ext.dT E3 e4 λc g=>(V c g).imp .inl λh=>by omega
    ·rcases g.1 with g|g
     ·exact(V c g).imp id λh=>by omega
     ·exact .inr O
  ·refine j.rI rfl (j.rI rfl (j.rI rfl (j.rI rfl (j.rI rfl (Hj p9 G λs u Q F hs hQ=>N _ _ ⟨E.trans F,F.bT j id,?_⟩)))));have:s.len=(Kh H.sp b).length:=by have:=hs.1;simp[Wo]at this;omega
   rw[M,this,p8,lQ,decide_eq_true_iff,decide_eq_true_iff];omega
def vM (H:Hw)(x:Gu)(addr:Int):Int:=match bV x.kn addr with
 | none=>8
 | some b=>if Ut H b then 5 else 0
def vG (H:Hw)(x:Gu)(addr:Int):List Int:=match bV x.kn addr with
 | none=>[]
 | some b=>if Ut H b then[]else Kh H.sp b
set_option maxRecDepth 16000 in
theorem G2 (p:GP σ0 U L H held s0 P gb km fm x)(xi:∀e∈x.kn,e.1=e.2.1/\gS e.2)(addr:Int){R:Sl->Int->Hp->Prop}
 (hR:∀s w Q,bK U w->bR s 1 (Wo (vG H x addr)) w Q->(∀c,Q c->U.size<=c/\c<w.size)->R s (vM H x addr) w):Xk.c (aW gb) addr U R:=by
 refine Xk.o ?_;unfold Xk.v;refine VQ p (cB rfl (aG (p.b.rM rfl ⟨x.kn,p.m,?_⟩)));refine nw (cs:=[.int .i64 0,.int .i64 0,.int .i64 0,.int .i64 0,.int .i64 0]) λC V e2 J=>J.s1 aA λv3 o3 B=>B.s1 aA λv4 o4 b4=>b4.s1 aA λv5 o5 E=>E.s1 aA λZ o6 N=>N.s1 aA λv7 o7 K=>?_;have F:Ext (· = U.size) C v7:=(((o3.ext.trans o4.ext).trans o5.ext).trans o6.ext).trans o7.ext;have j:bK U v7:=Ext.fresh e2 F λi (Y:i=U.size)=>by omega
 have z:=p.fr j;have a:bY v7 U.size (eU ((bV x.kn addr).getD (0,0,0,0,0))):=K;have nil:∀w,bR ⟨none,0,0⟩ 1 (Wo []) w (λ_=>False):=λw=>⟨rfl,.inl ⟨rfl,rfl⟩⟩;unfold vM vG at hR;cases hk:bV x.kn addr with
 | none=>
  rw[hk]at hR;exact cE rfl (hR _ v7 _ j (nil _) λc h=>h.elim)
 | some b=>
  rw[hk]at a hR;simp only at hR;have a:bY v7 U.size (eU b):=a;have W:gS b:=(xi _ (Vh hk)).2;refine cB rfl (a.rI rfl (a.rI rfl (a.rI rfl (a.rI rfl (a.rI rfl (UN z b λG y=>?_))))));have g:=j.trans y;have M:=p.fr g;have d:=y.bT a id;refine cO (λr=>?_) λr=>?_
  ·rw[r]at hR;exact hR _ G _ g (nil _) λc h=>h.elim
  ·rw[r]at hR;refine d.rI rfl (d.rI rfl (d.rI rfl (d.rI rfl (d.rI rfl (Hj M W λs u Q D A S=>?_)))));have:=g.1;exact hR s u Q (g.trans D) A λc X=>by have:=S c X;omega
theorem CY {α:Type}{n:Int}{x:α}:∀{l:List (Int×α)},(l.map (·.1)).Nodup->(n,x)∈l->l.Perm ((n,x)::l.filter λy=>!(y.1==n))
 | [],_,h=>by simp at h
 | z::l,hn,h=>by
  simp only[zS,zr]at hn;rcases zW.1 h with h1|h1
  ·subst h1;have:l.filter (λy=>!(y.1==n))=l:=by
    rw[pf];intro y hy;have:y.1≠n:=λe=>hn.1 (zE.2 ⟨y,hy,e⟩);simpa using this
   rw[ux aA,this]
  ·have a:z.1≠n:=λe=>hn.1 (zE.2 ⟨_,h1,e.symm⟩);rw[uJ (by simpa using a)];exact((CY hn.2 h1).cons z).trans (List.Perm.swap _ _ _)
theorem bR.sH {h:Hp}{s y:Sl}{sz bytes e:Nat}{zs xs:List Value}{K:Sl->Hp->Prop}(ho:bR s sz xs h F)(hy:y.len=0)(hb:s.len*bytes<=2^46)(hc:s.len<=2^62)(hK:K s h):App s sz bytes e zs y h K:=by
 refine⟨xs,[],ho.1,by rw[hy];simp,ho.rd,?_,by simp,by rw[hy];exact hb,by rw[hy];exact hc,λd=>?_,λb=>?_⟩
 ·unfold Rd;split
  ·rfl
  ·intro j v hv;simp at hv
 ·rw[hy];cases ha:s.a with
  | some a=>simp only[np];rw[←ha];exact hK
  | none=>simp only;rw[←ha];exact hK
 ·exfalso;rw[hy]at b;rcases ho.2 with⟨h1,h2⟩|⟨_,_,_,_,_,h3,_⟩<;>omega
theorem BR {s y:Sl}{xs ys:List Int}{e:Nat}{K:Sl->Hp->Prop}(hr:bR s 1 (Wo xs) U F)(hy:bR y 1 (Wo ys) U Q)(hl:xs.length+ys.length<=10000000)(hK:∀s' w,Ext F U w->bR s' 1 (Wo (xs++ys)) w (λc=>F c\/U.size<=c/\c<w.size)->K s' w):App s 1 8 e [.int .i64 0] y U K:=by
 have a:s.len=xs.length:=by have:=hr.1;simp[Wo]at this;omega
 have u:y.len=ys.length:=by have:=hy.1;simp[Wo]at this;omega
 by_cases h0:y.len=0
 ·have b:ys=[]:=vN.1 O;subst b;refine bR.sH hr h0 O O (hK s U (Ext.refl _ _) ?_);rw[kX];exact aI.mono hr λc _ j=>.inl j
 ·refine hr.app (ys:=Wo ys) rfl (by simp[Wo];omega) hy.rd (λv d=>?_) O O O λs' w i r m=>hK s' w r ?_
  ·unfold Wo at d;obtain⟨z,_,rfl⟩:=zE.1 d;rfl
  ·have:Wo (xs++ys)=Wo xs++Wo ys:=by simp[Wo]
   rw[this];refine aI.mono (aI.cut m) λc p g=>?_;rcases g.1 with a|a
   ·exact .inl a
   ·exact .inr ⟨a,p⟩
def oW (H:Hw)(e:Int×B5):List Int:=if Ut H e.2 then[]else Kh H.sp e.2
def pC (H:Hw)(x:Gu):List Int:=x.kn.flatMap (oW H)
set_option maxRecDepth 16000 in
theorem C9 (p:GP σ0 U L H held s0 P gb km fm x)(xi:∀e∈x.kn,e.1=e.2.1/\gS e.2)(hsw:(pC H x).length<=1000000){R:Sl->Hp->Prop}
 (hR:∀s w,bK U w->((pC H x).length<=1->∃Q,bR s 1 (Wo (pC H x)) w Q/\∀c,Q c->U.size<=c/\c<w.size)->R s w):Xz.c (aW gb) U R:=by
 refine Xz.o ?_;unfold Xz.v;refine VQ p (cB rfl (aG (p.b.rM rfl ?_)));refine sj (a:=.s) p.m (λd (out:Sl) u=>bK U u/\U.size<u.size/\(∀e∈d,e∈x.kn)/\(d.map (·.1)).Nodup/\∃(l:List Int) (Q:Rg),bR out 1 (Wo l) u Q/\(∀c,Q c->U.size+1<=c/\c<u.size)/\(l++d.flatMap (oW H)).Perm (pC H x)) (λv hv ev=>⟨ev,O,λe he=>he,p.m.nodup,[],λ_=>False,⟨rfl,.inl ⟨rfl,rfl⟩⟩,λc h=>h.elim,List.Perm.refl _⟩) ?_ ?_
 ·rintro(out:Sl) u ⟨Z,hlt,_,_,l,Q,hr,K,X⟩;rw[List.flatMap_nil,kX]at X;have S:l.length<=1000000:=by rw[X.length_eq];exact hsw
  have zu:=Z.1;refine RW hr S λys u2 Y e2 hr2=>Lw hr2 (by rw[Y.length_eq];exact S) λs' u3 e3 hr3=>?_;have E3:bK U u3:=Ext.fresh Z (e2.trans e3) λc r=>by have:=K c r;omega
  refine hR s' u3 E3 λh1=>⟨Q,?_,λc r=>?_⟩
  ·have h2:ys.length<=1:=by rw[Y.length_eq,X.length_eq];exact h1
   have:ys=pC H x:=by
    have hq:=Y.trans X
    match ys,hq with
    | [],hq=>exact(List.nil_perm.1 hq).symm
    | [a],hq=>exact(List.singleton_perm.1 hq)
    | _::_::_,_=>simp at h2
   rw[this]at hr3 h2;exact hr3 h2
  ·have:=K c r;have:=e2.1;have:=e3.1;omega
 ·rintro d k (b:B5) (out:Sl) u u' J ⟨Z,hlt,F,hnd,l,Q,hr,K,X⟩ G o1 hs1 hJ;have bi:gS b:=(xi _ (F _ G)).2;have zu:=Z.1;have hpt:=CY hnd G;have hQn:∀c,Q c->¬c=U.size:=λc r=>by have:=K c r;omega
  have V:bK U u':=Ext.fresh Z o1.ext λc (r:c=U.size)=>by omega
  have hr':=aI.bS hr o1.ext λc _ r=>hQn c r;have hz':=o1.1;refine nw (cs:=[.int .i64 0,.int .i64 0,.int .i64 0,.int .i64 0,.int .i64 0]) λv2 hz2 e2 b2=>b2.s1 aA λv3 o3 b3=>b3.s1 aA λv4 o4 b4=>b4.s1 aA λv5 o5 b5=>b5.s1 aA λv6 o6 b6=>b6.s1 aA λv7 o7 b7=>?_;have eo:Ext (· = u'.size) v2 v7:=(((o3.ext.trans o4.ext).trans o5.ext).trans o6.ext).trans o7.ext;have e7:bK u' v7:=Ext.fresh e2 eo λi (hi:i=u'.size)=>by omega
  have z:bY v7 u'.size (eU b):=b7;have p7:=(p.fr V).fr e7;refine z.rI rfl (z.rI rfl (z.rI rfl (z.rI rfl (z.rI rfl (UN p7 b λv9 e9=>?_)))));have C:=e9.bT z id;have A:=e7.trans e9;have p9:=p7.fr e9;have hkm:=p.m.lt;have E:∀{w:Hp},bK u' w->w[U.size]?=u'[U.size]?/\w[km]?=u'[km]? := λe=>⟨e.2 _ O id,e.2 _ O id⟩;have B:∀e∈d.filter (λy=>!(y.1==k)),e∈x.kn:=λe he=>F e (zI.1 he).1;have M:((d.filter (λy=>!(y.1==k))).map (·.1)).Nodup:=hnd.sublist (List.filter_sublist.map _);refine cO (λhnl=>?_) λhl=>?_
  ·have W:Ut H b=false:=by simpa using hnl
   have N:oW H (k,b)=Kh H.sp b:=by unfold oW;rw[W];rfl
   refine C.rI rfl (C.rI rfl (C.rI rfl (C.rI rfl (C.rI rfl (Hj p9 bi λs u10 Q2 e10 hs hQ2=>?_)))));have j:=A.trans e10;have hr10:=aI.bO hr' j;have g:((l++Kh H.sp b)++(d.filter (λy=>!(y.1==k))).flatMap (oW H)).Perm (pC H x):=by
    refine List.Perm.trans ?_ X;rw[j3];refine List.Perm.append_left l ?_;have:=hpt.flatMap_right (oW H);rw[oY,N]at this;exact this.symm
   have S:l.length+(Kh H.sp b).length<=1000000:=by
    have:=g.length_eq;rw[zO,zO]at this;omega
   refine BR hr10 hs O λout1 u11 D hr11=>?_;have z10:=j.1;have n11:∀c,c<=U.size->¬Q c:=λc h1 h2=>by have:=K c h2;omega
   refine hJ out1 u11 ?_ ?_ ⟨Ext.fresh (V.trans j) D λc r=>by have:=K c r;omega,by have:=D.1;omega,B,M,l++Kh H.sp b,_,hr11,λc r=>?_,g⟩
   ·rw[D.2 _ O (n11 _ (zD _))];exact(E j).1
   ·rw[D.2 _ O (n11 _ O)];exact(E j).2
   ·have z11:=D.1;rcases r with r|r
    ·have:=K c r;omega
    ·omega
  ·have W:Ut H b=true:=by simpa using hl
   have N:oW H (k,b)=[]:=by unfold oW;rw[W];rfl
   have g:(l++(d.filter (λy=>!(y.1==k))).flatMap (oW H)).Perm (pC H x):=by
    refine List.Perm.trans ?_ X;refine List.Perm.append_left l ?_;have:=hpt.flatMap_right (oW H);rw[oY,N]at this;exact this.symm
   have z9:=A.1;exact hJ out v9 (E A).1 (E A).2 ⟨V.trans A,O,B,M,l,Q,aI.bO hr' A,λc r=>by have:=K c r;omega,g⟩
end Go.Ar
namespace Go.Proofs
open Go.Shelf
end Go.Proofs
namespace Go.Ar
open Go Go.Vc Go.Proofs Go.RowKit Go.Maps Go.Sort Go.Shelf
open Go.Vc (bV dB cT)
open Go.Bu (lU U2 Vy U1 KR xu)
variable {U w w':Hp}{F P Q X S:Rg}{L:dM}{H H':Hw}{held:List Pc}{s0 sp:Sp}{t n:Nat}{g:Th}{σ0:Hp}
def nv (b:Bk):List Value:=[.int .i64 b.1,.int .i64 b.2.1,.int .i64 b.2.2.1,.int .i64 b.2.2.2]
def jv (bs:List Bk):List Value:=bs.flatMap nv
theorem BP (bs:List Bk):(jv bs).length=bs.length*4:=by
 unfold jv
 induction bs with
 | nil=>rfl
 | cons b bs ih=>rw[oY,zO,ih];simp[nv];omega
theorem AU:∀{bs:List Bk} {i:Nat} {b:Bk},bs[i]?=some b->∀{j:Nat} {v:Value},(nv b)[j]?=some v->(jv bs)[4*i+j]?=some v
 | [],i,b,h,_,_,_=>by simp at h
 | a::bs,0,b,h,j,v,hv=>by
  simp only[xA,Option.some.injEq]at h;subst h;have hj:=(cW.1 hv).1;show(nv a++jv bs)[4*0+j]?=_;rw[show 4*0+j=j by omega,ze hj];exact hv
 | a::bs,i+1,b,h,j,v,hv=>by
  have d:=AU (bs:=bs) (i:=i) (b:=b) (by simpa using h) hv;show(nv a++jv bs)[4*(i+1)+j]?=_;rw[zp (by simp[nv];omega)];have:4*(i+1)+j-(nv a).length=4*i+j:=by simp[nv];omega
  rw[this];exact d
theorem cU.se {B:Nat}{s:Sl}{xs:List Value}(h:lU B U s xs):cU s 1 xs U (λb=>B<=b):=by
 refine⟨by have:=h.1;omega,?_⟩;rcases h.2 with⟨h0,_⟩|⟨b,cs,hb,ha,hk,hc⟩
 ·exact .inl h0
 ·exact .inr ⟨b,0,cs,hb,ha,hk.q,λj a=>by rw[zH];exact hc j a⟩
theorem NU {s:Sl}{bs:List Bk}(hs:cU s 4 (jv bs) U F){i:Nat}{b:Bk}(hb:bs[i]?=some b){K:Addr->Prop}(hK:∀bb o,(∀(j:Nat) v,(nv b)[j]?=some v->cell U ⟨bb,o+j,none⟩=some v)->K ⟨bb,o,none⟩):Ix s.a s.len (i:Int) 4 K:=by
 have m:=(cW.1 hb).1;have r:s.len=bs.length:=by have:=hs.1;rw[BP]at this;omega
 obtain⟨bb,o,e,x⟩:=hs.cell (AU hb (j:=0) rfl);rw[e];refine ix O O ?_;rw[add_lit,dE];refine hK bb _ λj v g=>?_;obtain⟨w,u,d,p⟩:=hs.cell (AU hb g);rw[e]at d;cases d;rw[←p];congr 2;omega
end Go.Ar
namespace Go.Proofs
open Go.Shelf
def Tryz.gY:Go.Shelf.Ren:=⟨fun|7=>51|10=>85|n=>n,fun|23=>71|26=>3|3=>95|28=>98|0=>0|27=>97|33=>142|4=>4|n=>n,fun|n=>n⟩
theorem Tryz.kM:Go.Proofs.SlLaysZI.n7 Tryz.prog Tryz.gY:={
 mixed:=by kernel_rfl
 f7:=⟨Tryz.f51.name,by decide,Tryz.func51.trans (congrArg some (by kernel_rfl))⟩
 f10:=⟨Tryz.f85.name,by decide,Tryz.func85.trans (congrArg some (by kernel_rfl))⟩
 t0:=Tryz.underlying0
 a0:=Tryz.isAgg0
 z0:=Tryz.sizeOf0
 v0:=Tryz.zeroValue0
 t4:=Tryz.underlying4
 a4:=Tryz.isAgg4
 z4:=Tryz.sizeOf4
 v4:=Tryz.zeroValue4
 t23:=Tryz.underlying71
 a23:=Tryz.isAgg71
 z23:=Tryz.sizeOf71
 v23:=Tryz.zeroValue71
 t26:=Tryz.underlying3
 a26:=Tryz.isAgg3
 z26:=Tryz.sizeOf3
 v26:=Tryz.zeroValue3
 t27:=Tryz.underlying97
 a27:=Tryz.isAgg97
 z27:=Tryz.sizeOf97
 v27:=Tryz.zeroValue97
 t28:=Tryz.underlying98
 a28:=Tryz.isAgg98
 z28:=Tryz.sizeOf98
 v28:=Tryz.zeroValue98
 t33:=Tryz.underlying142
 a33:=Tryz.isAgg142
 z33:=Tryz.sizeOf142
 v33:=Tryz.zeroValue142}
end Go.Proofs
namespace Go.Proofs
open Go.Vc
set_option maxRecDepth 100000
def XH.h:Hn:=.q .o1 (.q (.q .o5 .aK) (.q (.q .o1 (.k (.loop [(5,.I)] (.q (.q .o4 (.c .l .l)) (.q (.k (.q (.oq 9) .aK)) .o3))))) .aM))
def XH.v (a b:Sl)(c:Hp)(d:aO):Prop:=If (((a.len:Nat):Int) != ((b.len:Nat):Int)) (d false c) (Yo [bN] (λe=>e 0 c) λf (g:Int) h=>If (g<((a.len:Nat):Int)) (Ix a.a a.len g 1 λi=>bM i h λj=>Ix b.a b.len g 1 λk=>bM k h λl=>If (j != l) (d false h) (bL (g+1) λm=>f m h)) (d true h))
theorem XH.o {a b c d}(e:XH.v a b c d):XH.c a b c d:=Wa Tryz.func30 (x:=XH.h) (R0 e)
end Go.Proofs
namespace Go.Ar
open Go Go.Vc Go.Proofs Go.RowKit Go.Maps Go.Sort Go.Shelf
open Go.Vc (bV dB cT)
open Go.Bu (lU U2 Vy U1 KR xu)
variable {size align:Int}{U σ0 v w w':Hp}{F P Q X T:Rg}{L:dM}{H H' H1:Hw}{held:List Pc}{s0 sp:Sp}{t n:Nat}{g:Th}{gb km fm m:Nat}{x y:Gu}{b:B5}
theorem By {k:IntKind}{c:CK}{l:List (Int×c.T)}{r:Nat}{a a':CK}{x0:a.T}{y0:a'.T}{A:a.T->a'.T->Hp->Prop}{body:Int->c.T->a.T->a'.T->Hp->(a.T->a'.T->Hp->Prop)->Prop}(hm:dH U r k c l)(I:List (Int×c.T)->a.T->a'.T->Hp->Prop)
 (h0:∀v,v.size=U.size+1->bK U v->I l x0 y0 v)
 (hend:∀z y v,I [] z y v->A z y v)
 (hstep:∀todo n x z y v v' (J:a.T->a'.T->Hp->Prop),I todo z y v->(n,x)∈todo->Qm v v' U.size->U.size<v.size->(∀z' y' w,w[U.size]?=v'[U.size]?->w[r]?=v'[r]?->I (todo.filter λy=>!(y.1==n)) z' y' w->J z' y' w)->body n x z y v' J) :
 nA k c (some r) U λit v3=>Yo [a,a'] (λI=>I x0 y0 v3) λJ1 z y v4=>ny k c it v4 (A z y v4) λ_ _ v5=>nM k c it v5 λkey1 val1=>body key1 val1 z y v5 J1:=by
 refine⟨l,hm,λv G N K=>?_⟩;have P:bK U v:=⟨O,λb j _=>N b j⟩;refine UC (a:=a) (bb:=a') (λz y w=>∃todo d,It w U.size k c (some r) l todo d/\I todo z y w/\U.size<w.size) (λ_ _ w=>wj w U.size r) ⟨l,none,K,h0 v G P,O⟩ ?_;rintro z y w ⟨todo,d,i,C,s⟩;refine⟨rfl,some r,l,todo,d,i,λM=>?_,λn x D H F g=>?_⟩
 ·subst M;exact hend z y w C
 ·refine⟨rfl,some r,l,_,n,x,g,hstep todo n x z y w H _ C D F s λz' y' u m p B=>?_⟩;have e:=g.bS m p;refine⟨⟨_,_,e,B,?_⟩,?_⟩
  ·obtain⟨R,L,E,Q,_⟩:=e;exact(zt.1 Q).1
  ·rw[e.num,i.num];exact yG.2 ⟨(n,x),D,by simp⟩
def lF (ofV:B5->Int)(addr:Int)(b:B5):Prop:=b.1<=addr/\addr<b.1+ofV b
instance (ofV:B5->Int) (addr:Int) (b:B5):Decidable (lF ofV addr b):=by unfold lF;infer_instance
set_option maxRecDepth 16000 in
theorem CS (p:GP σ0 U L H held s0 P gb km fm x)(xi:∀e∈x.kn,e.1=e.2.1/\gS e.2)(addr:Int){ofv:Fv}{ofV:B5->Int}(hov:∀b,gS b->0<=ofV b/\ofV b<=100000)
 (hof:∀(b:B5) (u:Hp) (K:aN),gS b->(∀u',bK u u'->K (ofV b) u')->VF Tryz.prog ofv [.agg #[.int .i64 b.1,.int .i64 b.2.1,.int .i64 b.2.2.1,.int .i64 b.2.2.2.1,.int .i64 b.2.2.2.2]] [.one bN] u K)
 {R:Int->Int->Int->Int->Int->Bool->Hp->Prop}
 (h0:∀(b:B5) w,bK U w->(∀e∈x.kn,¬lF ofV addr e.2)->R b.1 b.2.1 b.2.2.1 b.2.2.2.1 b.2.2.2.2 false w)
 (h1:∀e w,bK U w->e∈x.kn->lF ofV addr e.2->R e.2.1 e.2.2.1 e.2.2.2.1 e.2.2.2.2.1 e.2.2.2.2.2 true w) :
 YT.c (aW gb) addr ofv U R:=by
 refine YT.o ?_;unfold YT.v;refine nw (cs:=eU (0,0,0,0,0)) λv hz e b6=>nw (cs:=eU (0,0,0,0,0)) λv1 hz1 e1 b8=>?_;have e01:=e.trans e1;have p1:=p.fr e01;refine aG (p1.b.rM rfl ?_);refine By (a:=.b) (a':=.b) p1.m (λj (d F:Bool) u=>bK U u/\v1.size<u.size/\bY u U.size (eU (0,0,0,0,0))/\(∀e∈j,e∈x.kn)/\∃iG:B5,bY u v.size (eU iG)/\(d=false->∀e∈x.kn,e∈j\/¬lF ofV addr e.2)/\(d=true->∃e∈x.kn,e.2=iG/\lF ofV addr e.2))
  (λu hu Y=>⟨e01.trans Y,O,Y.bT (e1.bT b6 id) id,λe E=>E,(0,0,0,0,0),Y.bT b8 id,λ_ e E=>.inl E,λh=>by cases h⟩) ?_ ?_
 ·rintro(d:Bool) (F:Bool) u ⟨Y,hlt,hb6,_,iG,C,hf0,hf1⟩;refine C.rI rfl (C.rI rfl (C.rI rfl (C.rI rfl (C.rI rfl ?_))));refine hb6.s1 (by simp[eU]) λv3 o3 b3=>b3.s1 (by simp[eU]) λv4 o4 b4=>b4.s1 (by simp[eU]) λv5 o5 b5=>b5.s1 (by simp[eU]) λv6 o6 b6=>b6.s1 (by simp[eU]) λv7 o7 b7=>?_;have eo:Ext (· = U.size) u v7:=(((o3.ext.trans o4.ext).trans o5.ext).trans o6.ext).trans o7.ext;have e7:bK U v7:=Ext.fresh Y eo λi (hi:i=U.size)=>by omega
  have A:bY v7 U.size (eU iG):=b7;refine A.rI rfl (A.rI rfl (A.rI rfl (A.rI rfl (A.rI rfl ?_))));cases d with
  | false=>exact h0 iG v7 e7 λe E=>(hf0 rfl e E).resolve_left aA
  | true=>
   obtain⟨e,E,rfl,G⟩:=hf1 rfl;exact h1 e v7 e7 E G
 ·rintro j k (b:B5) (d:Bool) (F:Bool) u u' J ⟨Y,hlt,hb6,D,iG,C,hf0,hf1⟩ N o1 hs1 hJ;have bi:gS b:=(xi _ (D _ N)).2;have ov:=hov b bi;have zu:=Y.1;have hz':=o1.1;have hbm:=bi.m;have hbz:=bi.z;have hbb:=bi.base;have hbt:=bi.t;have hbs:=bi.s;have hww:=Qe (n:=b.2.1) O;have eu':bK U u':=Ext.fresh Y o1.ext λc (hc:c=v1.size)=>by omega
  have aa:=o1.ext.bT hb6 (show ¬U.size=v1.size by omega);have X:=o1.ext.bT C (show ¬v.size=v1.size by omega);have hkm:=p.m.lt;refine nw (cs:=eU (0,0,0,0,0)) λv2 hz2 e2 b2=>b2.s1 (by simp[eU]) λv3 o3 b3=>b3.s1 (by simp[eU]) λv4 o4 b4=>b4.s1 (by simp[eU]) λv5 o5 b5=>b5.s1 (by simp[eU]) λv6 o6 b6=>b6.s1 (by simp[eU]) λv7 o7 b7=>?_;have eo:Ext (· = u'.size) v2 v7:=(((o3.ext.trans o4.ext).trans o5.ext).trans o6.ext).trans o7.ext;have e7:bK u' v7:=Ext.fresh e2 eo λi (hi:i=u'.size)=>by omega
  have A:bY v7 u'.size (eU b):=b7;have V:∀{w:Hp},bK u' w->w[v1.size]?=u'[v1.size]?/\w[km]?=u'[km]? := λe=>⟨e.2 _ O id,e.2 _ O id⟩;have S:∀e∈j.filter (λy=>!(y.1==k)),e∈x.kn:=λe E=>D e (zI.1 E).1;have hkb:∀e∈x.kn,e∈j->e∈j.filter (λy=>!(y.1==k))\/e=(k,b):=λe E ht=>by
   by_cases hk:e.1=k
   ·right;have h1:=Qf p.m.nodup (show(e.1,e.2)∈x.kn from E);have h2:=Qf p.m.nodup (D _ N);rw[hk,h2]at h1;exact Prod.ext hk (Option.some.inj h1).symm
   ·exact .inl (zI.2 ⟨ht,by simpa using hk⟩)
  have same:∀w,bK u' w->(d=false->¬lF ofV addr b)->J d F w:=λw ew hnb=>by
   have zw:=ew.1;refine hJ d F w (V ew).1 (V ew).2 ⟨eu'.trans ew,O,ew.bT aa id,S,iG,ew.bT X id,λB e E=>?_,hf1⟩;rcases hf0 B e E with h|h
   ·rcases hkb e E h with h|rfl
    ·exact .inl h
    ·exact .inr (hnb B)
   ·exact .inr h
  refine xm (λr u2=>bK u' u2/\bY u2 u'.size (eU b)/\r = !decide (lF ofV addr b)) (λr u2 ⟨eu2,M,hr⟩=>?_) λJ1 hJ1=>?_
  ·by_cases G:lF ofV addr b
   ·refine cB (by rw[hr,zJ G];rfl) ?_;have pu:=(p.fr eu').fr eu2;refine M.rI rfl (M.rI rfl (M.rI rfl (M.rI rfl (M.rI rfl (UN pu b λW e17=>?_)))));have E17:=eu2.trans e17;have g:=e17.bT M id;have h617:=E17.bT aa id;have Z:=E17.bT X id;refine KE (λr u3=>u3=W/\(d=false->r=true)) (λr u3 ⟨hu3,hr3⟩=>?_) λJ2 hJ2=>?_
    ·rw[hu3];refine KE (λr1 u4=>u4=W/\(d=false->r1=true)) (λr1 u4 ⟨hu4,hr4⟩=>?_) λJ3 hJ3=>?_
     ·rw[hu4];refine cO (λh1=>?_) λh1=>same W E17 λB=>by rw[hr4 B]at h1;cases h1
      refine g.rI rfl (g.rI rfl (g.rI rfl (g.rI rfl (g.rI rfl ?_))));refine Z.s1 (by simp[eU]) λw3 q3 c3=>c3.s1 (by simp[eU]) λw4 q4 c4=>c4.s1 (by simp[eU]) λw5 q5 c5=>c5.s1 (by simp[eU]) λw6 q6 c6=>c6.s1 (by simp[eU]) λw7 q7 c7=>?_;have qo:Ext (· = v.size) W w7:=(((q3.ext.trans q4.ext).trans q5.ext).trans q6.ext).trans q7.ext;have c7':bY w7 v.size (eU b):=c7;have z17:=E17.1;have zq:=qo.1;refine hJ true _ w7 ?_ ?_ ⟨Ext.fresh (eu'.trans E17) qo λc (hc:c=v.size)=>O,O,qo.bT h617 (show ¬U.size=v.size by omega),S,b,c7',λh=>(by cases h),λ_=>⟨(k,b),D _ N,rfl,G⟩⟩
      ·rw[qo.2 _ O (show ¬v1.size=v.size by omega)];exact(V E17).1
      ·rw[qo.2 _ O (show ¬km=v.size by omega)];exact(V E17).2
     ·refine cO (λh=>hJ3 _ _ ⟨rfl,λ_=>rfl⟩) λh=>?_;have Q:¬d=false:=λB=>by rw[hr3 B]at h;cases h
      exact bW.intro (cO (λ_=>g.rI rfl (Z.rI rfl (hJ3 _ _ ⟨rfl,λB=>(Q B).elim⟩))) λ_=>hJ3 _ _ ⟨rfl,λB=>(Q B).elim⟩)
    ·refine cO (λh=>hJ2 _ _ ⟨rfl,λ_=>rfl⟩) λh=>?_;have Q:¬d=false:=λB=>by rw[B]at h;cases h
     exact bW.intro (cO (λ_=>hJ2 _ _ ⟨rfl,λB=>(Q B).elim⟩) λ_=>hJ2 _ _ ⟨rfl,λB=>(Q B).elim⟩)
   ·exact cE (by rw[hr,zM G];rfl) (same u2 eu2 λ_=>G)
  ·have hS:∀m,bK v7 m->bY m u'.size (eU b):=λm e=>e.bT A id;refine⟨λm=>bK v7 m,Ext.refl _ _,oM (c:=bN) (y:=b.1) hS rfl (cQ (λh=>hJ1 _ _ ⟨e7,A,?_⟩) λh=>?_)⟩
   ·rw[zM];rfl;rintro⟨h1,_⟩;exact absurd h O
   ·refine oM (c:=bN) (y:=b.1) hS rfl (iE (c:=bN) (y:=b.1) hS rfl (iE (c:=bN) (y:=b.2.1) hS rfl (iE (c:=bN) (y:=b.2.2.1) hS rfl (iE (c:=bN) (y:=b.2.2.2.1) hS rfl (iE (c:=bN) (y:=b.2.2.2.2) hS rfl (hof b v7 _ bi λu3 e3=>⟨e3,ar O O (hJ1 _ _ ⟨e7.trans e3,e3.bT A id,?_⟩)⟩))))));rw[lQ,l6,decide_eq_true_iff,decide_eq_false_iff_not];unfold lF;omega
theorem JE (b:B5)(u:Hp)(K:aN)(bi:gS b)(hK:∀u',bK u u'->K (ZB b.2.1) u'):VF Tryz.prog ⟨44,#[],#[]⟩ [.agg #[.int .i64 b.1,.int .i64 b.2.1,.int .i64 b.2.2.1,.int .i64 b.2.2.2.1,.int .i64 b.2.2.2.2]] [.one bN] u K:=by
 have:=bi.s;refine pE (all := #[.agg #[.int .i64 b.1,.int .i64 b.2.1,.int .i64 b.2.2.1,.int .i64 b.2.2.2.1,.int .i64 b.2.2.2.2]]) (by kernel_rfl) aA ?_;exact U0 b O O hK
theorem Pm (b:B5)(u:Hp)(K:aN)(bi:gS b)(hK:∀u',bK u u'->K b.2.1 u'):VF Tryz.prog ⟨57,#[],#[]⟩ [.agg #[.int .i64 b.1,.int .i64 b.2.1,.int .i64 b.2.2.1,.int .i64 b.2.2.2.1,.int .i64 b.2.2.2.2]] [.one bN] u K:=by
 refine pE (all := #[.agg #[.int .i64 b.1,.int .i64 b.2.1,.int .i64 b.2.2.1,.int .i64 b.2.2.2.1,.int .i64 b.2.2.2.2]]) (by kernel_rfl) aA ?_;refine Yw.o ?_;unfold Yw.v;exact nw (cs:=eU b) λv d e a=>a.eY rfl (hK v e)
def uI (addr:Int)(b:B5):Prop:=lF (λb=>ZB b.2.1) addr b
def Dx (addr:Int)(b:B5):Prop:=lF (λb=>b.2.1) addr b
def tD (H:Hw)(x:Gu)(addr e:Int):Prop:=(e=7/\((∀k∈x.kn,¬uI addr k.2)\/addr%8≠0))\/(∃k∈x.kn,uI addr k.2/\addr%8=0/\e=if Ut H k.2 then 5 else 0)
set_option maxRecDepth 16000 in
theorem Co (p:GP σ0 U L H held s0 P gb km fm x)(xi:∀e∈x.kn,e.1=e.2.1/\gS e.2)(addr:Int){R:aN}(hR:∀e w,bK U w->tD H x addr e->R e w):X0.c (aW gb) addr U R:=by
 refine X0.o ?_;unfold X0.v;have D:∀b,gS b->0<=ZB b.2.1/\ZB b.2.1<=100000:=λb A=>by have:=A.s;have:=Qe (n:=b.2.1) O;omega
 have box:∀{w:Hp} {G E N F C:Int} {K:Addr->Hp->Prop},(∀g,bK w g->bY g w.size (eU (G,E,N,F,C))->K ⟨w.size,0,none⟩ g) →
  Nw (.cells #[.int .i64 0,.int .i64 0,.int .i64 0,.int .i64 0,.int .i64 0] 95 (0,0)) w λm W=>dW (m.add 0) (.int .i64 G) W λv3=>dW (m.add 1) (.int .i64 E) v3 λX=>dW (m.add 2) (.int .i64 N) X λv5=>dW (m.add 3) (.int .i64 F) v5 λv6=>dW (m.add 4) (.int .i64 C) v6 λv7=>K m v7:=λ{w G E N F C K} hK=>
  nw (cs:=eU (0,0,0,0,0)) λW hz2 e2 b2=>b2.s1 (by simp[eU]) λv3 o3 b3=>b3.s1 (by simp[eU]) λX o4 b4=>b4.s1 (by simp[eU]) λv5 o5 b5=>b5.s1 (by simp[eU]) λv6 o6 b6=>b6.s1 (by simp[eU]) λv7 o7 d=>
   hK v7 (Ext.fresh e2 ((((o3.ext.trans o4.ext).trans o5.ext).trans o6.ext).trans o7.ext) λi (hi:i=w.size)=>O) d
 refine VQ p (cB rfl (CS p xi addr D JE (λb w Q hn=>?_) λk w Q M j=>?_))
 ·refine box λg B d=>bW.intro (cE rfl (cE rfl (hR 7 g (Q.trans B) (.inl ⟨rfl,.inl hn⟩))))
 ·refine box λg B d=>?_;have A:gS k.2:=(xi _ M).2;have h0:0<=addr:=by have:=j.1;have:=A.z;have:=A.base;omega
  have a:=Q.trans B;refine KE (λr u=>u=g/\r=decide (addr%8≠0)) (λr u ⟨hu,Z⟩=>?_) λJ hJ=>cB rfl (nz aB (hJ _ _ ⟨rfl,?_⟩))
  ·rw[hu];by_cases h8:addr%8≠0
   ·exact cE (by rw[Z];exact zJ h8) (hR 7 g a (.inl ⟨rfl,.inr h8⟩))
   ·refine cB (by rw[Z];exact zM h8) (d.rI rfl (d.rI rfl (d.rI rfl (d.rI rfl (d.rI rfl (UN (p.fr a) k.2 λV Y=>?_))))));have y:addr%8=0:=by omega
    refine cO (λS=>hR 5 V (a.trans Y) (.inr ⟨k,M,j,y,by rw[S];rfl⟩)) λS=>hR 0 V (a.trans Y) (.inr ⟨k,M,j,y,by rw[S];rfl⟩)
  ·rw[Qz h0];by_cases h8:addr%8=0
   ·rw[h8];decide
   ·rw[zJ h8];simpa using h8
theorem JH (p:GP σ0 U L H held s0 P gb km fm x)(xi:∀e∈x.kn,e.1=e.2.1/\gS e.2)(addr:Int)(ha:addr<=9223372036854775807){R:Int->Int->Hp->Prop}(h0:∀e w,e≠0->bK U w->tD H x addr e->R 0 e w)(h1:∀w,bK U w->tD H x addr 0->R (QY H.sp addr) (eP H.sp addr) w):YJ.c (aW gb) addr U R:=by
 refine YJ.o ?_;unfold YJ.v;refine Co p xi addr λe w d i=>cO (λa=>h0 e w (by simpa using a) d i) λg=>?_;have m:e=0:=by simpa using g
 subst m;have j:=p.fr d;exact aG (j.b.rP rfl (Fb j.h addr ha λr e2=>h1 r (d.trans e2) i))
theorem G8 (p:GP σ0 U L H held s0 P gb km fm x)(gc:Gc σ0)(xi:∀e∈x.kn,e.1=e.2.1/\gS e.2)(addr u:Int)(ha:addr<=9223372036854775807){R:aN}(h0:∀e w,e≠0->bK U w->tD H x addr e->R e w)
 (h1:∀w s0' P',tD H x addr 0->Ext P U w->GP σ0 w L {H with sp:=ZU H.sp addr u} held s0' P' gb km fm x->(∀c,P' c->P c\/U.size<=c)->R (eP H.sp addr) w):Xh.c (aW gb) addr u U R:=by
 refine Xh.o ?_;unfold Xh.v;refine Co p xi addr λe w a j=>cO (λd=>h0 e w (by simpa using d) a j) λi=>?_;have z:e=0:=by simpa using i
 subst z;have m:=p.fr a;have A:=a.1;exact aG (m.b.rP rfl (m.write gc addr u ha λr s2 P2 e2 s g=>h1 r s2 P2 j ((bK.to a).trans e2) s λc y=>(g c y).imp id λh=>O))
set_option maxRecDepth 16000 in
theorem RM (p:GP σ0 U L H held s0 P gb km fm x)(xi:∀e∈x.kn,e.1=e.2.1/\gS e.2)(addr:Int){R:Int->Int->Int->Int->Int->Hp->Prop}(h0:∀w,bK U w->(∀k∈x.kn,¬Dx addr k.2)->R 0 0 0 0 8 w)(h1:∀k w,bK U w->k∈x.kn->Dx addr k.2->R k.2.1 k.2.2.1 k.2.2.2.1 k.2.2.2.2.1 0 w):YG.c (aW gb) addr U R:=by
 refine YG.o ?_;unfold YG.v;have E:∀b,gS b->0<=b.2.1/\b.2.1<=100000:=λb bi=>by have:=bi.s;omega
 refine nw (cs:=[.int .i64 0,.int .i64 0,.int .i64 0,.int .i64 0]) λv hz e b4=>?_;have j:∀{w:Hp} {a b c d:Int} {K:Int->Int->Int->Int->Hp->Prop},bK U w->bY w U.size [.int .i64 0,.int .i64 0,.int .i64 0,.int .i64 0]->(∀g,bK U g->K a b c d g) →
  dW (Addr.add ⟨U.size,0,none⟩ 0) (.int .i64 a) w λv7=>dW (Addr.add ⟨U.size,0,none⟩ 1) (.int .i64 b) v7 λv8=>dW (Addr.add ⟨U.size,0,none⟩ 2) (.int .i64 c) v8 λv9=>dW (Addr.add ⟨U.size,0,none⟩ 3) (.int .i64 d) v9 λv10=>
  gp .i64 (Addr.add ⟨U.size,0,none⟩ 0) v10 λr0=>gp .i64 (Addr.add ⟨U.size,0,none⟩ 1) v10 λr1=>gp .i64 (Addr.add ⟨U.size,0,none⟩ 2) v10 λr2=>gp .i64 (Addr.add ⟨U.size,0,none⟩ 3) v10 λr3=>K r0 r1 r2 r3 v10:=λr W S=>
  W.s1 aA λv1 o1 b1=>b1.s1 aA λN o2 B=>B.s1 aA λv3 o3 F=>F.s1 aA λA o4 b4=>b4.rI rfl (b4.rI rfl (b4.rI rfl (b4.rI rfl (S A ((((r.only o1 (.inr (zD _))).only o2 (.inr (zD _))).only o3 (.inr (zD _))).only o4 (.inr (zD _)))))))
 have box:∀{w:Hp} {Q G V J D:Int} {K:Addr->Hp->Prop},(∀z,bK w z->bY z w.size (eU (Q,G,V,J,D))->K ⟨w.size,0,none⟩ z) →
  Nw (.cells #[.int .i64 0,.int .i64 0,.int .i64 0,.int .i64 0,.int .i64 0] 95 (0,0)) w λu N=>dW (u.add 0) (.int .i64 Q) N λv3=>dW (u.add 1) (.int .i64 G) v3 λA=>dW (u.add 2) (.int .i64 V) A λY=>dW (u.add 3) (.int .i64 J) Y λZ=>dW (u.add 4) (.int .i64 D) Z λv7=>K u v7:=λ{w Q G V J D K} S=>
  nw (cs:=eU (0,0,0,0,0)) λN hz2 e2 B=>B.s1 (by simp[eU]) λv3 o3 F=>F.s1 (by simp[eU]) λA o4 b4=>b4.s1 (by simp[eU]) λY o5 b5=>b5.s1 (by simp[eU]) λZ o6 b6=>b6.s1 (by simp[eU]) λv7 o7 m=>
   S v7 (Ext.fresh e2 ((((o3.ext.trans o4.ext).trans o5.ext).trans o6.ext).trans o7.ext) λi (hi:i=w.size)=>O) m
 have X:=p.fr e;refine VQ X (cB rfl (CS X xi addr E Pm (λb w r hn=>?_) λk w r hk C=>?_))
 ·refine box λz y m=>cE rfl (j (K:=λa b c d g=>R a b c d 8 g) ((e.trans r).trans y) ((r.trans y).bT b4 id) λg M=>h0 g M hn)
 ·refine box λz y m=>cB rfl (m.eY rfl (m.eY rfl (m.eY rfl (m.eY rfl ?_))));exact j (K:=λa b c d g=>R a b c d 0 g) ((e.trans r).trans y) ((r.trans y).bT b4 id) λg M=>h1 k g M hk C
end Go.Ar
namespace Go.Ar
open Go Go.Vc Go.Proofs
open Go.Vc (bV dB cT)
variable {size align:Int}{U σ0 v w w':Hp}{F P Q X T:Rg}{L:dM}{H H' H1:Hw}{held:List Pc}{s0 sp:Sp}{t n:Nat}{g:Th}{gb km fm m:Nat}{x y:Gu}{b:B5}
theorem iz.xj {n m:Nat}{H H1 H2:Hw}{t:Nat}{p:Ph}{a1 e1 a2 e2:Int}(h:iz n H t p H1 a1 e1)(h':iz m H t p H2 a2 e2):H1=H2/\a1=a2/\e1=e2:=by
 induction h generalizing m with
 | done h1 h2=>
  cases h' with
  | done=>exact⟨rfl,rfl,rfl⟩
  | next _ h3 _=>rw[h2]at h3;cases h3
 | next h1 h2 _ ih=>
  cases h' with
  | done _ h3=>rw[h2]at h3;cases h3
  | next _ h3 h4=>rw[h2]at h3;cases h3;exact ih h4
theorem V1.xj {thread kind size align addr a1 e1 a2 e2:Int}{H1 H2:Hw}(h:V1 H thread kind size align addr H1 a1 e1)(h':V1 H thread kind size align addr H2 a2 e2):H1=H2/\a1=a2/\e1=e2:=by
 rcases h with⟨h1,_,rfl,rfl⟩|⟨t,p,n,h1,h2⟩
 ·rcases h' with⟨g1,_,rfl,rfl⟩|⟨_,_,_,g1,_⟩
  ·rw[h1]at g1;cases g1;exact⟨rfl,rfl,rfl⟩
  ·rw[h1]at g1;cases g1
 ·rcases h' with⟨g1,_⟩|⟨_,_,_,g1,g2⟩
  ·rw[h1]at g1;cases g1
  ·rw[h1]at g1;cases g1;exact h2.xj g2
theorem OX:sA w0 64:=by
 have h:=DT (xs:=qi 8) (p:=64) (a:=1) (t:=1) (b:=1024) (r:=2) (HG 8 aB aB) aB;rw[wG]at h;exact h
theorem H9 {a:Option Addr}{thread addr:Int}{R:aN}(h:XQ.c a thread addr true U R):Xj.c a thread addr U R:=Xj.o (by unfold Xj.v;exact h)
theorem yH (H:Hw)(thread:Int):VZ H thread=if 0<=thread/\thread<(H.bQ.length:Int)then fG H thread.toNat else none:=by
 unfold VZ fG;split
 ·cases H.bQ[thread.toNat]?<;>rfl
 ·rfl
theorem Lj (o:fY H H')(thread:Int):Kb H' thread=Kb H thread:=by
 unfold Kb;rw[yH,yH,o.kp.2.1,o.kp.2.2.1,o.ph]
theorem OC {a b:Sl}{xs ys:List Int}{G:Rg}(ha:cU a 1 (Wo xs) U F)(hb:cU b 1 (Wo ys) U G)(hl:xs.length<=1000000000){R:aO}(hR:R (decide (xs=ys)) U):XH.c a b U R:=by
 refine XH.o ?_;unfold XH.v;have B:a.len=xs.length:=by have:=ha.1;simp[Wo]at this;omega
 have A:b.len=ys.length:=by have:=hb.1;simp[Wo]at this;omega
 rw[B,A,pR];refine cO (λw=>?_) λw=>?_
 ·have d:xs.length≠ys.length:=by simpa using w
  rw[zM λe=>d (by rw[e])]at hR;exact hR
 have K:xs.length=ys.length:=by simpa using w
 refine ZY (a:=bN) (λ(t:Int) v=>∃i:Nat,t=(i:Int)/\i<=xs.length/\v=U/\xs.take i=ys.take i) (λt _=>xs.length-t.toNat) ⟨0,rfl,O,rfl,rfl⟩ ?_;rintro t v ⟨i,rfl,J,rfl,g⟩;refine cQ (λE=>?_) λC=>?_
 ·have u:i<xs.length:=by omega
  have j:xs[i]?=some xs[i]:=cV u;have p:ys[i]?=some (ys[i]' O):=cV _;generalize xs[i]=x at j;generalize ys[i]' O=y at p;rw[←B,←A];refine ha.mY j (hb.mY p (cO (λd=>?_) λr=>?_))
  ·have H:x≠y:=by simpa using d
   rw[zM]at hR
   ·exact hR
   ·intro e;rw[e,p]at j;exact H (Option.some.inj j).symm
  ·have s:x=y:=by simpa using r
   refine cP (m:=i+1) O O ⟨⟨i+1,rfl,O,rfl,?_⟩,O⟩;rw[k7,k7,g,j,p,s]
 ·have D:i=xs.length:=by omega
  have:xs=ys:=by
   have z:=g;rw[mT O,mT O]at z;exact z
  rw[zJ this]at hR;exact hR
def gm:Hw×Int×Int:=(xg w0 0 0 56 16 0).getD (w0,0,99)
theorem yE:gm.2=(4096,0):=by decide +kernel
theorem wR:V1 w0 0 0 56 16 0 gm.1 4096 0:=by
 have a:=yE;unfold gm at *;cases hw:xg w0 0 0 56 16 0 with
 | none=>rw[hw]at a;exact absurd (congrArg Prod.snd a) aB
 | some r=>
  rw[hw]at a;have:=Rk hw;have e1:r.2=(4096,0):=a;rw[e1]at this;exact this
def gB:B5:=(4112,24,4096,64,1)
theorem AD:Kg gm.1 4096=some 64:=by decide +kernel
def gX:Gu:=nC.fP gB
def pN:Hw:={gm.1 with sp:=lT gm.1.sp gB}
def ox:Hw:={pN with sp:=ZU pN.sp 4136 5}
def qI:Hw:={ox with sp:=ZU ox.sp 4136 (-4137)}
def uF:Hw:={qI with sp:=ZU qI.sp 4128 7}
theorem NN:eP pN.sp 4136=0:=by decide +kernel
theorem vX:vM ox gX 4112=0/\vG ox gX 4112=[4136]/\mB ox gX 0 4112 true=10/\eP ox.sp 4136=0:=by decide +kernel
theorem AP:eP qI.sp 4128=0/\Ut qI gB=false:=by decide +kernel
theorem C8:mB uF gX 0 4112 true=0/\Kb (iy uF gB) 0=0:=by decide +kernel
theorem yD:gX.kn=[(4112,gB)]:=rfl
theorem oh:∀e∈gX.kn,e.1=e.2.1/\gS e.2:=λe a=>by
 rw[yD,zN]at a;subst a;exact⟨rfl,⟨by decide,by decide⟩,⟨by decide,by decide⟩,⟨by decide,by decide,by decide⟩,⟨by decide,by decide⟩,by decide⟩
theorem P4:mB H (gX.gone 4112) 0 4112 true=if Kb H 0≠0 then Kb H 0 else 9:=by
 unfold mB;split
 ·rfl
 ·rfl
attribute [local irreducible] w0 gm pN ox qI uF
theorem Jt:pN = {gm.1 with sp:=lT gm.1.sp gB}:=by unfold pN;rfl
theorem Lh:ox = {pN with sp:=ZU pN.sp 4136 5}:=by unfold ox;rfl
theorem JQ:qI = {ox with sp:=ZU ox.sp 4136 (-4137)}:=by unfold qI;rfl
theorem De:uF = {qI with sp:=ZU qI.sp 4128 7}:=by unfold uF;rfl
set_option maxRecDepth 8000 in
theorem Dc (gl:Gl U)(gc:Gc U){R:aO}(hR:∀σ',bK U σ'->R true σ'):W8.c U R:=by
 refine W8.o ?_;unfold W8.v;refine MQ gl gc.gd λv L N e hsN hNv h0=>cB rfl ?_;have S:=OX;have hc0:w0.cf.aF=64:=by have:=S.pg;omega
 refine EH e h0.cut S.hi S.cf O (λb D=>⟨by have:N<=b:=D.1;omega,D.2⟩) (An gl gc.gd) λw gb km fm e1 _ p=>?_;refine bW.intro (cB rfl (cB rfl ?_));refine Ce p gc ⟨by decide,by decide⟩ 0 24 8 (λw E=>absurd E aB) (λe w ts H' g x P' _ d i=>?_) λb w2 ts H1 r s1 P1 B i o e2 Y hP2=>?_
 ·have:=i.xj wR;exact absurd this.2.2 d
 obtain⟨rfl,y,_⟩:=i.xj wR;have D:b=gB:=by
  have hu:=B.u;rw[y,AD]at hu;have h1:=B.a;rw[y]at h1;have h2:b.2.2.2.1=64:=(Option.some.inj hu).symm;exact Prod.ext (h1.trans aB) (Prod.ext B.s (Prod.ext y (Prod.ext h2 B.n)))
 subst D;have Y:GP U w2 {L with ts:=ts} pN r s1 P1 gb km fm gX:=by rw[Jt];exact Y
 refine bW.intro (cB aB (bW.intro (cB aB ?_)));refine Y.write gc 4136 5 aB λw3 s3 P3 e3 G _=>?_;rw[NN];rw[←Lh]at G;refine cB aB ?_;refine G2 G oh 4112 λsl w4 Q e4 hs hQ=>?_;rw[vX.1];rw[vX.2.1]at hs;have p4:=G.fr e4;refine bW.intro (cB aB (nw (cs:=[.int .i64 4136]) λw5 hz5 e5 b5=>?_));have p5:=p4.fr e5;have V:=aI.bO hs e5;have M:cU ⟨some ⟨w4.size,0,none⟩,1,1⟩ 1 (Wo [4136]) w5 (· = w4.size):=b5.gZ rfl rfl λj hj=>by rw[zH];rfl
 refine OC (bR.gZ V) M aA ?_;refine bW.intro ?_;refine cB (show(!decide (([4136]:List Int)=[4136]))=false by decide) ?_;refine H9 ?_;refine Gx p5 gc oh 0 4112 true (λw6 d e6=>?_) λb w6 ts H1 g x P' e _ h=>by rw[vX.2.2.1]at h;exact absurd h aB
 rw[vX.2.2.1];have p6:=p5.fr e6;refine bW.intro (cB aB ?_);refine p6.write gc 4136 (-4137) aB λw7 s7 P7 e7 p7 _=>?_;rw[vX.2.2.2];rw[←JQ]at p7;refine cB aB ?_;have X:uI 4128 gB:=⟨by decide,by decide⟩;have m:¬uI 4136 gB:=λh=>absurd h.2 aB;have wd:∀{H:Hw} {a e:Int},Ut H gB=false->tD H gX a e->(uI a gB/\a%8=0->e=0)/\(¬uI a gB->e=7):=λhl i=>by
  rcases i with⟨rfl,h⟩|⟨k,E,hi,h8,rfl⟩
  ·refine⟨λh'=>?_,λ_=>rfl⟩;rcases h with h|h
   ·exact absurd h'.1 (h (4112,gB) (by rw[yD];exact zN.2 rfl))
   ·exact absurd h'.2 h
  ·rw[yD,zN]at E;subst E;simp only[hl];exact⟨λ_=>rfl,λh=>absurd hi h⟩
 refine G8 p7 gc oh 4128 7 aB (λe w d _ i=>absurd ((wd AP.2 i).1 ⟨X,by decide⟩) d) λw8 s8 P8 _ e8 J _=>?_;rw[AP.1];rw[←De]at J;have z:Ut uF gB=false:=by rw[De];exact AP.2
 refine G8 J gc oh 4136 7 aB (λe w9 d e9 i=>?_) λw s P i=>absurd ((wd z i).2 m) aB;have C:=(wd z i).2 m;subst C;have p9:=J.fr e9;refine bW.intro (cE rfl (bW.intro (cE rfl ?_)));refine H9 ?_;refine Gx p9 gc oh 0 4112 true (λw d=>absurd C8.1 d) λb w10 ts H1 g x P' e K _ i o fe e10 A hP10=>?_;have F:b=gB:=by
  have:bV gX.kn 4112=some gB:=rfl;rw[this]at K;exact(Option.some.inj K).symm
 subst F;refine bW.intro (cE rfl ?_);have xi:∀e∈(gX.gone 4112).kn,e.1=e.2.1/\gS e.2:=λe C=>by
  rw[show(gX.gone 4112).kn=[]from rfl]at C;simp at C
 have h9:mB H1 (gX.gone 4112) 0 4112 true=9:=by
  rw[P4,Lj o,C8.2];rfl
 refine H9 ?_;refine Gx A gc xi 0 4112 true (λZ d W=>?_) λb w ts H1 g x P' e K h=>by rw[h9]at h;exact absurd h aB
 rw[h9];exact hR Z (A.fr W).e
end Go.Ar
namespace Go.Ar
open Go.Vc (bV dB cT)
variable {size align thread addr:Int}{H H' H1:Hw}{held held1:List Pc}{s0 s1 sp:Sp}{x y:Gu}{b:B5}
theorem Ek {α:Type}{l:List (Int×α)}{n:Int}(h:bV l n=none)(v:α):dB l n v=l++[(n,v)]:=by
 unfold dB;rw[zB];intro hx;obtain⟨y,a,e⟩:=kb.1 hx;unfold bV at h;rw[qO,nR]at h;exact h y a e
theorem yN {α:Type}{l:List (Int×α)}{n:Int}:bV l n=none↔∀e∈l,e.1≠n:=by
 unfold bV;rw[qO,nR];simp only[zT]
theorem V6 {α β:Type}{f:α->β}:∀{l:List α},(l.map f).Nodup->∀{a b:α},a∈l->b∈l->f a=f b->a=b
 | [],_,_,_,h,_,_=>by simp at h
 | z::l,hn,a,b,ha,hb,e=>by
  simp only[zS,zr]at hn;rcases zW.1 ha with h1|h1
  ·rcases zW.1 hb with h2|h2
   ·rw[h1,h2]
   ·exact absurd (zE.2 ⟨b,h2,by rw[←e,h1]⟩) hn.1
  ·rcases zW.1 hb with h2|h2
   ·exact absurd (zE.2 ⟨a,h1,by rw[e,h2]⟩) hn.1
   ·exact V6 hn.2 h1 h2 e
theorem G7 (h:HI H held s0){e:Int×Bk}(he:e∈H.live){w:Nat}(h1:e.1<=((8*w:Nat):Int))(h2:((8*w:Nat):Int)<e.1+e.2.2.1):gf H.sp.st (w/32)≠0:=by
 obtain⟨_,p,a,_,_,b,d,_⟩:=h.lv e he;have:=h.mapped a (x:=8*w) O O
 rwa [show 8*w/256=w/32 by omega]at this
structure eT (H:Hw) (x:Gu):Prop where
 live:H.live.map (λe=>(e.1,e.2.2.1))=x.kn.map (λe=>(e.2.2.2.1,e.2.2.2.2.1))
 can:∀e∈x.kn,∀z∈Y9 e.2,QY H.sp z=jC z
 ph:∀j,fG H j=none
 i:∀e∈x.kn,e.1=e.2.1/\gS e.2
 nd:(x.kn.map (·.1)).Nodup
theorem Ey (hi:HI H held s0){e e':Int×Bk}(he:e∈H.live)(he':e'∈H.live){z:Int}(h1:e.1<=z)(h2:z<e.1+e.2.2.1)(h3:e'.1<=z)(h4:z<e'.1+e'.2.2.1):e=e':=by
 obtain⟨_,p,a,_,_,g,i,_⟩:=hi.lv e he;obtain⟨_,q,d,_,_,b,j,_⟩:=hi.lv e' he';have:p=q:=hi.apart a d (x:=z.toNat) O O O O;subst this;exact V6 hi.lk he he' (by rw[←g,←b])
theorem eT.of (g:eT H x){e:Int×B5}(he:e∈x.kn):∃l∈H.live,l.1=e.2.2.2.1/\l.2.2.1=e.2.2.2.2.1:=by
 have:(e.2.2.2.1,e.2.2.2.2.1)∈H.live.map (λe=>(e.1,e.2.2.1)):=by rw[g.live];exact zE.2 ⟨e,he,rfl⟩
 obtain⟨l,a,h⟩:=zE.1 this;simp only[Prod.mk.injEq]at h;exact⟨l,a,h.1,h.2⟩
theorem eT.rp (g:eT H x)(hi:HI H held s0):(x.kn.map λe=>e.2.2.2.1).Nodup:=by
 have a:=congrArg (List.map Prod.fst) g.live;rw[k6,k6]at a;have b:(x.kn.map λe=>e.2.2.2.1)=H.live.map (·.1):=a.symm;rw[b];exact hi.lk
theorem eT.apart (g:eT H x)(hi:HI H held s0){e e':Int×B5}(he:e∈x.kn)(he':e'∈x.kn){z:Int}(h1:e.2.2.2.1<=z)(h2:z<e.2.2.2.1+e.2.2.2.2.1)(h3:e'.2.2.2.1<=z)(h4:z<e'.2.2.2.1+e'.2.2.2.2.1):e=e':=by
 obtain⟨l,d,i,j⟩:=g.of he;obtain⟨m,a,b,p⟩:=g.of he';have:=Ey hi d a (z:=z) O O O O;subst this;exact V6 (g.rp hi) he he' (by rw[←i,←b])
theorem eT.usable (g:eT H x)(hi:HI H held s0){e:Int×B5}(he:e∈x.kn):Kg H e.2.2.2.1=some e.2.2.2.2.1:=by
 obtain⟨l,b,d,a⟩:=g.of he;unfold Kg;rw[←d,Qf hi.lk (show(l.1,l.2)∈H.live from b)];exact congrArg some a
theorem eT.lost (g:eT H x)(hi:HI H held s0){e:Int×B5}(he:e∈x.kn):Ut H e.2=false:=by
 unfold Ut;rw[g.usable hi he];simp
theorem eT.map (g:eT H x)(hi:HI H held s0){e:Int×B5}(he:e∈x.kn){w:Nat}(h1:e.2.2.2.1<=((8*w:Nat):Int))(h2:((8*w:Nat):Int)<e.2.2.2.1+e.2.2.2.2.1):gf H.sp.st (w/32)≠0:=by
 obtain⟨l,a,d,b⟩:=g.of he;exact G7 hi a O O
theorem gS.word (bi:gS b){z:Int}(h:z∈Y9 b\/z∈Qx b):(∃w:Nat,z=((8*w:Nat):Int))/\b.2.2.1<=z/\z<b.2.2.1+b.2.2.2.1:=by
 have e:=bi.base;have a:=bi.z;have d:=bi.t;rcases h with h|h
 ·have:=U6 bi h;exact⟨⟨z.toNat/8,O⟩,O,O⟩
 ·have:=BD bi h;exact⟨⟨z.toNat/8,O⟩,O,O⟩
theorem gS.nw (bi:gS b){z:Int}(h:z∈Y9 b):z∉Qx b:=λa=>by
 have e:=U6 bi h;have d:=BD bi a;omega
theorem eT.acc (g:eT H x)(hi:HI H held s0){e:Int×B5}(he:e∈x.kn){z:Int}(h:z∈Y9 e.2\/z∈Qx e.2):eP H.sp z=0:=by
 obtain⟨⟨w,rfl⟩,a,b⟩:=(g.i e he).2.word h;exact Uk.2 (g.map hi he a b)
theorem eT.broken (g:eT H x)(hi:HI H held s0){e:Int×B5}(he:e∈x.kn):Kh H.sp e.2=[]:=by
 unfold Kh;rw[List.filter_eq_nil_iff];intro z hz;unfold jX;rw[g.acc hi he (.inl hz),g.can e he z hz];simp
theorem eT.cF (g:eT H x)(hi:HI H held s0):pC H x=[]:=by
 unfold pC;rw[List.flatMap_eq_nil_iff];intro e he;unfold oW;rw[g.lost hi he,g.broken hi he];rfl
theorem eT.kA (bi:gS b){z:Int}(h1:b.1<=z)(h2:z<b.1+ZB b.2.1)(h8:z%8=0):z∈Qx b:=by
 have:=bi.z;have a:=Qe (n:=b.2.1) (by have:=bi.s;omega);refine zE.2 ⟨((z-b.1)/8).toNat,zg.2 ?_,O⟩;unfold tu;omega
theorem A7 (hi:HI H held s0)(ks:KS H.sp sp){l:Int×Bk}(hl:l∈H.live){w:Nat}(h1:l.1<=((8*w:Nat):Int))(h2:((8*w:Nat):Int)<l.1+l.2.2.1):QY sp ((8*w:Nat):Int)=QY H.sp ((8*w:Nat):Int)/\gf sp.st (w/32)≠0:=by
 have a:=G7 hi hl h1 h2;have:=ks.k _ a;rw[Gh,Gh,zC a,zC this.1,this.2 w rfl];exact⟨rfl,this.1⟩
def Kept (H:Hw)(x:Gu)(H':Hw)(x':Gu)(e:Int×B5):Prop:=e∈x'.kn/\∀z∈Qx e.2,QY H'.sp z=QY H.sp z
theorem Jg (bi:gS b):∀z∈Y9 b,0<=z/\z%8=0:=λz a=>by
 have:=U6 bi a;have:=bi.base;omega
theorem CT (bi:gS b):∀z∈Qx b,0<=z/\z%8=0:=λz a=>by
 have:=BD bi a;have:=bi.base;have:=bi.z;omega
theorem eT.fP (g:eT H x)(hi:HI H held s0)(gr:xC H x size align b H1)(o:fY H H1)(hi1:HI H1 held1 s1) :
 eT {H1 with sp:=lT H1.sp b} (x.fP b)/\(x.fP b).kn=x.kn++[(b.1,b)]/\(∀e∈x.kn,Kept H x {H1 with sp:=lT H1.sp b} (x.fP b) e)/\(∀z∈Qx b,QY (lT H1.sp b) z=0)/\eP (lT H1.sp b) b.1=0:=by
 have bi:=gr.bi;obtain⟨C,cl,y,_⟩:bV H.live b.2.2.1=none/\∃cl,H1.live=dB H.live b.2.2.1 (b.2.2.1,(GC H.tb (zA align+ZB size+16) (zA align)).1,cl,XO H1.bX b.2.2.1)/\True:=by
  rcases gr.me with⟨h,_⟩|⟨_,E,_,cl,F,_⟩
  ·exact absurd rfl h
  ·exact⟨E,cl,F,trivial⟩
 have V:=gr.u;unfold Kg at V;rw[y,Ag]at V;have N:(GC H.tb (zA align+ZB size+16) (zA align)).1=b.2.2.2.1:=Option.some.inj V;rw[N]at y;rw[Ek C]at y;have R:∃l∈H1.live,l.1=b.2.2.1/\l.2.2.1=b.2.2.2.1:=⟨(b.2.2.1,(b.2.2.1,b.2.2.2.1,cl,XO H1.bX b.2.2.1)),by rw[y];simp,rfl,rfl⟩;obtain⟨ln,M,U,ln2⟩:=R;have L:∀l∈H.live,l∈H1.live:=λl K=>by rw[y];exact kv _ K
 have J:∀e∈x.kn,∀z,e.2.2.2.1<=z->z<e.2.2.2.1+e.2.2.2.2.1->b.2.2.1<=z->z<b.2.2.1+b.2.2.2.1->False:=λe d z E F h3 h4=>by
  obtain⟨l,K,a1,a2⟩:=g.of d;have:=Ey hi1 (L l K) M (z:=z) O O O O;subst this;have:=yN.1 C l K;exact this U
 have hb1:=bi.base;have hb2:=bi.z;have hb3:=bi.t;have hww:=Qe (n:=b.2.1) (by have:=bi.s;omega);have Q:bV x.kn b.1=none:=yN.2 λe d h=>by
  have r:=(g.i e d);have q0:=r.1;have q4:=r.2.s;have hbs:=bi.s;have q1:=r.2.base;have q2:=r.2.z;have q3:=r.2.t;have qw:=Qe (n:=e.2.2.1) (by have:=r.2.s;omega);exact J e d b.1 O O O O
 have A:(x.fP b).kn=x.kn++[(b.1,b)]:=Ek Q b;have p:∀z,(z∈Y9 b\/z∈Qx b)->∃w:Nat,z=((8*w:Nat):Int)/\gf H1.sp.st (w/32)≠0:=λz m=>by
  obtain⟨⟨w,rfl⟩,E,F⟩:=bi.word m;exact⟨w,rfl,G7 hi1 M O O⟩
 have G:=Jg bi;have D:=CT bi;obtain⟨_,Y,_⟩:=xX jC (Y9 b) H1.sp G;have P:∀w:Nat,((8*w:Nat):Int)∉Y9 b->((8*w:Nat):Int)∉Qx b->QY (lT H1.sp b) ((8*w:Nat):Int)=QY H1.sp ((8*w:Nat):Int):=λw E F=>by
  unfold lT;rw[KQ D,zB λh=>F h.1,KQ G,zB λh=>E h.1]
 have B:∀e∈x.kn,∀z,(z∈Y9 e.2\/z∈Qx e.2)->QY (lT H1.sp b) z=QY H.sp z:=λe d z m=>by
  obtain⟨l,K,a1,a2⟩:=g.of d;obtain⟨⟨w,rfl⟩,E,F⟩:=(g.i e d).2.word m;have:=A7 (H:=H) hi o.ks K (w:=w) O O;rw[P w (λm=>by have:=bi.word (.inl m);exact J e d _ E F this.2.1 this.2.2) (λm=>by have:=bi.word (.inr m);exact J e d _ E F this.2.1 this.2.2)];exact this.1
 refine⟨⟨?_,λe d z m=>?_,λj=>(o.ph j).trans (g.ph j),λe d=>?_,?_⟩,A,λe d=>⟨by rw[A];exact kv _ d,λz m=>B e d z (.inr m)⟩,λz m=>?_,?_⟩
 ·show H1.live.map _=_;rw[y,A,jY,jY,g.live];rfl
 ·show QY (lT H1.sp b) z=jC z;rw[A]at d;rcases zK.1 d with d|d
  ·rw[B e d z (.inl m)];exact g.can e d z m
  ·rw[zN]at d;subst d;obtain⟨w,rfl,S⟩:=p z (.inl m);unfold lT;rw[KQ D,zB λh=>bi.nw m h.1,KQ G,zC ⟨m,S⟩]
 ·rw[A]at d;rcases zK.1 d with d|d
  ·exact g.i e d
  ·rw[zN]at d;subst d;exact⟨rfl,bi⟩
 ·rw[A,jY,nK];refine⟨g.nd,by simp,λa Z c X=>?_⟩;simp only[zS,qs,zN]at X;subst X;obtain⟨e,d,rfl⟩:=zE.1 Z;exact yN.1 Q e d
 ·obtain⟨w,rfl,S⟩:=p z (.inr m);unfold lT;rw[KQ D,zC ⟨m,λh=>S ((Y _).1 h)⟩]
 ·have W:b.1∈Qx b:=eT.kA bi (vS _) (by have:=bi.s;omega) bi.z.2.2;obtain⟨w,hw,S⟩:=p b.1 (.inr W);obtain⟨_,k2,_⟩:=xX (λ_=>0) (Qx b) (j6 H1.sp (Y9 b) jC) D;rw[hw];unfold lT;exact Uk.2 λh=>S ((Y _).1 ((k2 _).1 h))
theorem eT.same (g:eT H x)(hi:HI H held s0)(o:fY H H')(hl:H'.live=H.live):eT H' x/\∀e∈x.kn,Kept H x H' x e:=by
 have a:∀e∈x.kn,∀z,(z∈Y9 e.2\/z∈Qx e.2)->QY H'.sp z=QY H.sp z:=λe b z d=>by
  obtain⟨l,hl,s,m⟩:=g.of b;obtain⟨⟨w,rfl⟩,p,r⟩:=(g.i e b).2.word d;exact(A7 (H:=H) hi o.ks hl (w:=w) O O).1
 exact⟨⟨by rw[hl];exact g.live,λe b z d=>by rw[a e b z (.inl d)];exact g.can e b z d,λj=>(o.ph j).trans (g.ph j),g.i,g.nd⟩,λe b=>⟨b,λz d=>a e b z (.inr d)⟩⟩
theorem eT.write (g:eT H x)(hi:HI H held s0){k:Int×B5}(hk:k∈x.kn){z v:Int}(hz:z∈Qx k.2):eT {H with sp:=ZU H.sp z v} x/\(∀e∈x.kn,e≠k->Kept H x {H with sp:=ZU H.sp z v} x e)/\(∀u∈Qx k.2,QY (ZU H.sp z v) u=if u=z then v else QY H.sp u):=by
 obtain⟨⟨b,rfl⟩,y,C⟩:=(g.i k hk).2.word (.inr hz);have r:=g.map hi hk y C;have m:∀w:Nat,QY (ZU H.sp ((8*b:Nat):Int) v) ((8*w:Nat):Int)=if w=b/\gf H.sp.st (w/32)≠0 then v else QY H.sp ((8*w:Nat):Int):=λw=>by
  have:=KQ (f:=λ_=>v) (l:=[((8*b:Nat):Int)]) (sp:=H.sp) (λz hz=>by rw[zN]at hz;subst hz;omega) w;have e:j6 H.sp [((8*b:Nat):Int)] (λ_=>v)=ZU H.sp ((8*b:Nat):Int) v:=rfl;rw[e]at this;rw[this];by_cases hw:w=b
  ·subst hw;by_cases hm:gf H.sp.st (w/32)≠0
   ·rw[zC ⟨zN.2 rfl,hm⟩,zC ⟨rfl,hm⟩]
   ·rw[zB λh=>hm h.2,zB λh=>hm h.2]
  ·rw[zB λh=>hw (by have:=zN.1 h.1;omega),zB λh=>hw h.1]
 have j:∀e∈x.kn,∀u,(u∈Y9 e.2\/u∈Qx e.2)->(e=k->u∈Y9 e.2)->QY (ZU H.sp ((8*b:Nat):Int) v) u=QY H.sp u:=λe a u d s=>by
  obtain⟨⟨w,rfl⟩,A,B⟩:=(g.i e a).2.word d;rw[m,zB];rintro⟨rfl,_⟩;have:=g.apart hi a hk A B y C;subst this;exact(g.i e a).2.nw (s rfl) hz
 refine⟨⟨g.live,λe a u d=>?_,g.ph,g.i,g.nd⟩,λe a p=>⟨a,λu d=>j e a u (.inr d) λh=>absurd h p⟩,λu d=>?_⟩
 ·show QY (ZU H.sp ((8*b:Nat):Int) v) u=jC u;rw[j e a u (.inl d) λ_=>d];exact g.can e a u d
 ·obtain⟨⟨w,rfl⟩,A,B⟩:=(g.i k hk).2.word (.inr d);rw[m];by_cases hw:w=b
  ·subst hw;rw[zC ⟨rfl,r⟩,zC rfl]
  ·rw[zB λh=>hw h.1,zB λh=>hw O]
theorem eT.free (g:eT H x)(hi:HI H held s0){b:B5}(hk:bV x.kn addr=some b){e:Int}(hw:V1 (iy H b) thread 1 0 0 b.2.2.1 H1 0 e)(o:fY (iy H b) H1)(fe:ot (iy H b) thread b.2.2.1 H1 e)(hrd:Kb H thread=0)(hcf:H.cf.threads=H.bQ.length) :
 eT H1 (x.gone addr)/\∀k∈x.kn,k.1≠addr->Kept H x H1 (x.gone addr) k:=by
 have a:(addr,b)∈x.kn:=Vh hk;have B:=g.i _ a;have N:addr=b.1:=B.1;have L:gS b:=B.2;obtain⟨l,S,K,Q⟩:=g.of a;simp only at K Q;have J:(iy H b).live=H.live:=rfl;have G:bV H.live b.2.2.1=some l.2:=by rw[←K];exact Qf hi.lk (show(l.1,l.2)∈H.live from S)
 have u:H1.live=cT H.live b.2.2.1:=by
  rcases fe with⟨_,_,h⟩|⟨_,h,_⟩|⟨_,_,_,_,h⟩
  ·exfalso;unfold Kb at hrd;rw[yH]at hrd;split at hrd
   ·cases hrd
   ·rename_i hth;have p:=g.ph thread.toNat;unfold Kc at h;have C:thread.toNat<H.bQ.length:=by omega
    rw[zC (show 0<=thread/\thread<((iy H b).bQ.length:Int)from⟨O,by show thread<(H.bQ.length:Int);omega⟩)]at h;have R:(iy H b).bQ[thread.toNat]?=some H.bQ[thread.toNat]:=cV C;rw[R]at h;simp only at h;unfold fG at p;rw[cV C]at p;rw[zC (show H.bQ[thread.toNat].ph=none from p)]at h;unfold iH at h;rw[zB aB,zC rfl]at h;cases h
  ·rw[J,G]at h;cases h
  ·exact h
 have F:=CT L;have r:∃s1,HI (iy H b) held s1:=HI.j6 _ _ hi;obtain⟨s1,r⟩:=r;have d:∀k∈x.kn,k.1≠addr->∀z,(z∈Y9 k.2\/z∈Qx k.2)->QY H1.sp z=QY H.sp z:=λk hk m z A=>by
  obtain⟨U,E,V,W⟩:=g.of hk;obtain⟨⟨w,rfl⟩,M,P⟩:=(g.i k hk).2.word A;rw[(A7 r o.ks (l:=U) E (w:=w) O O).1];show QY (j6 H.sp (Qx b) λ_=>Dm) _=_;rw[KQ F,zB];rintro⟨hw,_⟩;have D:=L.word (.inr hw);have:=g.apart hi hk a M P D.2.1 D.2.2;subst this;exact m rfl
 have s:∀k,k∈(x.gone addr).kn↔k∈x.kn/\k.1≠addr:=λk=>by
  show k∈cT x.kn addr↔_;unfold cT;rw[zI];simp
 refine⟨⟨?_,λk hk z A=>?_,λj=>(o.ph j).trans (g.ph j),λk hk=>g.i k ((s k).1 hk).1,?_⟩,λk hk m=>⟨(s k).2 ⟨hk,m⟩,λz A=>d k hk m z (.inr A)⟩⟩
 ·rw[u];show(cT H.live b.2.2.1).map _=(cT x.kn addr).map _;unfold cT;have e1:(H.live.filter λy=>!(y.1==b.2.2.1)).map (λe=>(e.1,e.2.2.1))=(H.live.map λe=>(e.1,e.2.2.1)).filter λq=>!(q.1==b.2.2.1):=by rw[vd];rfl
  rw[e1,g.live,vd]
  congr 1
  apply vI;intro k hk;simp only[Function.comp]
  congr 1
  rw[lQ,zT,zT];constructor
  ·intro h;have:=V6 (g.rp hi) hk a h;rw[this]
  ·intro h;have:=V6 g.nd hk a h;rw[this]
 ·have:=(s k).1 hk;rw[d k this.1 this.2 z (.inl A)];exact g.can k this.1 z A
 ·show((cT x.kn addr).map _).Nodup;exact g.nd.sublist (List.filter_sublist.map _)
end Go.Ar
namespace Go.Ar
open Go Go.Vc Go.Proofs
open Go.Vc (bV dB cT)
variable {size align:Int}{U σ0 v w w':Hp}{F P Q X T:Rg}{L:dM}{H H' H1:Hw}{held:List Pc}{s0 sp:Sp}{t n:Nat}{g:Th}{gb km fm m xb:Nat}{x y:Gu}{b:B5}
def wb (gb:Nat)(addrs ls:Sl):List Value:=[.pointer (some ⟨gb,0,none⟩),.slice addrs.a addrs.len addrs.cap,.slice ls.a ls.len ls.cap]
def qB (P:Rg)(gb km fm xb:Nat)(Qa Ql:Rg):Rg:=λb=>Mg P gb km fm b\/b=xb\/Qa b\/Ql b
structure kQ (σ0 U:Hp) (xb:Nat) (L:dM) (H:Hw) (held:List Pc) (s0:Sp) (P:Rg) (gb km fm:Nat) (x:Gu) (Qa Ql:Rg) (addrs:Sl) (ad:List Int) (ls:Sl) (la:List T3):Prop where
 p:GP σ0 U L H held s0 P gb km fm x
 b:bY U xb (wb gb addrs ls)
 ra:bR addrs 1 (Wo ad) U Qa
 rl:bR ls 3 (j7 la) U Ql
 wx:σ0.size<=xb/\¬Mg P gb km fm xb/\¬Qa xb/\¬Ql xb
 qa:∀b,Qa b->σ0.size<=b/\b<U.size/\¬Mg P gb km fm b
 ql:∀b,Ql b->σ0.size<=b/\b<U.size/\¬Mg P gb km fm b
 qq:∀b,Qa b->¬Ql b
variable {Qa Ql:Rg}{addrs ls:Sl}{ad:List Int}{la:List T3}
theorem kQ.fr (o:kQ σ0 U xb L H held s0 P gb km fm x Qa Ql addrs ad ls la)(e:bK U w):kQ σ0 w xb L H held s0 P gb km fm x Qa Ql addrs ad ls la:=
 ⟨o.p.fr e,e.bT o.b id,aI.bO o.ra e,aI.bO o.rl e,o.wx,λb a=>by have h:=o.qa b a;have:=e.1;exact⟨h.1,O,h.2.2⟩,λb a=>by have h:=o.ql b a;have:=e.1;exact⟨h.1,O,h.2.2⟩,o.qq⟩
theorem uR {P':Rg}(hg:gb<n/\km<n/\fm<n)(hP:∀b,P' b->P b\/n<=b):∀b,Mg P' gb km fm b->Mg P gb km fm b\/n<=b:=by
 rintro b (h|h)
 ·exact(hP b h).imp .inl id
 ·exact .inl (.inr h)
theorem kQ.fB (o:kQ σ0 U xb L H held s0 P gb km fm x Qa Ql addrs ad ls la){L':dM}{held':List Pc}{s0':Sp}{P':Rg}(e:Ext (Mg P gb km fm) U w)(p':GP σ0 w L' H' held' s0' P' gb km fm y)(hP:∀b,P' b->P b\/U.size<=b) :
 kQ σ0 w xb L' H' held' s0' P' gb km fm y Qa Ql addrs ad ls la:=by
 have C:=e.1;have i:=o.b.lt;obtain⟨A,r,z,s⟩:=o.wx;have a:∀b,b<U.size->¬Mg P gb km fm b->¬Mg P' gb km fm b:=λb D B u=>by
  rcases uR ⟨o.p.b.lt,o.p.m.lt,o.p.f.lt⟩ hP b u with h4|h4
  ·exact B h4
  ·omega
 exact⟨p',e.bT o.b r,aI.bS o.ra e λb _ g j=>(o.qa b g).2.2 j,aI.bS o.rl e λb _ g j=>(o.ql b g).2.2 j,⟨A,a _ i r,z,s⟩,λb d=>by have h:=o.qa b d;exact⟨h.1,O,a b h.2.1 h.2.2⟩,λb d=>by have h:=o.ql b d;exact⟨h.1,O,a b h.2.1 h.2.2⟩,o.qq⟩
theorem Gj {c:Nat}(h:¬Mg P gb km fm c):¬P c/\c≠gb/\c≠km/\c≠fm:=⟨λa=>h (.inl a),λe=>h (.inr (.inl e)),λe=>h (.inr (.inr (.inl e))),λe=>h (.inr (.inr (.inr e)))⟩
theorem xT (p:GP σ0 U L H held s0 P gb km fm x){c:Nat}(h:Mg P gb km fm c):c<U.size:=by
 rcases h with h|rfl|rfl|rfl
 ·exact(p.pP c h).2
 ·exact p.b.lt
 ·exact p.m.lt
 ·exact p.f.lt
theorem kQ.cC (o:kQ σ0 U xb L H held s0 P gb km fm x Qa Ql addrs ad ls la){s':Sl}{ad':List Int}(e:Ext Qa U w)(hr:bR s' 1 (Wo ad') w λb=>Qa b\/U.size<=b/\b<w.size){K:aP}
 (hK:∀u,Ext (· = xb) w u->kQ σ0 u xb L H held s0 P gb km fm x (λb=>Qa b\/U.size<=b/\b<w.size) Ql s' ad' ls la->K u):dW (Addr.add ⟨xb,0,none⟩ 1) (.slice s'.a s'.len s'.cap) w K:=by
 have J:=e.1;have G:=o.b.lt;obtain⟨y,B,s,A⟩:=o.wx;have D:=o.p.out e λb _ d=>by have h:=o.qa b d;have i:=Gj h.2.2;exact⟨i.1,i.2.1,i.2.2.1,i.2.2.2,h.1⟩
 have r:=aI.bS o.rl e λb _ j E=>o.qq b E j;refine(e.bT o.b s).s1 (by simp[wb]) λu z b=>?_;have m:=z.ext;have C:=z.1;have i:=Gj B;refine hK u m ⟨D.out m λb _ (d:b=xb)=>by subst d;exact⟨i.1,i.2.1,i.2.2.1,i.2.2.2,y⟩,b,aI.bS hr m λb _ g (d:b=xb)=>?_,aI.bS r m λb _ g (d:b=xb)=>A (d▸g),⟨y,B,?_,A⟩,λb d=>?_,λb d=>by have h:=o.ql b d;exact⟨h.1,O,h.2.2⟩,λb d j=>?_⟩
 ·subst d;rcases g with g|g
  ·exact s g
  ·omega
 ·rintro(g|g)
  ·exact s g
  ·omega
 ·rcases d with d|d
  ·have h:=o.qa b d;exact⟨h.1,O,h.2.2⟩
  ·have:=o.p.e.1;exact⟨O,O,λF=>by have:=xT o.p F;omega⟩
 ·rcases d with d|d
  ·exact o.qq b d j
  ·have:=(o.ql b j).2.1;omega
theorem kQ.gH (o:kQ σ0 U xb L H held s0 P gb km fm x Qa Ql addrs ad ls la){s':Sl}{la':List T3}{Ql':Rg}(e:Ext Ql U w)(hr:bR s' 3 (j7 la') w Ql')(hQ:∀b,Ql' b->Ql b\/U.size<=b/\b<w.size){K:aP}
 (hK:∀u,Ext (· = xb) w u->kQ σ0 u xb L H held s0 P gb km fm x Qa Ql' addrs ad s' la'->K u):dW (Addr.add ⟨xb,0,none⟩ 2) (.slice s'.a s'.len s'.cap) w K:=by
 have M:=e.1;have J:=o.b.lt;obtain⟨s,C,B,z⟩:=o.wx;have E:=o.p.out e λb _ d=>by have h:=o.ql b d;have g:=Gj h.2.2;exact⟨g.1,g.2.1,g.2.2.1,g.2.2.2,h.1⟩
 have r:=aI.bS o.ra e λb _ F i=>o.qq b F i;refine(e.bT o.b z).s1 (by simp[wb]) λu y b=>?_;have j:=y.ext;have D:=y.1;have g:=Gj C;have A:¬Ql' xb:=λh=>by
  rcases hQ xb h with h|h
  ·exact z h
  ·omega
 refine hK u j ⟨E.out j λb _ (d:b=xb)=>by subst d;exact⟨g.1,g.2.1,g.2.2.1,g.2.2.2,s⟩,b,aI.bS r j λb _ m (d:b=xb)=>B (d▸m),aI.bS hr j λb _ m (d:b=xb)=>A (d▸m),⟨s,C,B,A⟩,λb d=>by have h:=o.qa b d;exact⟨h.1,O,h.2.2⟩,λb d=>?_,λb d i=>?_⟩
 ·rcases hQ b d with d|d
  ·have h:=o.ql b d;exact⟨h.1,O,h.2.2⟩
  ·have:=o.p.e.1;exact⟨O,O,λG=>by have:=xT o.p G;omega⟩
 ·rcases hQ b i with i|i
  ·exact o.qq b d i
  ·have:=(o.qa b d).2.1;omega
theorem CI {s:Sl}{l:List T3}(hs:cU s 3 (j7 l) U F){i:Nat}{r:T3}(hb:l[i]?=some r){K:Addr->Prop}(hK:∀bb o,(∀(j:Nat) v,(v3 r)[j]?=some v->cell U ⟨bb,o+j,none⟩=some v)->K ⟨bb,o,none⟩):Ix s.a s.len (i:Int) 3 K:=by
 have p:=(cW.1 hb).1;have w:s.len=l.length:=by have:=hs.1;rw[VW]at this;omega
 obtain⟨b,o,g,_⟩:=hs.cell (j:=i*3+0) (v:=.int .i64 r.1) ((HD hb O).trans rfl);rw[g];refine ix O O ?_;rw[add_lit];refine hK b _ λj v e=>?_;have m:j<3:=(cW.1 e).1;obtain⟨y,x,d,u⟩:=hs.cell ((HD hb m).trans e);rw[g]at d;cases d;rw[show o+(i:Int).toNat*3+j=o+(i*3+j) by omega];exact u
theorem LZ {S:aP}(hr:bR ls 3 (j7 la) U Q)(hl:la.length<=100000)(k:T3)(hS0:∀u,bK U u->S u){e t:Nat}{K:Sl->Hp->Prop}
 (hK:∀s' w,Ext Q U w->bR s' 3 (j7 (la++[k])) w (λb=>Q b\/U.size<=b/\b<w.size)->S w/\K s' w) :
 Nw (.cells #[.int .i64 k.1,.int .i64 k.2.1,.int .i64 k.2.2] t (0,0)) U λn v=>And (S v)<|App ls 3 24 e [.int .i64 0,.int .i64 0,.int .i64 0] ⟨some n,1,1⟩ v λs' w=>And (S w)<|K s' w:=by
 have p:ls.len=la.length:=by have:=hr.1;rw[VW]at this;omega
 refine nw (cs:=v3 k) λv x e1 a=>⟨hS0 v e1,?_⟩;have d:=aI.bO hr e1;refine d.app (ys:=v3 k) rfl (by simp[v3]) ?_ (by simp[v3,dQ]) ?_ ?_ mO λs' h' m r g=>?_
 ·intro j u hu;rw[add_lit,zH,a.cell];exact hu
 ·simp only;omega
 ·simp only;omega
 ·have y:Ext Q U h':=e1.to.trans r;refine hK s' h' y ?_;rw[AZ];refine aI.mono (aI.cut g) λb s i=>?_;rcases i.1 with h1|h1
  ·exact .inl h1
  ·exact .inr ⟨O,s⟩
inductive my (H:Hw) (x:Gu) (d:fQ) (a:Int):Hw->Gu->Int->Option Int->Bool->Prop where
 | same (e:Int):(e=0->d.kd≠20/\d.kd≠21/\d.kd≠22)->my H x d a H x e none false
 | full {H':Hw} {e:Int}:d.kd=20->ni d.a d.b=true->e≠0->V1 H d.th 0 (zA d.b+ZB d.a+16) (zA d.b) 0 H' 0 e->fY H H'->H'.live=H.live->my H x d a H' x e none false
 | fP {b:B5} {H1:Hw}:d.kd=20->xC H x d.a d.b b H1->V1 H d.th 0 (zA d.b+ZB d.a+16) (zA d.b) 0 H1 b.2.2.1 0->fY H H1->my H x d a {H1 with sp:=lT H1.sp b} (x.fP b) 0 (some b.1) false
 | rH {b:B5} {H1:Hw} {e:Int}:(d.kd=21\/d.kd=22)->bV x.kn a=some b->mB H x d.th a true=0->V1 (iy H b) d.th 1 0 0 b.2.2.1 H1 0 e->fY (iy H b) H1->ot (iy H b) d.th b.2.2.1 H1 e->my H x d a H1 (x.gone a) 0 none true
 | wrote:d.kd=26->tD H x a 0->my H x d a {H with sp:=ZU H.sp a d.va} x (eP H.sp a) none false
def Df (d:fQ)(add:Option Int)(del:Bool)(a:Int)(la:List T3):List T3:=match add with
 | some b=>la++[(b,d.a,d.b)]
 | none=>if del then la.filter λq=>!(q.1==a)else la
theorem xe {P' Qa' Ql':Rg}(hP:∀b,Mg P' gb km fm b->Mg P gb km fm b\/n<=b)(hA:∀b,Qa' b->Qa b\/n<=b)(hL:∀b,Ql' b->Ql b\/n<=b):∀b,qB P' gb km fm xb Qa' Ql' b->qB P gb km fm xb Qa Ql b\/n<=b:=by
 rintro b (h|h|h|h)
 ·exact(hP b h).imp .inl id
 ·exact .inl (.inr (.inl h))
 ·exact(hA b h).imp (λh=>.inr (.inr (.inl h))) id
 ·exact(hL b h).imp (λh=>.inr (.inr (.inr h))) id
set_option maxRecDepth 16000 in
theorem Jy (o:kQ σ0 U xb L H held s0 P gb km fm x Qa Ql addrs ad ls la)(gc:Gc σ0)(xi:∀e∈x.kn,e.1=e.2.1/\gS e.2)(x0:0<=x.no/\x.no<=100000)(hsw:(pC H x).length<=1000000)(hal:ad.length<=100000)(hll:la.length<=100000)(d:fQ)(di:lK d){R:aN}
 (hR:∀e w L' H' held' s0' P' x' Qa' Ql' addrs' ls' add del,kQ σ0 w xb L' H' held' s0' P' gb km fm x' Qa' Ql' addrs' (ad++add.toList) ls' (Df d add del (rU ad d) la)->L'.p=L.p->my H x d (rU ad d) H' x' e add del->Qr H' H->Ext (qB P gb km fm xb Qa Ql) U w/\(∀b,qB P' gb km fm xb Qa' Ql' b->qB P gb km fm xb Qa Ql b\/U.size<=b)->R e w) :
 Xe.c (aW xb) d.kd d.th d.a d.b d.of d.pl d.va d.s U R:=by
 refine Xe.o ?_;unfold Xe.v;have tM:∀{u u':Hp},Ext (Mg P gb km fm) u u'->Ext (qB P gb km fm xb Qa Ql) u u':=λe=>e.sub λb g=>.inl g;have tX:∀{u u':Hp},Ext (· = xb) u u'->Ext (qB P gb km fm xb Qa Ql) u u':=λe=>e.sub λb g=>.inr (.inl g);have tA:∀{u u':Hp},Ext Qa u u'->Ext (qB P gb km fm xb Qa Ql) u u':=λe=>e.sub λb g=>.inr (.inr (.inl g));have tL:∀{u u':Hp},Ext Ql u u'->Ext (qB P gb km fm xb Qa Ql) u u':=λe=>e.sub λb g=>.inr (.inr (.inr g));have hxb:=o.b.lt;have h00:=o.p.e.1;have G:gb<U.size/\km<U.size/\fm<U.size:=⟨o.p.b.lt,o.p.m.lt,o.p.f.lt⟩;refine nw (cs:=qp d) λv hz e g=>aG ((o.fr e).b.rS rfl (g.rI rfl (g.rI rfl (g.rI rfl (g.rI rfl (g.rI rfl (g.rI rfl (g.rI rfl (g.rT rfl ?_)))))))));have o1:=o.fr e;refine Rr (bR.gZ o1.ra) d λv1 e1=>?_;have o2:=o1.fr e1;have D:=e.trans e1;have zv:U.size<=v1.size:=D.1;have C:=e1.bT g id;have hat:=IN (ad:=ad) di;generalize hx:rU ad d=ax at hat hR;have hnM:¬Mg P gb km fm U.size:=λN=>by have:=xT o.p N;omega
 have same:∀e w,(e=0->d.kd≠20/\d.kd≠21/\d.kd≠22)->bK v1 w->R e w:=λe w he z=>by
  have oo:=o.fr (D.trans z);refine hR e w L H held s0 P x Qa Ql addrs ls none false ?_ rfl (.same e he) (Qr.refl _) ⟨bK.to (D.trans z),λ_=>.inl⟩;rw[show ad++(none:Option Int).toList=ad by simp];exact oo
 refine C.rI rfl (cO (λhk=>?_) λhk0=>?_)
 ·have A:d.kd=20:=by simpa using hk
  refine⟨λm=>bK v1 m,Ext.refl _ _,aG (iE (c:=.p) (y:=some ⟨gb,0,none⟩) (λm e=>e.bT o2.b id) rfl (iE (c:=bN) (y:=d.th) (λm e=>e.bT C id) rfl (iE (c:=bN) (y:=d.a) (λm e=>e.bT C id) rfl (iE (c:=bN) (y:=d.b) (λm e=>e.bT C id) rfl ?_))))⟩;refine Ce o2.p gc x0 d.th d.a d.b (λw hgk z=>?_) (λe w ts H' held' s0' P' hgk B hw op V E Y j=>?_) λb w ts H1 held' s0' P' gr hw op E Y j=>?_
  ·exact cB aB (same 1 w (λh=>by cases h) z)
  ·refine cB (by simpa using B) ?_;have o3:=o2.fB (E.sub λc hc=>.inl hc) Y j;refine hR e w {L with ts:=ts} H' held' s0' P' x Qa Ql addrs ls none false ?_ rfl (.full A hgk B hw op V) op.kp ⟨(bK.to D).trans (tM (E.sub λc hc=>.inl hc)),xe (uR G λb h=>(j b h).imp id λh=>zh zv h) (λ_=>.inl) (λ_=>.inl)⟩;rw[show ad++(none:Option Int).toList=ad by simp];exact o3
  ·refine cE rfl ?_;have o3:=o2.fB E Y j;have hb3:=E.bT C hnM;refine aG (o3.b.rS rfl (Ct o3.ra O b.1 λs' u1 e4 hr4=>aG (o3.cC e4 hr4 λu2 e5 o5=>?_)));have X:bY u2 U.size (qp d):=e5.bT (e4.bT hb3 λhq=>by have:=(o.qa _ hq).2.1;omega) λ(hx:U.size=xb)=>by omega
   refine⟨λm=>bY m xb (wb gb s' ls)/\bY m U.size (qp d),⟨o5.b,X⟩,aG (iE (c:=.s) (y:=ls) (λm N=>N.1) rfl (iE (c:=bN) (y:=d.a) (λm N=>N.2) rfl (iE (c:=bN) (y:=d.b) (λm N=>N.2) rfl ?_)))⟩;refine LZ o5.rl hll (b.1,d.a,d.b) (λu S=>⟨S.bT o5.b id,S.bT X id⟩) λs2 u3 e6 hr6=>⟨⟨e6.bT o5.b o5.wx.2.2.2,e6.bT X λhq=>?_⟩,aG (o5.gH e6 hr6 (λ_ h=>h) λu4 e7 o7=>?_)⟩
   ·have:=(o.ql _ hq).2.1;omega
   have z3:=E.1;have z4:=e4.1;have z5:=e5.1;exact hR 0 u4 _ _ held' s0' P' _ _ _ s' s2 (some b.1) false o7 rfl (.fP A gr hw op) op.kp ⟨((((((bK.to D).trans (tM E)).trans (tA e4)).trans (tX e5)).trans (tL e6)).trans (tX e7)),xe (uR G λb h=>(j b h).imp id λh=>zh zv h) (λb h=>h.imp id λh=>zh (zh zv z3) h.1) (λb h=>h.imp id λh=>zh (zh (zh (zh zv z3) z4) z5) h.1)⟩
 have k0:d.kd≠20:=by simpa using hk0
 have jn:(d.kd=21\/d.kd=22)\/¬(d.kd=21\/d.kd=22):=Decidable.em _;refine xm (λr u=>u=v1/\r=decide (d.kd=21\/d.kd=22)) (λr u ⟨hu,hr⟩=>?_) λJ hJ=>cO (λh=>hJ _ _ ⟨rfl,?_⟩) λh=>hJ _ _ ⟨rfl,?_⟩
 ·rw[hu];rcases jn with A|A
  ·refine cE (by rw[hr];exact zJ A) (aG (o2.b.rP rfl (C.rI rfl (H9 (Gx o2.p gc xi d.th ax true (λw B z=>?_) λb w ts H1 held' s0' P' e N hf hw op fe E Y j=>?_)))))
   ·exact cB (by simpa using B) (same _ w (λh=>absurd h B) z)
   ·refine cE rfl ?_;have o3:=o2.fB E Y j;have hb3:=E.bT C hnM;have hll3:ls.len=la.length:=by have:=o3.rl.1;rw[VW]at this;omega
    have z3:=E.1;refine UC (a:=.s) (bb:=bN) (λ(l:Sl) (i:Int) u=>∃k:Nat,i=k/\k<=la.length/\Ext (λb=>w.size<=b) w u/\bR l 3 (j7 ((la.take k).filter λq=>!(q.1==ax))) u (λb=>w.size<=b)) (λ_ i _=>la.length-i.toNat) ⟨0,rfl,O,Ext.refl _ _,⟨rfl,.inl ⟨rfl,rfl⟩⟩⟩ ?_;rintro(l:Sl) (i:Int) u ⟨k,rfl,hk,S,V⟩;have aa:bK w u:=⟨S.1,λb g _=>S.2 b g O⟩;have ou:=o3.fr aa;have hlk:l.len<=k:=by
     have h1:((la.take k).filter λq:T3=>!(q.1==ax)).length*3=l.len*3:=by have:=V.1;rw[VW]at this;exact this
     have h2:=qT (λq:T3=>!(q.1==ax)) (la.take k);rw[zZ,pz hk]at h2;omega
    refine aG (ou.b.rS rfl (cQ (λhlt=>?_) λhge=>?_))
    ·have hk':k<la.length:=by simp only at hlt;omega
     have hg:la[k]?=some la[k]:=cV _;generalize la[k]=q at hg;have htk:la.take (k+1)=la.take k++[q]:=by rw[k7,hg];rfl
     refine aG (ou.b.rS rfl (CI (bR.gZ ou.rl) hg λbb o' K=>il (K 0 _ rfl) (cO (λB=>?_) λheq=>?_)))
     ·have B:¬q.1=ax:=by simpa using B
      refine aG (ou.b.rS rfl (CI (bR.gZ ou.rl) hg λbb o' K=>il (K 0 _ rfl) (il (K 1 _ rfl) (il (K 2 _ rfl) ?_))));have hl1:=V.1;rw[VW]at hl1;refine V.push (F:=λb=>w.size<=b) (vs:=v3 q) (λb g=>by have:=S.1;omega) rfl rfl (by simp[v3,dQ]) O O λs' w' hsl' ew' hr'=>?_;refine cP (m:=k+1) O O ⟨⟨k+1,rfl,O,S.trans ew',?_⟩,O⟩;rw[htk,tZ,uJ (by simpa using B),List.filter_nil,AZ];exact hr'
     ·have heq:q.1=ax:=by simpa using heq
      refine cP (m:=k+1) O O ⟨⟨k+1,rfl,O,S,?_⟩,O⟩;rw[htk,tZ,ux (by simp[heq]),List.filter_nil,kX];exact V
    ·have hkk:k=la.length:=by simp only at hge;omega
     subst hkk;rw[mV]at V;refine aG (o3.gH (Ql':=λb=>w.size<=b/\b<u.size) aa.to (aI.mono (aI.cut V) λb _ g=>g) (λb g=>.inr g) λu2 e7 o7=>?_);refine hR 0 u2 {L with ts:=ts} H1 held' s0' P' _ Qa (λb=>w.size<=b/\b<u.size) addrs l none true ?_ rfl (.rH A N hf hw op fe) op.kp ⟨(((bK.to D).trans (tM E)).trans (bK.to aa)).trans (tX e7),xe (uR G λb h=>(j b h).imp id λh=>zh zv h) (λ_=>.inl) (λb h=>.inr (zh (zh zv z3) h.1))⟩;rw[show ad++(none:Option Int).toList=ad by simp];exact o7
  ·have Z:d.kd≠20/\d.kd≠21/\d.kd≠22:=⟨k0,λh=>A (.inl h),λh=>A (.inr h)⟩;refine cB (by rw[hr];exact zM A) (cO (λ_=>aG (o2.b.rP rfl (G2 o2.p xi ax λs w Q z _ _=>same _ w (λ_=>Z) z))) λ_=>?_);refine cO (λ_=>aG (o2.b.rP rfl (C9 o2.p xi hsw λs w z _=>same 0 w (λ_=>Z) z))) λ_=>?_;refine cO (λ_=>aG (o2.b.rP rfl (JH o2.p xi ax hat.2 (λe w _ z _=>same e w (λ_=>Z) z) λw z _=>same _ w (λ_=>Z) z))) λ_=>?_;refine cO (λh26=>aG (o2.b.rP rfl (C.rI rfl (G8 o2.p gc xi ax d.va hat.2 (λe w _ z _=>same e w (λ_=>Z) z) λw s0' P' wd E Y j=>?_)))) λ_=>?_
   ·have o3:=o2.fB (E.sub λc hc=>.inl hc) Y j;refine hR _ w L _ held s0' P' x Qa Ql addrs ls none false ?_ rfl (.wrote (by simpa using h26) wd) (Qr.refl _) ⟨(bK.to D).trans (tM (E.sub λc hc=>.inl hc)),xe (uR G λb h=>(j b h).imp id λh=>zh zv h) (λ_=>.inl) (λ_=>.inl)⟩;rw[show ad++(none:Option Int).toList=ad by simp];exact o3
   refine cO (λ_=>aG (o2.b.rP rfl ?_)) λ_=>same 0 v1 (λ_=>Z) (Ext.refl _ _);have W:∀{e w:_} {a b c f:Int},bK v1 w->Nw (.cells #[.int .i64 0,.int .i64 0,.int .i64 0,.int .i64 0] 52 (0,0)) w λM v20=>dW (M.add 0) (.int .i64 a) v20 λv21=>dW (M.add 1) (.int .i64 b) v21 λv22=>dW (M.add 2) (.int .i64 c) v22 λv23=>dW (M.add 3) (.int .i64 f) v23 λv24=>R e v24:=λ{e w a b c f} z=>
    nw (cs:=[.int .i64 0,.int .i64 0,.int .i64 0,.int .i64 0]) λv20 hz20 e20 b20=>b20.s1 aA λv21 o21 b21=>b21.s1 aA λv22 o22 b22=>b22.s1 aA λv23 o23 b23=>b23.s1 aA λv24 o24 b24=>
     same e v24 (λ_=>Z) (z.trans (Ext.fresh e20 (((o21.ext.trans o22.ext).trans o23.ext).trans o24.ext) λi (hi:i=w.size)=>O))
   exact RM o2.p xi ax (λw z _=>W z) λk w z _ _=>W z
 ·rw[h,zJ (Or.inl (by simpa using h))]
 ·have h21:¬d.kd=21:=by simpa using h
  rw[lQ,zT,decide_eq_true_iff];exact⟨.inr,λh=>h.resolve_left h21⟩
end Go.Ar
namespace Go.Ar
open Go Go.Vc Go.Proofs
open Go.Vc (bV dB cT)
open Go.Bu (eW KK Uz)
variable {size align a:Int}{U σ0 v w w':Hp}{F P Q X T:Rg}{L:dM}{H H' H1:Hw}{held held' held1:List Pc}{s0 s0' s1 sp:Sp}{t n:Nat}{gb km fm m xb:Nat}{x x' y:Gu}{b:B5}{ad:List Int}{la:List T3}{d:fQ}{add:Option Int}{del:Bool}{e:Int}{l:Sl}{ds:List fQ}
theorem FK {s c al:Int}{i:Int}(h1:256%al=0)(h2:c%al=0):(s*256+i*c)%al=0:=by
 obtain⟨a,e1⟩:=wW h1;obtain⟨b,e2⟩:=wW h2;refine Int.emod_eq_zero_of_dvd ⟨s*a+i*b,?_⟩;rw[e1,e2,Int.mul_add,Int.mul_left_comm s,Int.mul_left_comm i]
theorem Sn (hi1:HI H1 held1 s1)(hp:HI H held s0)(ht:H1.tb=H.tb){al base:Int}(h256:256%al=0)(me:qz H size al H1 base 0):base%al=0:=by
 rcases me with⟨h,_⟩|⟨_,hm,_,cl,hl,hcl⟩
 ·exact absurd rfl h
 have m:(base,((base,(GC H.tb size al).1,cl,XO H1.bX base):Bk))∈H1.live:=by rw[hl];exact Vh (Ag _)
 obtain⟨_,p,z,_,E,y,_,_⟩:=hi1.lv _ m;obtain⟨A,C,hd⟩:=hi1.wi.hf p z;simp only at E y;rcases hd with⟨q1,_,r,_,q2,_⟩|⟨j,c,q1,q2,_,q3,_⟩
 ·rw[←y,q2];have:((r.1*256:Nat):Int)=(r.1:Int)*256+0*0:=by omega
  rw[this];exact FK h256 aA
 ·rcases hcl with⟨k,rfl,hk⟩|⟨rfl,_⟩
  ·have B:j=k:=by omega
   subst B;obtain⟨F,b,_,d⟩:=EI hk;have e:A.tb=H1.tb:=hi1.wi.tb _ A C;rw[e,ht,b]at q2;cases q2;obtain⟨x,G,a,u⟩:=q3;have g:=(hi1.wi.ga _ A C).cD _ _ _ a;have w:x=c:=by
    have:=a.1;rw[e,ht,b]at this;exact(Option.some.inj this).symm
   subst w;obtain⟨_,s,i,_,_,D,_⟩:=(Vs g).1 u;rw[←y,D];have:((at_ x s i:Nat):Int)=(s.st:Int)*256+(i:Int)*(x.size:Int):=by unfold at_;simp
   rw[this];exact FK h256 d
  ·omega
theorem RG {al:Int}(h1:1<=al)(h2:al<=256)(hp:eW al=true):256%al=0/\(al<16->16%al=0):=by
 obtain⟨al,rfl⟩:=za (show 0<=al by omega);rw[KK]at hp;have key:∀a:Nat,a<=256->1<=a->(a &&& (a-1)=0)->256%a=0/\(a<16->16%a=0):=by decide +kernel
 have:=key al O O (by have:=Uz (a:=al) O O;rw[hp]at this;simpa using this);exact⟨by rw[show(256:Int)=((256:Nat):Int)from rfl,←Int.natCast_emod,this.1];rfl,λh=>by rw[show(16:Int)=((16:Nat):Int)from rfl,←Int.natCast_emod,this.2 O];rfl⟩
theorem Mi {al:Int}(h1:1<=al)(h2:al<=256)(hp:eW al=true):256%zA al=0/\zA al%al=0:=by
 have:=RG h1 h2 hp;unfold zA;split
 ·exact⟨by decide,this.2 O⟩
 ·exact⟨this.1,by simp⟩
structure AL (H:Hw) (x:Gu) (ad:List Int) (la:List T3):Prop where
 g:eT H x
 n0:0<=x.no
 nl:(x.kn.length:Int)<=x.no/\(ad.length:Int)<=x.no
 lq:la.map (λa=>(a.1,a.2.1,zA a.2.2))=x.kn.map (λe=>(e.1,e.2.2.1,e.1-e.2.2.2.1))
 ok:∀a∈la,ni a.2.1 a.2.2=true/\a.1%a.2.2=0
 dq:∀a∈ad,(bV x.kn a).isSome=true\/bV x.fr a=some true
 th:1<=H.cf.threads
theorem AL.out (al:AL H x ad la)(hi:HI H held s0)(cf:lj H)(o:my H x d a H' x' e add del):AL H' x' (ad++add.toList) (Df d add del a la)/\x'.no<=x.no+1/\∀k∈x.kn,¬(k.1<=a/\a<k.1+ZB k.2.2.1)->Kept H x H' x' k:=by
 have g:=al.g;have F:ad++(none:Option Int).toList=ad:=by simp
 cases o with
 | same e W=>rw[F];exact⟨al,O,λk j _=>⟨j,λ_ _=>rfl⟩⟩
 | full j w r E op hl=>
  rw[F];obtain⟨y,D⟩:=g.same hi op hl;exact⟨⟨y,al.n0,al.nl,al.lq,al.ok,al.dq,by rw[op.kp.2.1];exact al.th⟩,O,λk j _=>D k j⟩
 | fP j gr E op=>
  rename_i b H1;obtain⟨L,s1,B⟩:=op.hi;obtain⟨y,R,Y,_,_⟩:=g.fP hi gr op B;have A:=gr.ok;unfold ni at A;rw[zF,zU]at A;obtain⟨⟨_,_,Z,X⟩,kp⟩:=A;obtain⟨G,J⟩:=Mi Z X kp;have K:=Sn B hi op.kp.1 G gr.me;have C:(x.fP b).no=x.no+1:=rfl;have P:(x.fP b).fr=x.fr:=rfl;refine⟨⟨y,by have:=al.n0;omega,⟨?_,?_⟩,?_,λq u=>?_,λz p=>?_,by show 1<=H1.cf.threads;rw[op.kp.2.1];exact al.th⟩,O,λk j _=>Y k j⟩
  ·rw[R,C,zO];have:=al.nl.1;simp;omega
  ·rw[C,zO];have:=al.nl.2;simp;omega
  ·show(la++[(b.1,d.a,d.b)]).map _=_;rw[R,jY,jY,al.lq]
   congr 1
   simp only[zS,qs,gr.s];have:=gr.a
   congr 3
   omega
  ·rcases zK.1 (show q∈la++[(b.1,d.a,d.b)]from u)with u|u
   ·exact al.ok q u
   ·rw[zN]at u;subst u;refine⟨gr.ok,?_⟩;show b.1%d.b=0;obtain⟨q1,e1⟩:=wW K;obtain⟨S,e2⟩:=wW J;refine Int.emod_eq_zero_of_dvd ⟨S*q1+S,?_⟩;rw[gr.a,e1,Int.mul_add,←Int.mul_assoc,←e2]
  ·have N:(x.fP b).kn=dB x.kn b.1 b:=rfl;rw[N,P,V9];rcases zK.1 p with p|p
   ·split
    ·exact .inl rfl
    ·exact al.dq z p
   ·simp only[AB,zN]at p;subst p;rw[zC rfl];exact .inl rfl
 | rH j hm hf E op fe=>
  rename_i b e;rw[F];have Q:Kb H d.th=0:=by
   by_cases h:Kb H d.th=0
   ·exact h
   ·unfold mB at hf;rw[zC h]at hf;exact absurd hf h
  obtain⟨y,D⟩:=g.free hi hm E op fe Q cf.2.1;have w:(x.gone a).kn=cT x.kn a:=rfl;have M:(x.gone a).fr=dB x.fr a true:=rfl;refine⟨⟨y,al.n0,⟨?_,al.nl.2⟩,?_,λq u=>al.ok q (zI.1 u).1,λz p=>?_,by rw[op.kp.2.1];exact al.th⟩,by show x.no<=_;omega,λk j r=>D k j λh=>r ?_⟩
  ·rw[w];have h1:=qT (λq:Int×B5=>!(q.1==a)) x.kn;have h2:=al.nl.1;show((x.kn.filter _).length:Int)<=x.no;omega
  ·show(la.filter λq=>!(q.1==a)).map _=(x.kn.filter λq=>!(q.1==a)).map _;have e1:(la.filter λq=>!(q.1==a)).map (λa=>(a.1,a.2.1,zA a.2.2))=(la.map λa=>(a.1,a.2.1,zA a.2.2)).filter λq=>!(q.1==a):=by rw[vd];rfl
   have e2:(x.kn.filter λq=>!(q.1==a)).map (λe=>(e.1,e.2.2.1,e.1-e.2.2.2.1))=(x.kn.map λe=>(e.1,e.2.2.1,e.1-e.2.2.2.1)).filter λq=>!(q.1==a):=by rw[vd];rfl
   rw[e1,e2,al.lq]
  ·rw[w,M,BO,V9];by_cases h:z=a
   ·rw[zC h,zC h];exact .inr rfl
   ·rw[zB h,zB h];exact al.dq z p
  ·have m:=g.i k j;have hs:=m.2.s;have E:=Qe (n:=k.2.2.1) O;omega
 | wrote j wd=>
  rw[F];rcases wd with⟨h,_⟩|⟨k,j,hin,h8,_⟩
  ·cases h
  ·have m:=g.i k j;obtain⟨V,U⟩:=hin;have p:a∈Qx k.2:=eT.kA m.2 V U h8;obtain⟨y,D,_⟩:=g.write hi j p (v:=d.va);refine⟨⟨y,al.n0,al.nl,al.lq,al.ok,al.dq,al.th⟩,O,λe W r=>D e W λh=>r ?_⟩;subst h;exact⟨by rw[m.1];exact V,by rw[m.1];exact U⟩
variable {Qa Ql:Rg}{addrs ls:Sl}
theorem kQ.sf (o:kQ σ0 U xb L H held s0 P gb km fm x Qa Ql addrs ad ls la)(al:AL H x ad la):(la.length:Int)<=x.no:=by
 have:=congrArg List.length al.lq;rw[zl,zl]at this;rw[this];exact al.nl.1
set_option maxRecDepth 8000 in
theorem IC (gl:Gl U)(gc:Gc U)(b b1 b2 b3 b4 b5:Int)(hd:jo U l ds)(most:Int)(hmost:most<=60){R:Option Addr->Hp->Prop}(h0:∀σ',bK U σ'->R none σ')
 (h1:∀σ' xb L H held s0 P gb km fm x Qa Ql addrs ad ls la,kQ U σ' xb L H held s0 P gb km fm x Qa Ql addrs ad ls la->AL H x ad la->x.no<=60->R (some ⟨xb,0,none⟩) σ'):XK.c b b1 b2 b3 b4 b5 l most U R:=by
 refine XK.o ?_;unfold XK.v;have hl:=hd.len;have hbig:=hd.xW;refine nw (cs:=[.int .i64 b,.int .i64 b1,.int .i64 b2,.int .i64 b3,.int .i64 b4,.int .i64 b5]) λv hz e A=>A.rI rfl (A.rI rfl (A.rI rfl (A.rI rfl (A.rI rfl (A.rI rfl (WH.o ?_))))));unfold WH.v;refine nw (cs:=[.int .i64 b,.int .i64 b1,.int .i64 b2,.int .i64 b3,.int .i64 b4,.int .i64 b5]) λv1 K e1 aa=>aa.eY rfl ?_;have G:=e.trans e1;have B:=e1.bT A id;refine KE (λr w=>v1=w/\(r=false->b1<=128/\(ds.length:Int)<=most)) (λr w ⟨hw,hr⟩=>?_) λJ hJ=>cQ (λh=>hJ _ _ ⟨rfl,λh=>by cases h⟩) λh=>Jk (hJ _ _ ⟨rfl,λh'=>by have:=uV h';exact⟨O,O⟩⟩);subst hw;refine cO (λht=>h0 v1 G) λhf=>?_;obtain⟨hpg,hlm⟩:=hr hf;refine B.rI rfl (B.rI rfl (B.rI rfl (B.rI rfl (B.rI rfl (B.rI rfl (Xs.o ?_))))));unfold Xs.v;refine nw (cs:=[.int .i64 b,.int .i64 b1,.int .i64 b2,.int .i64 b3,.int .i64 b4,.int .i64 b5]) λv1' hz1' X s=>?_;have y:=G.trans X;refine s.rI rfl (s.rI rfl (s.rI rfl (s.rI rfl (s.rI rfl (s.rI rfl ?_)))));refine Il (gl.bO y) (gc.bO y).gd b b1 b2 b3 b4 b5 (λv2 e2=>cE rfl (cE rfl (h0 v2 (y.trans e2)))) λv2 L0 N H0 e2 hsN hNv hh F=>cB rfl ?_;have e02:=y.trans e2;refine EH e02 hh.cut F.hi F.cf (by have:=F.pg;omega) (λb A=>⟨by have:=y.1;have:N<=b:=A.1;omega,A.2⟩) (An gl gc.gd) λw gb km fm e3 hm p=>bW.intro (cB rfl (cB rfl ?_));refine nw (cs:=wb gb ⟨none,0,0⟩ ⟨none,0,0⟩) λw1 K e4 Y=>cB rfl ?_;have p4:=p.fr e4;have o4:kQ U w1 w.size L0 H0 [] (KZ H0.cf.aF) _ gb km fm nC (λ_=>False) (λ_=>False) ⟨none,0,0⟩ [] ⟨none,0,0⟩ []:=
  ⟨p4,Y,⟨rfl,.inl ⟨rfl,rfl⟩⟩,⟨rfl,.inl ⟨rfl,rfl⟩⟩,⟨p.e.1,λhM=>by have:=xT p hM;omega,id,id⟩,λb A=>A.elim,λb A=>A.elim,λb A=>A.elim⟩
 have W:AL H0 nC [] []:=⟨⟨by rw[F.live];rfl,λe M=>by simp[nC]at M,λj=>by
  unfold fG;cases hj:H0.bQ[j]? with
  | none=>rfl
  | some g=>exact F.ph g (zG hj),λe M=>by simp[nC]at M,by simp[nC]⟩,by simp[nC],by simp[nC],rfl,λa Z=>by simp at Z,λa Z=>by simp at Z,F.th⟩
 refine ZY (a:=bN) (λ(z:Int) u=>∃(i:Nat) (L:dM) (H:Hw) (held:List Pc) (s0:Sp) (P:Rg) (x:Gu) (Qa Ql:Rg) (addrs:Sl) (ad:List Int) (ls:Sl) (la:List T3),z=i/\i<=ds.length/\kQ U u w.size L H held s0 P gb km fm x Qa Ql addrs ad ls la/\AL H x ad la/\x.no<=i) (λz _=>ds.length-z.toNat)
  ⟨0,L0,H0,_,_,_,nC,_,_,_,[],_,[],rfl,O,o4,W,by simp[nC]⟩ ?_
 rintro(z:Int) u ⟨i,L,H,held,s0,P,x,Qa,Ql,addrs,ad,ls,la,rfl,hi,o,al,hno⟩;refine cQ (λhlt=>?_) λhge=>?_
 ·have hx:ds[i]?=some (ds[i]' O):=cV _;generalize (ds[i]' O)=d at hx;have V:=hd.i _ (zG hx);refine hd.rd o.p.e hx λba oa D=>il (D _ o.p.e 0 _ rfl) (il (D _ o.p.e 1 _ rfl) (il (D _ o.p.e 2 _ rfl) (il (D _ o.p.e 3 _ rfl) (il (D _ o.p.e 4 _ rfl) (il (D _ o.p.e 5 _ rfl) (il (D _ o.p.e 6 _ rfl) (AA (D _ o.p.e 7 _ rfl) ?_)))))));have n0:=al.n0;have nl:=al.nl;have hla:=o.sf al;refine Jy o gc al.g.i ⟨n0,O⟩ (by rw[al.g.cF o.p.hi];simp) O O d V λer u2 L' H' E s0' P' x' Qa' Ql' C S add del o' hLp out kp _=>?_;obtain⟨Q,hno',_⟩:=al.out o.p.hi o.p.cf out;exact cP (m:=i+1) O O ⟨⟨i+1,L',H',E,s0',P',x',Qa',Ql',C,_,S,_,rfl,O,o',Q,O⟩,O⟩
 ·exact h1 u w.size L H held s0 P gb km fm x Qa Ql addrs ad ls la o al O
end Go.Ar
namespace Go.Ar
open Go Go.Vc Go.Proofs Go.RowKit Go.Maps Go.Sort Go.Shelf
open Go.Vc (bV dB cT)
open Go.Bu (lU U2 Vy U1 KR xu)
variable {U σ0 v w w':Hp}{F P Q X T:Rg}{L:dM}{H H' H1:Hw}{held:List Pc}{s0 sp:Sp}{t n:Nat}{gb km fm m:Nat}{x y:Gu}{b:B5}
def Ha:Nat:=Tryz.gY.f 10
def B4:Nat:=Tryz.gY.t 23
theorem I9 (m:Option Nat){R:Fv->Hp->Prop}(hR:R ⟨Ha,#[],#[.pointer (some ⟨U.size,0,none⟩)]⟩ (U.push (.cells #[.map m] B4 (0,0)))) :
 Zb.c m U R:=by
 rintro w rfl;refine(callsIn_wide.1 (AnyZI.keys_in Tryz.kM Fence.wide 5 trivial rfl m w)).mono ?_;rintro e a ⟨rfl,rfl⟩;exact⟨⟨rfl,rfl,rfl,rq (by show _<(w.heap.push _).size;simp)⟩,[.func (.func Ha) #[] #[.pointer (some ⟨w.heap.size,0,none⟩)]],rfl,⟨Ha,#[],#[.pointer (some ⟨w.heap.size,0,none⟩)]⟩,rfl,hR⟩
theorem IM {w:World}{c m:Nat}{B:List (Int×B5)}(hc:cell w.heap ⟨c,0,none⟩=some (.map (some m)))(hm:dH w.heap m .i64 (.ag 5) B)(hb:∀x∈B,Go.Bu.kY x.1)(hs:B.length<=1000000)(n:Nat)(hn:1<=n) :
 SeqGives Fence.wide n Tryz.prog Ha #[.pointer (some ⟨c,0,none⟩)] encZ (λss=>ss.Perm (B.map (·.1))) B.length w:=by
 obtain⟨D,p,d,a⟩:=KR (P:=Tryz.prog) Tryz.kM.t26 hm hb hs;have b:c<w.heap.size:=by
  unfold cell at hc;split at hc
  ·rename_i h;exact(zt.1 h).1
  ·cases hc
 have:=AnyZI.keys_gives (ρ:=Tryz.gY) {Tryz.kM with} Fence.wide n trivial rfl hn c m B.length D w b hc p;intro l J W hW hJ hY h0;rw[a]at this;refine(this l J W hW hJ hY h0).mono ?_;rintro e W' ⟨i,ss,g,j⟩;exact⟨i,ss,g.trans d,j⟩
theorem LF {c m:Nat}{B:List (Int×B5)}(hc:cell U ⟨c,0,none⟩=some (.map (some m)))(hm:dH U m .i64 (.ag 5) B)(hb:∀x∈B,Go.Bu.kY x.1)(hs:B.length<=1000000){R:Sl->Hp->Prop}
 (hR:∀(s:Sl) (σ':Hp) (ss:List Int),bK U σ'->ss.Perm (B.map (·.1))->ss.Pairwise (· <= ·)->lU U.size σ' s (ss.map (Value.int .i64))->R s σ') :
 Vp.c ⟨Ha,#[],#[.pointer (some ⟨c,0,none⟩)]⟩ U R:=by
 rintro w rfl;have g:=IM hc hm hb hs 2 O;have p:B.length<=maxLen:=by unfold maxLen;omega
 have u:=AnyZI.sorted_in Tryz.qx Fence.wide 5 trivial trivial trivial trivial rfl O (xu _) (Tryz.lp.f5.enters rfl) Ha #[.pointer (some ⟨c,0,none⟩)] trivial (Tryz.kM.f10.enters rfl) _ _ p O _ g;refine(callsIn_wide.1 u).mono ?_;rintro e A ⟨v,ss,rfl,z,i,r,d⟩;obtain⟨s,rfl,j⟩:=U2 i;refine⟨U1 d,[.slice s.a s.len s.cap],rfl,s,rfl,?_⟩;refine hR s _ (ss.mergeSort λx y=>decide (x<=y)) (Vy d) ((List.mergeSort_perm _ _).trans z) ?_ j;have:=List.pairwise_mergeSort (le:=λx y:Int=>decide (x<=y)) (λa b c C D=>by simp at *;omega) (λa b=>by simp;omega) ss;exact this.imp (λh=>by simpa using h)
structure wu (x:Gu) (es:List (Int×B5)):Prop where
 p:es.Perm x.kn
 s:es.Pairwise λa b=>a.1<b.1
def b4 (e:Int×B5):Bk:=(e.2.1,e.2.2.1,e.2.2.2.1,e.2.2.2.2.1)
theorem Jl (p:GP σ0 U L H held s0 P gb km fm x)(xi:∀e∈x.kn,e.1=e.2.1/\gS e.2)(hl:x.kn.length<=1000000){R:Sl->Hp->Prop}(hR:∀s σ' es,bK U σ'->wu x es->bR s 4 (jv (es.map b4)) σ' (λb=>U.size<=b)->R s σ'):YD.c (aW gb) U R:=by
 refine YD.o ?_;unfold YD.v;have D:∀e∈x.kn,Go.Bu.kY e.1:=λe g=>by
  have h:=xi e g;have J:=h.1;have K:=h.2.z;have h3:=h.2.base;have h4:=h.2.t;have h5:=h.2.m;have h6:=h.2.s;have Z:=Qe (n:=e.2.2.1) O;unfold Go.Bu.kY;omega
 have r:=p.m.nodup;refine VQ p (cB rfl (aG (p.b.rM rfl (I9 _ ?_))));have e1:bK U (U.push (.cells #[.map (some km)] B4 (0,0))):=Ext.push _ _ _;have p1:=p.fr e1;refine LF (by unfold cell;simp) p1.m D hl λs u d e2 Q A hs=>?_;have aa:=e1.trans e2;have y:=cU.se hs;have B:d.Nodup:=Q.nodup_iff.2 r;have V:d.length=x.kn.length:=by rw[Q.length_eq];simp
 have hsl:s.len=d.length:=by have:=y.1;simp at this;omega
 let f:Int->Int×B5:=λk=>(k,(bV x.kn k).getD (0,0,0,0,0))
 have M:∀e∈x.kn,f e.1=e:=λe g=>by
  show(e.1,(bV x.kn e.1).getD (0,0,0,0,0))=e;rw[Qf r (show(e.1,e.2)∈x.kn from g)];rfl
 have hz1:U.size<u.size:=by
  have J:=e2.1;have K:(U.push (.cells #[.map (some km)] B4 (0,0))).size=U.size+1:=by simp
  omega
 refine UC (a:=.s) (bb:=bN) (λ(out:Sl) (z:Int) w=>∃i:Nat,z=i/\i<=d.length/\bK u w/\bR out 4 (jv (((d.take i).map f).map b4)) w (λb=>u.size<=b)) (λ_ z _=>d.length-z.toNat) ⟨0,rfl,O,Ext.refl _ _,⟨by simp[jv],.inl ⟨rfl,rfl⟩⟩⟩ ?_;rintro(out:Sl) (z:Int) w ⟨i,rfl,hil,ew,hr⟩;have Z:=p1.fr (e2.trans ew);refine cQ (λhlt=>?_) λhge=>?_
 ·have hx:d[i]?=some (d[i]' O):=cV _;have hol:out.len=i:=by have:=hr.1;rw[BP]at this;simp at this;omega
  have G:(d[i]' O)∈x.kn.map (·.1):=Q.mem_iff.1 (j4 _);obtain⟨e,g,C⟩:=zE.1 G;have W:f (d[i]' O)=e:=by rw[←C];exact M e g
  refine(aH.bO (aH.cut y) ew).mY hx (aG (Z.b.rM rfl ⟨x.kn,Z.m,?_⟩));have N:bV x.kn (d[i]' O)=some e.2:=by rw[←C];exact Qf r (show(e.1,e.2)∈x.kn from g)
  rw[N];refine hr.push (F:=λb=>u.size<=b) (vs:=nv (b4 e)) (λb E=>by have:=ew.1;omega) rfl rfl (by simp[nv,dQ]) O O λs' w' ab S X=>?_;have e3:bK u w':=Ext.fresh ew S λb E=>E;refine cP (m:=i+1) O O ⟨⟨i+1,rfl,O,e3,?_⟩,O⟩;have:jv (((d.take (i+1)).map f).map b4)=jv (((d.take i).map f).map b4)++nv (b4 e):=by
   unfold jv;rw[k7,hx,jY,jY,List.flatMap_append];simp only[AB,zS,qs,oY,List.flatMap_nil,kX,W]
  rw[this];exact X
 ·have Y:i=d.length:=by omega
  subst Y;rw[mV]at hr;have j:(d.map f).Perm x.kn:=by
   have J:=Q.map f;rw[k6]at J;have K:x.kn.map (f∘λe=>e.1)=x.kn:=by
    conv=>rhs;rw[←uk x.kn]
    exact j5 λe g=>M e g
   rwa [K]at J
  refine hR out w (d.map f) (aa.trans ew) ⟨j,?_⟩ (aI.mono hr λb _ E=>by
   show U.size<=b;have E:u.size<=b:=E;omega)
  rw[sR];exact(A.and B).imp λ{a b} ⟨J,K⟩=>by
   have h3:a≠b:=K;show a<b;omega
end Go.Ar
namespace Go.Proofs
open Go.Vc
set_option maxRecDepth 100000
def WJ.h:Hn:=.q .o2 (.q .o4 (.q (.q .o2 .aJ) (.q .o6 (.q (.q .o1 (.k (.loop [(7,.I)] (.q (.q .o4 (.c .l .l)) (.q (.k (.q (.cR (.held true [9] (.tk [0,1,2,3,4,5,6,7,8] (.all [(9,.tk [10,11,12,13,14] (.done))])))) (.q (.cR (.seq [.op,.op,.op,.op,.cX false 2 [.op,.op]])) .aK))) .o3))))) (.q (.cR (.seq [.op,.op,.op,.op,.op,.op,.op,.op,.cX true 1 [.op],.op])) .l)))))
def WJ.v (a b c d e f:Int)(g:Sl)(h:Hp)(i:aO):Prop:=aV #[.I a,.I b,.I c,.I d,.I e,.I f] 25 h λj k=>aQ j 0 k λl=>aQ j 1 k λm=>aQ j 2 k λn=>aQ j 3 k λo=>aQ j 4 k λp=>aQ j 5 k λq=>XK.c l m n o p q g 60 k λr s=>If r.isNone (W8.c s λt u=>i t u) (bF r 0 s λw=>YD.c w s λx y=>Yo [bN] (λz=>z 0 y) λaa (ab:Int) ac=>If (ab<((x.len:Nat):Int)) (eL ac λad=>bU r λae=>aU ad ae 0 λaf=>Ix x.a x.len ab 4 λag=>aS ad ag 0 λah=>Xk.c af ah ac λai aj ak=>bW (λal am=>If al (i false am) (bL (ab+1) λan=>aa an am)) λao=>If (((ai.len:Nat):Int)>0) (ao true ak) (ao (aj != 0) ak)) (bF r 0 ac λaq=>Xz.c aq ac λar au=>bW (λav aw=>i av aw) λax=>If (((ar.len:Nat):Int)==0) (W8.c au λay az=>ax ay az) (ax false au)))
theorem WJ.o {a b c d e f g h i}(j:WJ.v a b c d e f g h i):WJ.c a b c d e f g h i:=Wa Tryz.func4 (x:=WJ.h) (R0 j)
end Go.Proofs
namespace Go.Ar
open Go Go.Vc Go.Proofs
open Go.Vc (bV dB cT)
variable {U w w':Hp}{l:Sl}{ds:List fQ}
set_option maxRecDepth 16000 in
theorem Ii (gl:Gl U)(gc:Gc U)(b b1 b2 b3 b4 b5:Int)(hd:jo U l ds){R:aO}(hR:∀σ',bK U σ'->R true σ'):WJ.c b b1 b2 b3 b4 b5 l U R:=by
 refine WJ.o ?_;unfold WJ.v;refine nw (cs:=[.int .i64 b,.int .i64 b1,.int .i64 b2,.int .i64 b3,.int .i64 b4,.int .i64 b5]) λv hz e C=>C.rI rfl (C.rI rfl (C.rI rfl (C.rI rfl (C.rI rfl (C.rI rfl ?_)))));refine IC (gl.bO e) (gc.bO e) b b1 b2 b3 b4 b5 (hd.bO e) 60 aB (λv1 e1=>?_) λv1 xb L H Y s0 P gb km fm x Qa Ql M ad ls la o d hno=>cB rfl ?_
 ·exact cE rfl (Dc (gl.bO (e.trans e1)) (gc.bO (e.trans e1)) λv2 e2=>hR v2 ((e.trans e1).trans e2))
 have E:=e.trans o.p.e;have n0:=d.n0;have nl:=d.nl;refine aG (o.b.rP rfl (Jl o.p d.g.i O λs v3 A Z D r=>?_));have hsl:s.len=A.length:=by have:=r.1;rw[BP,zl]at this;omega
 have hel:=D.p.length_eq;refine ZY (a:=bN) (λ(z:Int) u=>bK v3 u/\∃i:Nat,z=i/\i<=A.length) (λz _=>A.length-z.toNat) ⟨Ext.refl _ _,0,rfl,O⟩ ?_;rintro(z:Int) u ⟨eu,i,rfl,hi⟩;have w:=(o.fr Z).fr eu;refine cQ (λhlt=>?_) λhge=>?_
 ·have N:A[i]?=some (A[i]' O):=cV _;generalize (A[i]' O)=k at N;have F:k∈x.kn:=D.p.mem_iff.1 (zG N);have S:(A.map Go.Ar.b4)[i]?=some (Go.Ar.b4 k):=by rw[zd,N];rfl
  have V:=aI.bO (aI.cut r) eu;refine⟨λm=>bK u m,Ext.refl _ _,aG (iE (c:=.p) (y:=some ⟨gb,0,none⟩) (λm e=>e.bT w.b id) rfl (NU (bR.gZ V) S λX oo hc=>?_))⟩;have W:X<u.size:=by
   have:=hc 0 _ rfl;unfold cell at this;split at this
   ·rename_i h;exact(zt.1 h).1
   ·cases this
  refine⟨k.1,λm em=>?_,?_⟩
  ·rw[add_lit];show cell m ⟨X,oo+0,none⟩=some (.int .i64 k.1);rw[QP em W id,hc 0 _ rfl,(d.g.i k F).1];rfl
  ·refine G2 w.p d.g.i k.1 λJ u2 Q e2 j _=>?_;have hm:bV x.kn k.1=some k.2:=Qf d.g.nd (show(k.1,k.2)∈x.kn from F);have h1:vG H x k.1=[]:=by
    unfold vG;rw[hm];simp only;rw[d.g.lost w.p.hi F,d.g.broken w.p.hi F];rfl
   have h2:vM H x k.1=0:=by
    unfold vM;rw[hm];simp only;rw[d.g.lost w.p.hi F];rfl
   rw[h1]at j;rw[h2];have B:J.len=0:=by have:=j.1;simp[Wo]at this;omega
   rw[B];exact bW.intro (cB aB (cB aB (cP (m:=i+1) O O ⟨⟨eu.trans e2,i+1,rfl,O⟩,O⟩)))
 ·have G:=d.g.cF w.p.hi;refine aG (w.b.rP rfl (C9 w.p d.g.i (by rw[G];simp) λJ u2 e2 j=>?_));rw[G]at j;obtain⟨Q,K,_⟩:=j aA;have B:J.len=0:=by have:=K.1;simp[Wo]at this;omega
  rw[B];have E2:=((E.trans Z).trans eu).trans e2;exact bW.intro (cE aB (Dc (gl.bO E2) (gc.bO E2) λq eq=>hR q (E2.trans eq)))
end Go.Ar
namespace Go.Ar
open Go Go.Vc Go.Proofs Go.ChangeShapes Go.WideShapes Go.RowKit Go.Deep
theorem HW {H:Type}{enc:TypeId×Value->H}{P:Program}{w:World}{base:Nat}{sp:Nat->Bool}{held:Bool}{fuel:Nat}{t:TypeId}{c:Value}{y:DataW H×List MemPlace}
 (ht:P.underlying t=some .bool) (h:DataW.trod enc P w base sp held fuel t [c]=some y):∃n,c=.bool n/\y=(.lit (.bool n),[]):=by
 cases fuel with
 | zero=>simp[DataW.trod]at h
 | succ fuel=>
  cases c<;>simp[DataW.trod,ht]at h
  rename_i n;exact⟨n,rfl,by simpa using h.symm⟩
theorem BW {P:Program}{w:World}{t:TypeId}{f0 f1:Field}{cs:Array Value}{fuel:Nat}{p:List MemPlace}{x y:Bool}(ht:P.underlying t=some (.struct #[f0,f1]))(hone:oneCellFields P #[f0,f1]=true)(hC:P.cellsOf t=2)
 (h0:P.underlying f0.type=some .bool) (h1:P.underlying f1.type=some .bool) (h:DataW.trod (λ_=>()) P w 0 (λ_=>true) false fuel t cs.toList=some (.agg [.lit (.bool x),.lit (.bool y)],p)):cs = #[.bool x,.bool y]:=by
 obtain⟨s,n,C,j,a,e,b⟩:=DataW.trod_struct ht h;obtain⟨l⟩:=cs;have d:l.length=2:=by rw[←hC];simpa using a
 match l,d with
 | [c0,c1],_=>
  have g:=b 0 f0 rfl;have i:=b 1 f1 rfl;obtain⟨m,r⟩:=hone_of hone 0 f0 rfl;obtain⟨o1,u⟩:=hone_of hone 1 f1 rfl;rw[m,r]at g;rw[o1,u]at i
  match s,e with
  | [y0,y1],_=>
   obtain⟨B,rfl,z⟩:=HW h0 (c:=c0) (y:=y0) (by simpa using g);obtain⟨A,rfl,e1⟩:=HW h1 (c:=c1) (y:=y1) (by simpa using i);subst z;subst e1;simp at j;obtain⟨⟨rfl,rfl⟩,_⟩:=j;rfl
theorem Hb {w:World}{a:Addr}{v:Value}(h:w.cell? a=some v):cell w.heap a=some v:=h
end Go.Ar