/- Texts joined. -/
import Derived.Shelf.SlSortCmp.NoneTotal
import Derived.Ground.SlsfProg
import Derived.Test.YteihenagckcobaaGreatDoorProg
import Derived.Shelf.SlIterI.Nil
import Derived.Ground.GgzProg
import Derived.Test.YteihenagckcobaaGreatDoorO6
set_option linter.unusedVariables false
set_option linter.unusedSimpArgs false
namespace Go.Ar
open Go Go.Vc Go.Proofs
variable {U w:Hp}
def mr:Nat->Int->Int->List T3
 | 0,_,_=>[]
 | n+1,s,w=>if s<512 then kR s w::mr n (s+wH s w) w else[]
def allM (w:Int):List T3:=mr 64 8 w++[kR 512 w]
def oQ (l:List T3)(i:Nat):Bool:=i==l.length-1||(match l[i]?,l[i+1]? with
 | some x,some y=>x.2.1 != y.2.1||mg x != mg y
 | _,_=>false)
def lG (l:List T3)(n:Nat):List T3:=(List.range n).filterMap λi=>if oQ l i then l[i]? else none
def qx (w:Int):List T3:=lG (allM w) (allM w).length
def sR (x:T3):Prop:=8<=x.1/\x.1<=512/\1<=x.2.1/\x.2.1<=4
theorem F8 (s w:Int)(h1:8<=s)(h2:s<=512):sR (kR s w):=⟨h1,h2,Mu s w 4⟩
theorem sG {Q:Rg}{s:Sl}{l:List T3}{e1 e2:Nat}(ho:Go.Vc.Own Q U s 3 (j4 l))(hQ:∀b,U.size<=b->Q b)(hl:l.length<=1000)(x:T3){K:Sl->Hp->Prop}(hK:∀s' σ',Ext Q U σ'->Go.Vc.Own Q σ' s' 3 (j4 (l++[x]))->K s' σ') :
 Nw (.cells #[.int .i64 x.1,.int .i64 x.2.1,.int .i64 x.2.2] e1 (0,0)) U λn20 v3=>App s 3 24 e2 [.int .i64 0,.int .i64 0,.int .i64 0] ⟨some n20,1,1⟩ v3 K:=by
 have i:s.len=l.length:=by have:=ho.1;rw[VK]at this;omega
 refine nw (cs:=v3 x) λv p e a=>?_;refine(ho.bO e).app (ys:=v3 x) (λb a=>hQ b O) rfl rfl ?_ (by simp[v3,dP]) ?_ ?_ mN λs' g _ m d _=>hK s' g ?_ ?_
 ·intro j u hu;rw[add_lit,zH,a.cell];exact hu
 ·simp only;have:(s.len+1)*24<=1001*24:=lW O O;omega
 ·simp only;omega
 ·exact(bK.to e).trans (m.sub λb a=>((ho.bO e).je a).1)
 ·rw[yS];exact d
theorem Io (w:Int)(h:w<2\/16<w){R:Sl->Int->Hp->Prop}(hR:R ⟨none,0,0⟩ 1 U):WP.c w U R:=by
 refine WP.o ?_;unfold WP.v;exact bV.intro (cQ (λa=>cE rfl hR) λa=>cE (zJ O) hR)
theorem Cp (w:Int)(hw1:2<=w)(hw2:w<=16){R:Sl->Int->Hp->Prop}(hR:∀s' σ',bK U σ'->ie σ' s' (qx w)->R s' 0 σ'):WP.c w U R:=by
 refine WP.o ?_;unfold WP.v;refine bV.intro (fR O (cB (zK O) ?_));refine Uw (a:=.s) (bb:=bN) (λ(all:Sl) (s:Int) u=>∃(n:Nat) (done:List T3),8<=s/\s<=768/\bK U u/\Go.Vc.Own (λb=>U.size<=b) u all 3 (j4 done)/\done++mr n s w=mr 64 8 w/\512<=s+8*(n:Int)/\(∀x∈done,sR x)/\done.length+n=64) (λ_ s _=>1000-s.toNat) ⟨64,[],O,O,Ext.refl _ _,Own.nil _ _ _,rfl,O,by simp,by simp⟩ ?_;rintro(all:Sl) (s:Int) u ⟨n,done,hs1,hs2,eu,ho,hdone,hn,hok,hlen⟩;refine cQ (λS=>?_) λW=>?_
 ·obtain⟨n,rfl⟩:∃m,n=m+1:=⟨n-1,O⟩;refine EW s w O O hw1 hw2 λv2 e2=>?_;refine sG (ho.bO e2) (λb E=>by have:=eu.1;have:=e2.1;omega) O (kR s w) λall1 v4 e4 h4=>?_;have e04:bK U v4:=Ext.dT (eu.trans e2) e4 λb E=>.inr E;refine Le s w O O hw1 λd1 d2=>ar O O ⟨⟨n,done++[kR s w],O,O,e04,h4,?_,O,λx B=>?_,by simp;omega⟩,O⟩
  ·rw[←hdone,ka]
   congr 1
   conv=>rhs;rw[mr,zC S]
   rfl
  ·rcases zL.1 B with h1|h1
   ·exact hok x h1
   ·rw[zN]at h1;subst h1;exact F8 s w O O
 ·have N:mr n s w=[]:=by
   cases n with
   | zero=>rfl
   | succ n=>rw[mr,zB W]
  rw[N,kV]at hdone;refine EW 512 w O O hw1 hw2 λv6 e6=>?_;refine sG (ho.bO e6) (λb E=>by have:=eu.1;have:=e6.1;omega) O (kR 512 w) λe v8 e8 J=>?_;have e08:bK U v8:=Ext.dT (eu.trans e6) e8 λb E=>.inr E;rw[hdone]at J;have j:∀x∈allM w,sR x:=λx B=>by
   rcases zL.1 B with h1|h1
   ·rw[←hdone]at h1;exact hok x h1
   ·rw[zN]at h1;subst h1;exact F8 512 w O O
  have hml:(allM w).length<=65:=by unfold allM;rw[←hdone];simp;omega
  have J:Go.Vc.Own (λb=>U.size<=b) v8 e 3 (j4 (allM w)):=J;generalize hall:allM w=l at J j hml;have hmk:qx w=lG l l.length:=by unfold qx;rw[hall]
  have hl2:e.len=l.length:=by have:=J.1;rw[VK]at this;omega
  refine Uw (a:=.s) (bb:=bN) (λ(out:Sl) (z:Int) u=>∃i:Nat,z=(i:Int)/\i<=l.length/\bK v8 u/\Go.Vc.Own (λb=>v8.size<=b) u out 3 (j4 (lG l i))/\(lG l i).length<=i) (λ_ z _=>l.length-z.toNat) ⟨0,rfl,O,Ext.refl _ _,Own.nil _ _ _,by simp[lG]⟩ ?_;rintro(out:Sl) (z:Int) u ⟨i,rfl,hi,eu8,hout,hol⟩;refine cQ (λS=>?_) λW=>?_
  ·have hi':i<l.length:=by omega
   have B:l[i]?=some l[i]:=cU hi';generalize l[i]=x at B;have D:=j x (zG B);have g:lG l (i+1)=lG l i++(if oQ l i then[x]else[]):=by
    unfold lG;rw[pR,wk]
    congr 1
    by_cases hk:oQ l i=true
    ·simp[hk,B]
    ·simp[hk]
   have hA:∀m,bK u m->ie m e l:=λm d=>DF (J.bO (eu8.trans d));refine wa (λr u'=>bK u u'/\r=oQ l i) (λr u' ⟨A,Y⟩=>?_) λJ3 F=>?_
   ·have X:=hout.bO A;cases hk:oQ l i with
    | true=>
     rw[hk]at Y g;refine cE Y (xq (hA u' A) B ?_);refine sG X (λb E=>by have:=eu8.1;have:=A.1;omega) O x λout1 v12 e12 h12=>?_;refine cP (m:=i+1) O O ⟨⟨i+1,rfl,O,Ext.dT (eu8.trans A) e12 λb E=>.inr E,?_,?_⟩,O⟩
     ·rw[g];exact h12
     ·rw[g];simp;omega
    | false=>
     rw[hk]at Y g;refine cB Y (cP (m:=i+1) O O ⟨⟨i+1,rfl,O,eu8.trans A,?_,?_⟩,O⟩)
     ·rw[g];simpa using X
     ·rw[g];simp;omega
   ·refine⟨λm=>bK u m,Ext.refl _ _,ar O O ?_⟩;refine cO (λG=>F _ _ ⟨Ext.refl _ _,?_⟩) λhnl=>?_
    ·have:i=l.length-1:=by simp only[zT]at G;omega
     unfold oQ;rw[this];simp
    ·have hi2:i+1<l.length:=by simp only[ma]at hnl;omega
     have Z:l[i+1]?=some l[i+1]:=cU hi2;generalize l[i+1]=y at Z;have C:=j y (zG Z);have P:oQ l i=(x.2.1 != y.2.1||mg x != mg y):=by
      unfold oQ;rw[B,Z];have:(i==l.length-1)=false:=by simp only[ma];omega
      rw[this];rfl
     have L:=λ(m:Hp) (d:bK u m)=>(hA m d).2 i x.1 x.2.1 x.2.2 B;have hcy:=λ(m:Hp) (d:bK u m)=>(hA m d).2 (i+1) y.1 y.2.1 y.2.2 Z;obtain⟨b,o,ha,_,_⟩:=L u (Ext.refl _ _);have rx:∀m,bK u m->cell m ⟨b,o+i*3,none⟩=some (.int .i64 x.1)/\cell m ⟨b,o+i*3+1,none⟩=some (.int .i64 x.2.1)/\cell m ⟨b,o+i*3+2,none⟩=some (.int .i64 x.2.2):=λm d=>by
      obtain⟨b',o',p,_,h⟩:=L m d;rw[ha]at p;cases p;exact h
     have ry:∀m,bK u m->cell m ⟨b,o+(i+1)*3,none⟩=some (.int .i64 y.1)/\cell m ⟨b,o+(i+1)*3+1,none⟩=some (.int .i64 y.2.1)/\cell m ⟨b,o+(i+1)*3+2,none⟩=some (.int .i64 y.2.2):=λm d=>by
      obtain⟨b',o',p,_,h⟩:=hcy m d;rw[ha]at p;cases p;exact h
     have V:∀{K:Addr->Prop},K ⟨b,o+i*3,none⟩->Ix e.a e.len (i:Int) 3 K:=λhK=>by
      rw[ha];exact ix O O (by rw[add_lit,dE];exact hK)
     have M:∀{K:Addr->Prop},K ⟨b,o+(i+1)*3,none⟩->Ix e.a e.len ((i+1:Nat):Int) 3 K:=λhK=>by
      rw[ha];exact ix O O (by rw[add_lit,dE];exact hK)
     refine V ⟨x.2.1,λm d=>by rw[add_lit];exact(rx m d).2.1,cP (m:=i+1) O O (M ⟨y.2.1,λm d=>by rw[add_lit];exact(ry m d).2.1,?_⟩)⟩;refine cO (λhp=>F _ _ ⟨Ext.refl _ _,by rw[P,hp];rfl⟩) λhp=>?_;refine V ⟨x.1,λm d=>by rw[add_lit];exact(rx m d).1,⟨x.2.1,λm d=>by rw[add_lit];exact(rx m d).2.1,⟨x.2.2,λm d=>by rw[add_lit];exact(rx m d).2.2,?_⟩⟩⟩;refine cP (m:=i+1) O O (M ⟨y.1,λm d=>by rw[add_lit];exact(ry m d).1,⟨y.2.1,λm d=>by rw[add_lit];exact(ry m d).2.1,⟨y.2.2,λm d=>by rw[add_lit];exact(ry m d).2.2,?_⟩⟩⟩);refine DY x D.1 D.2.1 D.2.2.1 D.2.2.2 λv13 H=>⟨H,DY y C.1 C.2.1 C.2.2.1 C.2.2.2 λv14 Q=>⟨H.trans Q,F _ _ ⟨H.trans Q,by rw[P,hp];rfl⟩⟩⟩
  ·have hil:i=l.length:=by omega
   subst hil;refine hR out u (e08.trans eu8) ?_;rw[hmk];exact DF hout
theorem Hq:∀w:Nat,2<=w->w<=16->Qf (qx (w:Int))=true:=by
 have h:((List.range 17).all λw=>decide (w<2)||Qf (qx (w:Int)))=true:=by decide +kernel
 intro w h1 h2;have:=j6.1 h w (zg.2 O);simp only[nm,zU]at this;exact this.resolve_left O
end Go.Ar
namespace Go.Proofs
open Go.Shelf
def Tryz.eM:Go.Shelf.Ren:=⟨fun|6=>263|15=>87|14=>291|28=>128|29=>129|20=>311|21=>312|22=>313|23=>314|24=>315|25=>316|26=>317|27=>318|46=>324|47=>185|48=>186|49=>325|50=>326|57=>328|n=>n,fun|22=>129|24=>135|25=>341|3=>3|39=>145|0=>0|53=>196|55=>55|4=>4|46=>188|45=>187|50=>193|5=>5|9=>9|66=>271|70=>275|76=>324|77=>325|n=>n,fun|n=>n⟩
theorem Tryz.oU:Go.Proofs.SlLaysF0.n6 Tryz.prog Tryz.eM:={
 mixed:=by kernel_rfl
 f6:=⟨Tryz.f263.name,by decide,Tryz.func263.trans (congrArg some (by kernel_rfl))⟩
 f14:=⟨Tryz.f291.name,by decide,Tryz.func291.trans (congrArg some (by kernel_rfl))⟩
 f15:=Tryz.func87.trans (congrArg some (by kernel_rfl))
 f20:=⟨Tryz.f311.name,by decide,Tryz.func311.trans (congrArg some (by kernel_rfl))⟩
 f21:=⟨Tryz.f312.name,by decide,Tryz.func312.trans (congrArg some (by kernel_rfl))⟩
 f22:=⟨Tryz.f313.name,by decide,Tryz.func313.trans (congrArg some (by kernel_rfl))⟩
 f23:=⟨Tryz.f314.name,by decide,Tryz.func314.trans (congrArg some (by kernel_rfl))⟩
 f24:=⟨Tryz.f315.name,by decide,Tryz.func315.trans (congrArg some (by kernel_rfl))⟩
 f25:=⟨Tryz.f316.name,by decide,Tryz.func316.trans (congrArg some (by kernel_rfl))⟩
 f26:=⟨Tryz.f317.name,by decide,Tryz.func317.trans (congrArg some (by kernel_rfl))⟩
 f27:=⟨Tryz.f318.name,by decide,Tryz.func318.trans (congrArg some (by kernel_rfl))⟩
 f28:=Tryz.func128.trans (congrArg some (by kernel_rfl))
 f29:=Tryz.func129.trans (congrArg some (by kernel_rfl))
 f46:=⟨Tryz.f324.name,by decide,Tryz.func324.trans (congrArg some (by kernel_rfl))⟩
 f47:=Tryz.func185.trans (congrArg some (by kernel_rfl))
 f48:=Tryz.func186.trans (congrArg some (by kernel_rfl))
 f49:=⟨Tryz.f325.name,by decide,Tryz.func325.trans (congrArg some (by kernel_rfl))⟩
 f50:=⟨Tryz.f326.name,by decide,Tryz.func326.trans (congrArg some (by kernel_rfl))⟩
 f57:=⟨Tryz.f328.name,by decide,Tryz.func328.trans (congrArg some (by kernel_rfl))⟩
 t0:=Tryz.underlying0
 a0:=Tryz.isAgg0
 z0:=Tryz.sizeOf0
 v0:=Tryz.zeroValue0
 t3:=Tryz.underlying3
 a3:=Tryz.isAgg3
 z3:=Tryz.sizeOf3
 v3:=Tryz.zeroValue3
 t4:=Tryz.underlying4
 a4:=Tryz.isAgg4
 z4:=Tryz.sizeOf4
 v4:=Tryz.zeroValue4
 t5:=Tryz.underlying5
 a5:=Tryz.isAgg5
 z5:=Tryz.sizeOf5
 v5:=Tryz.zeroValue5
 t9:=Tryz.underlying9
 a9:=Tryz.isAgg9
 z9:=Tryz.sizeOf9
 v9:=Tryz.zeroValue9
 t22:=Tryz.underlying129
 a22:=Tryz.isAgg129
 z22:=Tryz.sizeOf129
 v22:=Tryz.zeroValue129
 t25:=Tryz.underlying341
 a25:=Tryz.isAgg341
 z25:=Tryz.sizeOf341
 v25:=Tryz.zeroValue341
 t39:=Tryz.underlying145
 a39:=Tryz.isAgg145
 z39:=Tryz.sizeOf145
 v39:=Tryz.zeroValue145
 t45:=Tryz.underlying187
 a45:=Tryz.isAgg187
 z45:=Tryz.sizeOf187
 v45:=Tryz.zeroValue187
 t46:=Tryz.underlying188
 a46:=Tryz.isAgg188
 z46:=Tryz.sizeOf188
 v46:=Tryz.zeroValue188
 t50:=Tryz.underlying193
 a50:=Tryz.isAgg193
 z50:=Tryz.sizeOf193
 v50:=Tryz.zeroValue193
 t53:=Tryz.underlying196
 a53:=Tryz.isAgg196
 z53:=Tryz.sizeOf196
 v53:=Tryz.zeroValue196
 t55:=Tryz.underlying55
 a55:=Tryz.isAgg55
 z55:=Tryz.sizeOf55
 v55:=Tryz.zeroValue55
 t66:=Tryz.underlying271
 a66:=Tryz.isAgg271
 z66:=Tryz.sizeOf271
 v66:=Tryz.zeroValue271
 t70:=Tryz.underlying275
 a70:=Tryz.isAgg275
 z70:=Tryz.sizeOf275
 v70:=Tryz.zeroValue275
 t76:=Tryz.underlying324
 a76:=Tryz.isAgg324
 z76:=Tryz.sizeOf324
 v76:=Tryz.zeroValue324
 t77:=Tryz.underlying325
 a77:=Tryz.isAgg325
 z77:=Tryz.sizeOf325
 v77:=Tryz.zeroValue325}
end Go.Proofs
namespace Go.Ar
open Go Go.Vc Go.Proofs Go.RowKit Go.Sort Go.Shelf Go.Lib
abbrev sv:=Fin 64×Sl
instance:Inhabited sv:=⟨(0,⟨none,0,0⟩)⟩
def kq (x:sv):List Value:=[.int .i64 (x.1.val:Int),.slice x.2.a x.2.len x.2.cap]
def oR (x y:sv):Int:=(x.1.val:Int)-(y.1.val:Int)
theorem BF (x y:sv)(W:World):Calls Tryz.prog 264 #[.agg #[.int .i64 (x.1.val:Int),.slice x.2.a x.2.len x.2.cap],.agg #[.int .i64 (y.1.val:Int),.slice y.2.a y.2.len y.2.cap]] W λe w'=>e=.returned (.int .i64 (oR x y))/\∃q os',w'=grow (W.drewN q) os':=by
 have d:IntKind.i64.wrap ((x.1.val:Int)-(y.1.val:Int))=oR x y:=by
  have g:=x.1.isLt;have b:=y.1.isLt;unfold oR;exact Uo O O
 go_enter Tryz.func264,Tryz.ntmps264
 go_wp2
 go_ret
 exact⟨rfl,0,_,by rw[alloc_eq_grow,alloc_eq_grow,grow_grow];rfl⟩
theorem Az:SWO (ltOf oR) where
 irrefl x:=by simp[ltOf,oR]
 trans x y z a h2:=by
  have a:=sL a;have h2:=sL h2;unfold oR at a h2;exact zJ (by unfold oR;omega)
 ntrans x y z a h2:=by
  have a:=wg a;have h2:=wg h2;unfold oR at a h2;exact zK (by unfold oR;omega)
def sP (x:sv):Nat×Sl:=(x.1.val,x.2)
theorem F3 (l:List sv)(j:Nat)(hj:j<l.length*2):(fD (l.map sP))[j]?=some (flatK kq 2 l.toArray)[j]! := by
 rw[get_flatK _ _ _ _ (by simpa using hj)];have a:j/2<l.length:=by omega
 have e1:l.toArray[j/2]! = l[j/2]:=by rw[getElem!_pos _ _ (by simpa using a)];simp
 have b:(l.map sP)[j/2]?=some (sP l[j/2]):=by simp[a]
 have:=Il b (d:=j%2) O;rw[show 2*(j/2)+j%2=j by omega]at this;rw[this,e1];have hd:j%2=0\/j%2=1:=by omega
 rcases hd with h|h<;>rw[h]<;>rfl
theorem Fx:H8:=by
 intro U F s xs hrow hk hlen R hR;rintro w rfl;have W:s.len=xs.length:=by have:=hrow.1;rw[Kx]at this;omega
 rcases hrow.2 with⟨h0,hc0⟩|⟨b,cs,hF,ha,hb,hle,hcl,ht⟩
 ·have K:xs=[]:=u9.1 O;have:=AnyF.slices_SortFunc_none Tryz.oU s.a s.cap (.func (.func 264) #[] #[]) w;show Calls _ _ #[.slice s.a s.len s.cap,.func (.func 264) #[] #[]] w _;rw[h0];refine this.mono ?_;rintro e w' ⟨rfl,rfl⟩;subst K;exact⟨.refl _,[],rfl,hR [] _ (.refl _) List.Pairwise.nil (Ext.refl _ _) hrow⟩
 ·have M:∀x∈xs,x.1<64:=hk
  let toK:Nat×Sl->sv:=λx=>(Fin.ofNat 64 x.1,x.2)
  have r:(xs.map toK).map sP=xs:=by
   rw[lb]
   conv=>rhs;rw[←uQ xs]
   apply j2;intro x hx;simp only[Function.comp,toK,sP,Fin.ofNat,id];rw[uq (M x hx)]
  have N:(xs.map toK).length=xs.length:=by simp
  generalize xs.map toK=l at r N;have B:=hb.lt;have Y:HoldsK kq 2 w b 0 l.toArray:=by
   intro j hj;simp only[size_flatK,xV]at hj;have V:Vc.cell w.heap ⟨b,0+j,none⟩=some (flatK kq 2 l.toArray)[j]! := by
    rw[hb.cell,zH,←F3 l j hj,r];rw[←ht,zj,zC (by rw[Kx];omega)]
   exact⟨V,hb.nr⟩
  have eg:∀args w,(callFunc 264 args).run Tryz.prog w=.ok (.enter 264 args) w:=enters_of Tryz.func264 (by kernel_rfl) rfl;have A:∀w,(isAgg (Tryz.eM.t 24)).run Tryz.prog w=.ok true w:=λw=>by
   have h:=KB (P:=Tryz.prog) (t:=Tryz.eM.t 24) (d:=(Tryz.prog.underlying (Tryz.eM.t 24)).getD .bool) (by kernel_rfl) w
   rwa [show Ua ((Tryz.prog.underlying (Tryz.eM.t 24)).getD .bool)=true by kernel_rfl]at h
  have E:∀w,(Go.sizeOf (Tryz.eM.t 24)).run Tryz.prog w=.ok 2 w:=λw=>by
   have h:=QF (P:=Tryz.prog) (t:=Tryz.eM.t 24) (by kernel_rfl) w
   rwa [show Tryz.prog.cellsOf (Tryz.eM.t 24)=2 by kernel_rfl]at h
  have C:=AnyQ.slices_SortFunc Tryz.oU 2 A E kq (λ_=>rfl) (λx v Q=>by simp only[kq,zW,List.not_mem_nil,or_false]at Q;rcases Q with rfl|rfl<;>rfl) oR Az 264 #[] b 0 s.cap l.toArray w eg (λ_ _ _ _ x y=>BF x y _) Y B (by simp only[xV];omega)
  show Calls _ _ #[.slice s.a s.len s.cap,.func (.func 264) #[] #[]] w _;rw[ha,show s.len=l.toArray.size by simp only[xV];omega];refine C.mono ?_;rintro e w' ⟨rfl,d',n,os,S,L,rfl⟩;have g:d'.size=l.length:=by simpa using S.1
  have u:d'.toList.Perm l:=by
   have J:=S.2.2;rw[show l.toArray.size=d'.size by simp[g]]at J;have e1:(d'.extract 0 d'.size)=d':=by simp
   have e2:(l.toArray.extract 0 d'.size)=l.toArray:=by rw[g];simp
   rw[e1,e2]at J;simpa using J
  obtain⟨X,G⟩:=hb;have m:(sortWorldK kq 2 w b 0 n d' os).heap=(w.heap.modify b (onCells (putCells id 0 (flatK kq 2 d'))))++os:=rfl;have p:(w.heap.modify b (onCells (putCells id 0 (flatK kq 2 d')))).size=w.heap.size:=by simp
  refine⟨⟨rfl,rfl,rfl,by rw[m,xM,p];omega⟩,[],rfl,?_⟩;rw[m];have z:Ext F w.heap ((w.heap.modify b (onCells (putCells id 0 (flatK kq 2 d'))))++os):=by
   refine⟨by rw[xM,p];omega,λq Z hf=>?_⟩;rw[tB (by rw[p];exact Z),uu,zB λ(e:b=q)=>hf (by rw[←e];exact hF)]
  refine hR (d'.toList.map sP) _ ?_ ?_ z ⟨?_,.inr ⟨b,(putCells id 0 (flatK kq 2 d') cs.toArray).toList,hF,ha,⟨X,?_⟩,hle,?_,?_⟩⟩
  ·rw[←r];exact u.map _
  ·rw[r5];rw[l0];intro i j hi hj hij;have D:=L i j O hij (by simp only[vX]at hj;simp only[xV];omega);rw[getElem!_pos d' i (by simpa using hi),getElem!_pos d' j (by simpa using hj)]at D;have D:=wg D;unfold oR at D;simp only[sP,Array.getElem_toList];omega
  ·rw[Kx,zl,vX,g];omega
  ·rw[tB (by rw[p];exact B),uu,zC rfl,G];simp[onCells]
  ·simp[putCells,hcl]
  ·rw[Kx,zl,vX,g];apply zo;intro j;rw[zj];by_cases hj:j<l.length*2
   ·rw[zC hj,F3 d'.toList j (by simpa[g]using hj)];have H:j<cs.length:=by
     have:l.length*2<=s.cap*2:=lU _ O;omega
    simp only[putCells,wM,Array.getElem?_mapIdx,List.getElem?_toArray,cU H,zX];rw[zC ⟨O,by rw[size_flatK,g];omega⟩];simp
   ·rw[zB hj,zV (by rw[Kx,zl,vX,g];omega)]
end Go.Ar
namespace Go.Proofs
open Go.Vc
set_option maxRecDepth 100000
def XI.h:Hn:=.q .o2 (.q (.q (.cR (.seq [.op,.op,.op,.cX false 3 (RI.ops 3)])) .aK) (.q .o3 (.q (.q .o2 .aK) (.q (.q .o1 (.k (.loop [(8,.I)] (.q (.q .o4 (.c .l .l)) (.q (.k .o6) .o3))))) .aL))))
def XI.v (a b c d e f:Int)(g:Sl)(h:Int)(i:Hp)(j:Option Addr->Hp->Prop):Prop:=aV #[.I a,.I b,.I c,.I d,.I e,.I f] 25 i λk l=>aQ k 0 l λm=>aQ k 1 l λn=>aQ k 2 l λo=>aQ k 3 l λp=>aQ k 4 l λq=>aQ k 5 l λr=>WH.c m n o p q r l λs t=>bV (λu v=>If u (j none v) (aQ k 0 v λw=>aQ k 1 v λx=>aQ k 2 v λy=>aQ k 3 v λz=>aQ k 4 v λaa=>aQ k 5 v λab=>Xs.c w x y z aa ab v λac ad=>If ac.isNone (j none ad) (X9 [bN] (λae=>ae 0 ad) λaf (ag:Int) ah=>If (ag<((g.len:Nat):Int)) (Ix g.a g.len ag 8 λai=>aQ ai 0 ah λaj=>aQ ai 1 ah λak=>aQ ai 2 ah λal=>aQ ai 3 ah λam=>aQ ai 4 ah λan=>aQ ai 5 ah λao=>aQ ai 6 ah λap=>bC ai 7 ah λaq=>Xe.c ac aj ak al am an ao ap aq ah λar au=>bL (ag+1) λav=>af av au) (j ac ah)))) λaw=>If s (aw true t) (XK.c g h t λax ay=>aw ax ay)
theorem XI.o {a b c d e f g h i j}(k:XI.v a b c d e f g h i j):XI.c a b c d e f g h i j:=Wa Tryz.func11 (x:=XI.h) (R0 k)
def XK.h:Hn:=.q .o1 (.q .o5 .l)
def XK.v (a:Sl)(b:Int)(c:Hp)(d:aO):Prop:=d (decide (((a.len:Nat):Int)>b)) c
theorem XK.o {a b c d}(e:XK.v a b c d):XK.c a b c d:=Wa Tryz.func12 (x:=XK.h) (R0 e)
def Xc.h:Hn:=.q .o1 (.q .o2 (.q (.q .o2 .aK) (.q .o7 (.q (.q (.cR (.seq [.op,.op,.op,.cX false 2 [.op,.op]])) .aK) (.q .o7 (.q (.q (.cR (.seq [.op,.op,.op,.cX false 2 [.op,.op],.op,.cX false 3 (RI.ops 3)])) .aK) (.q .o8 (.q (.q (.cR (.seq [.op,.op,.op,.cX false 4 (RI.ops 4),.op,.cX false 4 (RI.ops 4),.op,.cX false 3 (RI.ops 3)])) .aK) (.q .o6 (.q (.cR (.seq [.op,.op,.op,.cX true 2 [.op,.op],.op,.cX true 4 (RI.ops 4),.op,.cX true 4 (RI.ops 4),.op])) .l))))))))))
def Xc.v (a:Hp)(b:aO):Prop:=Xq.c a λc d=>If c.isNone (b false d) (Qw.c c d λe f g=>bV (λh i=>If h (b false i) (Xm.c e 0 24 8 i λj k l=>bV (λm n=>bV (λo p=>If o (b false p) (Xw.c e j p λq r s=>bV (λt u=>bV (λv w=>bV (λx y=>If x (b false y) (Xk.c e 4128 7 y λz aa=>Xk.c e 4136 7 aa λab ac=>bV (λad ae=>bV (λaf ag=>bV (λah ai=>b ah ai) λaj=>If af (Xg.c e 0 j ag λak al=>aj (ak==9) al) (aj false ag)) λam=>If ad (Xg.c e 0 j ae λan ao=>am (an==0) ao) (am false ae)) λap=>If (z==0) (ap (ab==7) ac) (ap false ac))) λaq=>If v (aq true w) (W8.c c 4136 (-4137) w λar au=>aq (ar != 0) au)) λav=>If t (av true u) (Xg.c e 0 j u λaw ax=>av (aw != 10) ax)) λay=>If (r != 0) (ay true s) (aV #[.I 4136] 3 s λaz a0=>XG.c q ⟨some az,1,1⟩ a0 λa1 a2=>ay (!a1) a2))) λa3=>If m (a3 true n) (W8.c c 4136 5 n λa4 a5=>a3 (a4 != 0) a5)) λa6=>If (j != 4112) (a6 true l) (a6 (k != 0) l))) λa7=>If (f != 0) (a7 true g) (a7 e.isNone g))
theorem Xc.o {a b}(c:Xc.v a b):Xc.c a b:=Wa Tryz.func13 (x:=Xc.h) (R0 c)
def YL.h:Hn:=.q .o2 (.q (.q (.cR (.seq [.op,.op,.op,.op,.cX false 3 (RI.ops 3)])) (.c (.q .o3 .l) .l)) (.q (.oq 12) .l))
def YL.v (a:Sl)(b c d e f g h:Int)(i:ByteArray)(j:Hp)(k:aN):Prop:=aV #[.I b,.I c,.I d,.I e,.I f,.I g,.I h,.string i] 44 j λl m=>aQ l 4 m λn=>bV (λo p=>If o (aQ l 5 p λq=>k q p) (aQ l 4 p λr=>Nz ((a.len:Nat):Int) <| Ix a.a a.len (r.tmod ((a.len:Nat):Int)) 1 λs=>bM s p λt=>aQ l 5 p λu=>bL (t+u) λv=>k v p)) λw=>If (n<0) (w true m) (w (((a.len:Nat):Int)==0) m)
theorem YL.o {a b c d e f g h i j k}(l:YL.v a b c d e f g h i j k):YL.c a b c d e f g h i j k:=Wa Tryz.func18 (x:=YL.h) (R0 l)
def Xe.h:Hn:=.q .o2 (.q (.cR (.tail 5 (RI.ops 5) [.op,.op])) (.q (.q .o2 (.k (.q .o2 (.c (.q (.cR (.held true [10] (.tk [0,1,2,3,4,5,6,7,8,9] (.all [(10,.tk [11,12,13,14,15] (.done))])))) (.q (.q .o2 (.c (.q (.o 11) (.cR (.held true [15] (.tk [0,1,2,3,4,5,6,7,8,9,10] (.all [(11,.all [(12,.take 13 (.take 14 (.all [(15,.done)])))])]))))) .l)) .aL)) (.kg [(69,.one .b)] (.q .o2 (.c .l .o2)) (.c (.q (.cR (.tail 7 (RI.ops 7) [.op,.op])) (.q (.q .o2 (.c (.q .o1 (.q (.q .o1 (.k (.loop [(9,.one .s),(10,.I)] (.q (.q .o7 (.c .l .l)) (.q (.k (.q .gT (.c (.o 11) .l))) .o3))))) .o5)) .l)) .aL)) (.q .o2 (.c (.q (.o 11) .aL) (.q .o2 (.c .o5 (.q .o2 (.c (.q (.o 11) .aL) (.q .o2 (.c (.q (.cR (.tail 7 (RI.ops 7) [.op,.op])) .l) (.q .o2 (.c (.q (.o 12) .aL) .l)))))))))))))))) .aM))
def Xe.v (a:R2)(b c d e f g h:Int)(i:ByteArray)(j:Hp)(k:aN):Prop:=aV #[.I b,.I c,.I d,.I e,.I f,.I g,.I h,.string i] 44 j λl m=>bE a 1 m λo=>aQ l 0 m λp=>aQ l 1 m λq=>aQ l 2 m λr=>aQ l 3 m λs=>aQ l 4 m λt=>aQ l 5 m λu=>aQ l 6 m λv=>bC l 7 m λw=>YL.c o p q r s t u v w m λx y=>aQ l 0 y λz=>If (z==20) (eI y λaa=>bU a λab=>aU aa ab 0 λac=>aS aa l 1 λad=>aS aa l 2 λae=>aS aa l 3 λaf=>Xm.c ac ad ae af y λag ah ai=>If (ah==0) (bE a 1 ai λak=>aV #[.I ag] 3 ai λal am=>App ak 1 8 3 [.I 0] ⟨some al,1,1⟩ am λan ao=>bU a λap=>aR ap 1 (.slice an.a an.len an.cap) ao λaq=>eI aq λar=>bU a λau=>aT ar au 2 λav=>aS ar l 2 λaw=>aS ar l 3 λax=>aV #[.I ag,.I aw,.I ax] 60 aq λay az=>And (ar az) <| App av 3 24 60 [.I 0,.I 0,.I 0] ⟨some ay,1,1⟩ az λa0 a1=>And (ar a1) <| bU a λa2=>aR a2 2 (.slice a0.a a0.len a0.cap) a1 λa3=>k ah a3) (k ah ai)) (Jn [.b] (λ(a4:Bool) a5=>If a4 (bF a 0 a5 λa7=>aQ l 1 a5 λa8=>Xg.c a7 a8 x a5 λa9 ba=>If (a9==0) (X9 [.s,bN] (λbb=>bb ⟨none,0,0⟩ 0 ba) λbc (bd:Sl) (be:Int) bf=>bE a 2 bf λbh=>
 If (be<((bh.len:Nat):Int)) (bE a 2 bf λbj=>Ix bj.a bj.len be 3 λbk=>aQ bk 0 bf λbl=>If (bl != x) (bE a 2 bf λbn=>Ix bn.a bn.len be 3 λbo=>aQ bo 0 bf λbp=>aQ bo 1 bf λbq=>aQ bo 2 bf λbr=>aV #[.I bp,.I bq,.I br] 60 bf λbs bt=>App bd 3 24 60 [.I 0,.I 0,.I 0] ⟨some bs,1,1⟩ bt λbu bv=>bL (be+1) λbw=>bc bu bw bv) (bL (be+1) λbx=>bc bd bx bf)) (bU a λbz=>aR bz 2 (.slice bd.a bd.len bd.cap) bf λb0=>k a9 b0)) (k a9 ba)) (If (z==23) (bF a 0 a5 λb2=>Xw.c b2 x a5 λb3 b4 b5=>k b4 b5) (If (z==24) (bF a 0 a5 λb7=>Yl.c b7 a5 λb8 b9=>k 0 b9) (If (z==25) (bF a 0 a5 λcb=>YP.c cb x a5 λcc cd ce=>k cd ce) (If (z==26) (bF a 0 a5 λcg=>aQ l 6 a5 λch=>Xk.c cg x ch a5 λci cj=>k ci cj) (If (z==27) (bF a 0 a5 λcl=>YO.c cl x a5 λcm cn co cp cq cr=>aV #[.I 0,.I 0,.I 0,.I 0] 52 cr λcs ct=>aR cs 0 (.I cm) ct λcu=>aR cs 1 (.I cn) cu λcv=>aR cs 2 (.I co) cv λcw=>aR cs 3 (.I cp) cw λcx=>k cq cx) (k 0 a5))))))) λcy=>If (z==21) (cy (z==21) y) (cy (z==22) y))
theorem Xe.o {a b c d e f g h i j k}(l:Xe.v a b c d e f g h i j k):Xe.c a b c d e f g h i j k:=Wa Tryz.func19 (x:=Xe.h) (R0 l)
def Xq.h:Hn:=.q .o1 (.q .o4 .l)
def Xq.v (a:Hp)(b:Option Addr->Hp->Prop):Prop:=Wv.c 8 64 1 1 1024 2 a λc d=>b c d
theorem Xq.o {a b}(c:Xq.v a b):Xq.c a b:=Wa Tryz.func37 (x:=Xq.h) (R0 c)
def WH.h:Hn:=.q .o2 (.q .o5 .l)
def WH.v (a b c d e f:Int)(g:Hp)(h:aO):Prop:=aV #[.I a,.I b,.I c,.I d,.I e,.I f] 25 g λi j=>bM ((i.add 1).add 0) j λk=>h (decide (k>128)) j
theorem WH.o {a b c d e f g h}(i:WH.v a b c d e f g h):WH.c a b c d e f g h:=Wa Tryz.func38 (x:=WH.h) (R0 i)
def Xs.h:Hn:=.q .o2 (.q .o3 (.q (.q .o2 .aK) (.q .o7 (.q (.q (.cR (.seq [.op,.op,.op,.cX false 2 [.op,.op]])) .aK) (.q .o4 .l)))))
def Xs.v (a b c d e f:Int)(g:Hp)(h:Option Addr->Hp->Prop):Prop:=aV #[.I a,.I b,.I c,.I d,.I e,.I f] 25 g λi j=>aQ i 0 j λk=>aQ i 1 j λl=>aQ i 2 j λm=>aQ i 3 j λn=>aQ i 4 j λo=>aQ i 5 j λp=>Wv.c k l m n o p j λq r=>If q.isNone (h none r) (Qw.c q r λs t u=>bV (λv w=>If v (h none w) (aV #[.pointer s,.slice none 0 0,.slice none 0 0] 37 w λx y=>h (some x) y)) λz=>If (t != 0) (z true u) (z s.isNone u))
theorem Xs.o {a b c d e f g h}(i:Xs.v a b c d e f g h):Xs.c a b c d e f g h:=Wa Tryz.func39 (x:=Xs.h) (R0 i)
def Wv.h:Hn:=.q .o2 (.q .o8 (.q .o9 (.q (.q .o2 .aK) .aL)))
def Wv.v (a b c d e f:Int)(g:Hp)(h:Option Addr->Hp->Prop):Prop:=aV #[.I a,.I b,.I c,.I d,.I e,.I f] 25 g λi j=>aQ i 0 j λk=>WP.c k j λl m n=>bM ((i.add 1).add 0) n λo=>bM ((i.add 1).add 1) n λp=>bM ((i.add 1).add 2) n λq=>bM ((i.add 1).add 3) n λr=>bM ((i.add 1).add 4) n λs=>Ko.c l o p q r s n λt u v=>If (u != 0) (h none v) (h t v)
theorem Wv.o {a b c d e f g h}(i:Wv.v a b c d e f g h):Wv.c a b c d e f g h:=Wa Tryz.func69 (x:=Wv.h) (R0 i)
end Go.Proofs
namespace Go.Ar
open Go Go.Vc Go.Proofs
variable {U w w':Hp}{F P Q:Rg}{L:dJ}{H H':Hw}{held:List Pc}{s0:Sp}{t n:Nat}{g:Th}
structure fP where
 kd:Int
 th:Int
 a:Int
 b:Int
 of:Int
 pl:Int
 va:Int
 s:ByteArray
def qA (d:fP):List Value:=[.int .i64 d.kd,.int .i64 d.th,.int .i64 d.a,.int .i64 d.b,.int .i64 d.of,.int .i64 d.pl,.int .i64 d.va,.string d.s]
def k6 (x:Int):Prop:=-9223372036854775808<=x/\x<=9223372036854775807
structure lH (d:fP):Prop where
 a:k6 d.a
 b:k6 d.b
 pl:k6 d.pl
 va:k6 d.va
structure jq (U:Hp) (sl:Sl) (ds:List fP):Prop where
 len:sl.len=ds.length
 at_:∀(i:Nat) (d:fP),ds[i]?=some d->∃b o,sl.a=some ⟨b,o,none⟩/\b<U.size/\∀(j:Nat) v,(qA d)[j]?=some v->cell U ⟨b,o+i*8+j,none⟩=some v
 i:∀d∈ds,lH d
 xp:ds.length<=9223372036854775807
theorem jq.bO {sl:Sl}{ds:List fP}(h:jq U sl ds)(e:bK U w):jq w sl ds:=⟨h.len,λi d m=>by
 obtain⟨b,o,r,p,g⟩:=h.at_ i d m;exact⟨b,o,r,by have:=e.1;omega,λj v a=>by rw[Q6 e p id];exact g j v a⟩,h.i,h.xp⟩
theorem jq.rd {sl:Sl}{ds:List fP}(h:jq U sl ds)(e:bK U w){i:Nat}{d:fP}(hx:ds[i]?=some d){K:Addr->Prop}(hK:∀b o,(∀w',bK U w'->∀(j:Nat) v,(qA d)[j]?=some v->cell w' ⟨b,o+j,none⟩=some v)->K ⟨b,o,none⟩):Ix sl.a sl.len (i:Int) 8 K:=by
 obtain⟨b,o,s,r,p⟩:=h.at_ i d hx;have x:=(cV.1 hx).1;have g:=h.len;rw[s];refine ix O O ?_;rw[add_lit,dE];exact hK b _ λw' u j v m=>by rw[Q6 u r id];exact p j v m
theorem yM {b o i:Nat}{h:Hp}{x:ByteArray}{K:ByteArray->Prop}(hc:cell h ⟨b,o+i,none⟩=some (.string x))(hK:K x):wR (Addr.add ⟨b,o,none⟩ i) h K:=⟨x,by rw[add_lit];exact hc,hK⟩
theorem _root_.Go.Vc.bY.rT {b o i:Nat}{cs:List Value}(hb:bY U b cs){x:ByteArray}{K:ByteArray->Prop}(hc:cs[o+i]?=some (.string x))(hK:K x):wR (Addr.add ⟨b,o,none⟩ i) U K:=⟨x,by rw[add_lit,hb.cell];exact hc,hK⟩
def qR (ad:List Int)(d:fP):Int:=if d.of<0\/ad=[]then d.pl else IntKind.i64.wrap (ad.getD (d.of.toNat%ad.length) 0+d.pl)
theorem LA {ad:List Int}{d:fP}(h:lH d):k6 (qR ad d):=by
 unfold qR;split
 ·exact h.pl
 ·exact Rc _
theorem O2 {addrs:Sl}{ad:List Int}(hs:cW addrs 1 (Wo ad) U F)(d:fP){R:aN}(hR:∀σ',bK U σ'->R (qR ad d) σ'):YL.c addrs d.kd d.th d.a d.b d.of d.pl d.va d.s U R:=by
 refine YL.o ?_;unfold YL.v;have A:addrs.len=ad.length:=by have:=hs.1;simp[Wo]at this;omega
 refine nw (cs:=qA d) λv D e j=>j.rI rfl (QZ (λr w=>w=v/\r=decide (d.of<0\/ad=[])) (λr w ⟨B,u⟩=>?_) λJ z=>cQ (λm=>z _ _ ⟨rfl,by rw[zJ (.inl m)]⟩) λm=>z _ _ ⟨rfl,?_⟩)
 ·subst B;have g:=hR w e;by_cases hc:d.of<0\/ad=[]
  ·refine cE (by rw[u];exact zJ hc) (j.rI rfl ?_);unfold qR at g;rw[zC hc]at g;exact g
  ·have i:0<ad.length:=pC.2 λh=>hc (.inr h);refine cB (by rw[u];exact zK hc) (j.rI rfl (nz O ?_));have x:0<=d.of:=by omega
   have C:d.of.tmod (addrs.len:Int)=((d.of.toNat%ad.length:Nat):Int):=by
    rw[Qp x,A,Int.natCast_emod,Int.toNat_of_nonneg x]
   rw[C];have p:d.of.toNat%ad.length<ad.length:=tW _ i;have y:ad[d.of.toNat%ad.length]?=some ad[d.of.toNat%ad.length]:=cU p;refine(cW.loc _ _ _ |>.bO (aH.cut hs) e).np y (j.rI rfl (yD ?_));unfold qR at g;rw[zB hc,zP,y]at g;exact g
 ·rw[A];rw[lZ];simp only[zT,zU];constructor
  ·intro h;exact .inr (u9.1 O)
  ·rintro(h|h)
   ·exact(m h).elim
   ·rw[h];rfl
theorem Rt {l:Sl}{most:Int}{R:aO}(hR:R (decide ((l.len:Int)>most)) U):XK.c l most U R:=by
 refine XK.o ?_;unfold XK.v;exact hR
theorem NR {xs:List (Int×Int×Int)}(h:Qf xs=true):(xs.map Z1).map mq=xs:=by
 rw[lb]
 conv=>rhs;rw[←uQ xs]
 apply j2;intro t ht;obtain⟨i,e⟩:=zQ ht;have:=((Qc xs).1 h).2.2.1 i t e;obtain⟨c,_,b,g,d,a⟩:=Gq this;simp only[Function.comp,id];rw[show Z1 t=c from b];unfold mq;rw[←g,←d,←a]
theorem Ov {xs:List (Int×Int×Int)}(h:Qf xs=true):(xs.map Z1).length<=40/\∀c∈xs.map Z1,c.ok:=by
 refine⟨by have:=((Qc xs).1 h).2.1;simpa using this,λc d=>?_⟩;obtain⟨t,b,rfl⟩:=zE.1 d;obtain⟨i,g⟩:=zQ b;have:=((Qc xs).1 h).2.2.1 i t g;obtain⟨c,a,e,_⟩:=Gq this;rw[show Z1 t=c from e];exact a
structure tJ (H:Hw) (aF:Int):Prop where
 hi:HI H [] (Va H.cf.aF)
 cf:lu H
 pg:(H.cf.aF:Int)=aF
 live:H.live=[]
 ph:∀g∈H.bQ,g.ph=none
 th:1<=H.cf.threads
theorem Ea {xs:List (Int×Int×Int)}{p a t b r:Int}(h:Qf xs=true)(hc:qU p a t b r=true):tJ (VQ (xs.map Z1) ⟨p.toNat,a.toNat,t.toNat,b.toNat,r.toNat⟩) p:=by
 obtain⟨⟨w,x,u⟩,⟨y,s⟩,⟨m,j⟩,_⟩:=(FL p a t b r).1 hc;obtain⟨e,d⟩:=Ov h;refine⟨OM (cf:=⟨p.toNat,a.toNat,t.toNat,b.toNat,r.toNat⟩) aC aC aC aC e d,⟨by simp only[VQ];omega,by simp[VQ],?_⟩,by simp only[VQ];omega,rfl,λg i=>by rw[Ad i],by simp only[VQ];omega⟩;show Qf ((xs.map Z1).map mq)=true;rw[NR h];exact h
theorem JD (g:Gl U)(gd:Gd U)(b b1 b2 b3 b4 b5:Int){R:Option Addr->Hp->Prop}(h0:∀σ',bK U σ'->R none σ')
 (h1:∀σ' L N H,bK U σ'->U.size<=N->N<=σ'.size->HH σ' (λb=>N<=b) L H->tJ H b1->R (some ⟨L.p,0,none⟩) σ'):Wv.c b b1 b2 b3 b4 b5 U R:=by
 refine Wv.o ?_;unfold Wv.v;refine nw (cs:=[.int .i64 b,.int .i64 b1,.int .i64 b2,.int .i64 b3,.int .i64 b4,.int .i64 b5]) λv E e j=>j.rI rfl ?_;by_cases hw:2<=b/\b<=16
 ·refine Cp b hw.1 hw.2 λs B e1 w=>?_;have a:=e1.bT j id;have d:=e.trans e1;have m:Qf (qx b)=true:=by
   have:=Hq b.toNat O O;rw[show((b.toNat:Nat):Int)=b by omega]at this;exact this
  refine a.eZ rfl (a.eZ rfl (a.eZ rfl (a.eZ rfl (a.eZ rfl ?_))));refine B6 w (g.bO d) (gd.bO d) b1 b2 b3 b4 b5 (λr=>by rw[m]at r;cases r) (λ_ A u e2=>?_) λ_ A u L e2 C=>?_
  ·exact cE rfl (h0 u (d.trans e2))
  ·exact cB rfl (h1 u L B.size _ (d.trans e2) d.1 e2.1 C (Ea m A))
 ·refine Io b O (j.eZ rfl (j.eZ rfl (j.eZ rfl (j.eZ rfl (j.eZ rfl ?_)))));have w:ie v ⟨none,0,0⟩ []:=⟨rfl,λi x y z D=>by simp at D⟩;refine B6 w (g.bO e) (gd.bO e) b1 b2 b3 b4 b5 (λ_ u e2=>cE rfl (h0 u (e.trans e2))) (λm=>?_) λm=>?_
  ·exact absurd m aB
  ·exact absurd m aB
def Safe (H:Hw)(d:fP)(x:Int)(e:Int×Bk):Prop:=(∀j,fH H j≠some (.find e.1))/\¬((d.kd=3\/d.kd=1\/d.kd=6)/\e.1<=x/\x<e.1+e.2.2.1)
structure qz (H:Hw) (d:fP) (x:Int) (H':Hw):Prop where
 hi:∃held s0,HI H' held s0
 kp:Qu H' H
 fx:∀e∈H.live,Safe H d x e->e∈H'.live/\(∀w:Nat,e.1<=((8*w:Nat):Int)->((8*w:Nat):Int)<e.1+e.2.2.1->H'.sp.wd w=H.sp.wd w)/\∀j,fH H' j≠some (.find e.1)
theorem qz.op (h:HI H held s0){d:fP}{x:Int}(o:gg H H')(hl:∀e∈H.live,Safe H d x e->e∈H'.live):qz H d x H':=
 ⟨o.hi,o.kp,λe b a=>⟨hl e b a,h.kl o.ks e b,λj=>by rw[o.ph];exact a.1 j⟩⟩
theorem qz.ar {d:fP}{x:Int}(o:mE H H'):qz H d x H':=
 ⟨o.hi,o.kp,λe a b=>⟨by rw[o.live];exact a,o.kl e a,λj=>by unfold fH;rw[o.bQ];exact b.1 j⟩⟩
theorem HI.qW (h:HI H held s0){e:Int×Bk}(he:e∈H.live):8<=e.2.2.1/\0<=e.1/\e.1%8=0/\e.2.2.1%8=0/\e.1+e.2.2.1<=270000:=by
 obtain⟨_,p,d,G,D,J,E,_⟩:=h.lv e he;have C:=h.yo.size_pos d;have K:=h.yo.jG d;obtain⟨A,x,hd⟩:=h.yo.hf p d;have F:p.addr%8=0:=by
  rcases hd with⟨_,_,r,hr,c2,c3⟩|⟨j,c,c1,c2,c3,c4,_⟩
  ·omega
  ·obtain⟨a,y,b,u⟩:=c4;have:a=c:=Option.some.inj (b.1.symm.trans c2);subst this;have m:=(h.yo.ga _ A x).cD j a y b;obtain⟨l,s,i,B,z,e,_⟩:=(Vu m).1 u;have g:=m.ok;unfold bZ.ok at g;unfold at_ at e;have w:a.size=8*(a.size/8):=by omega
   have:i*a.size=8*(i*(a.size/8)):=by rw[Nat.mul_left_comm,←w]
   omega
 omega
theorem qz.free (h:HI H held s0){d:fP}{x thread e:Int}(hd:d.kd=1)(o:gg H H')(hf:oI H thread x H' e):qz H d x H':=by
 refine qz.op h o λm a g=>?_;have j:=h.qW a;rcases hf with⟨_,h2,_⟩|⟨_,_,_,h4⟩|⟨_,b,_,_,h4⟩
 ·rw[h2];exact a
 ·rw[h4];exact a
 ·rw[h4];refine Gx.2 ⟨a,λi=>g.2 ⟨.inr (.inl hd),O,O⟩⟩
theorem qz.step (h:HI H held s0){d:fP}{x:Int}(hg:H.bQ[t]?=some g){p:Ph}(hp:g.ph=some p):qz H d x (Qt H t p):=by
 have G:=(cV.1 hg).1;have s:=h.Ih hg hp;have D:fH H t=some p:=by unfold fH;rw[hg];exact hp
 have live:∀e∈H.live,p≠.find e.1->e∈(Qt H t p).live:=λe i A=>by
  by_cases hf:k8 p
  ·obtain⟨_,_,_,K,m⟩:=qf h hg hp hf;by_cases u:∃y,p=.find y
   ·obtain⟨y,rfl⟩:=u;cases hm:bW H.live y with
    | none=>rw[((m y rfl).1 hm).2.2];exact i
    | some b=>
     rw[((m y rfl).2 b hm).2];exact Gx.2 ⟨i,λa=>A (by rw[a])⟩
   ·rw[(K λy a=>u ⟨y,a⟩).2];exact i
  ·obtain⟨cl,J,C⟩:=AE h hg hp hf;obtain⟨_,r⟩:=qN h hg hp C;rcases r with⟨_,_,_,e2,_⟩|⟨_,_,_,e4⟩|⟨_,_,e3,e4⟩
   ·rw[e2];exact i
   ·rw[e4];exact i
   ·rw[e4];exact(Gi e3).2 (.inl i)
 have w:∀y,(Wt H t p).2.1≠some (.find y):=λy a=>by
  by_cases hf:k8 p
  ·obtain⟨_,_,r,_⟩:=qf h hg hp hf;rcases r with⟨p',z,e1,_,e3,_⟩|e1
   ·rw[e1]at a;exact e3 y (Option.some.inj a)
   ·rw[e1]at a;cases a
  ·obtain⟨cl,J,C⟩:=AE h hg hp hf;obtain⟨_,r⟩:=qN h hg hp C;rcases r with⟨p',z,e1,_,_,e4,_⟩|⟨e1,_⟩|⟨e1,_⟩
   ·rw[e1]at a;cases a;exact e4.elim
   ·rw[e1]at a;cases a
   ·rw[e1]at a;cases a
 refine⟨s.hi,Uk H t p,λe i F=>⟨live e i λu=>F.1 t (by rw[D,u]),h.kl s.ks e i,λj=>?_⟩⟩;by_cases hj:j=t
 ·subst hj;obtain⟨z,B,E⟩:=U7 (p:=p) G;unfold fH;rw[B];show z.ph≠_;rw[E];exact w _
 ·unfold fH;rw[Ud p hj];exact F.1 j
end Go.Ar
namespace Go.Ar
open Go Go.Vc Go.Proofs
variable {U w w':Hp}{F P Q X:Rg}{L:dJ}{H H':Hw}{held:List Pc}{s0:Sp}{t n:Nat}{g:Th}
structure hU (σ0 U:Hp) (L:dJ) (H:Hw) (held:List Pc) (s0:Sp) (P Q:Rg) (addrs:Sl) (ad:List Int):Prop where
 e:bK σ0 U
 h:HH U P L H
 hi:HI H held s0
 cf:lu H
 pg:H.cf.aF<=128
 pP:∀b,P b->σ0.size<=b/\b<U.size
 pQ:∀b,Q b->σ0.size<=b/\b<U.size/\¬P b
 row:bR addrs 1 (Wo ad) U Q
 al:ad.length<=60
 g0:iV (λb=>σ0.size<=b)/\¬σ0.size<=1
variable {σ0:Hp}{addrs:Sl}{ad:List Int}
theorem hU.step (p:hU σ0 U L H held s0 P Q addrs ad){ts':List eH}(e:Ext P U w)(h':HH w (Grow P U) {L with ts:=ts'} H'){held':List Pc}{s0':Sp}(hi':HI H' held' s0')(k:Qu H' H) :
 hU σ0 w {L with ts:=ts'} H' held' s0' (Cut (Grow P U) w) Q addrs ad:=by
 have r:=e.1;refine⟨Ext.dT p.e e λb a=>.inr (p.pP b a).1,h'.cut,hi',p.cf.bS k,by rw[k.2.1];exact p.pg,λb a=>⟨?_,a.2⟩,λb a=>?_,aI.bS p.row e λb _ g i=>(p.pQ b g).2.2 i,p.al,p.g0⟩
 ·have:=p.e.1;rcases a.1 with h1|h1
  ·exact(p.pP b h1).1
  ·omega
 ·obtain⟨m,s,j⟩:=p.pQ b a;exact⟨m,O,λd=>by
   rcases d.1 with h1|h1
   ·exact j h1
   ·omega⟩
theorem hU.out (p:hU σ0 U L H held s0 P Q addrs ad){T:Rg}(e:Ext T U w)(hT:∀b,b<U.size->T b->¬P b/\¬Q b/\σ0.size<=b):hU σ0 w L H held s0 P Q addrs ad:=by
 have r:=e.1;have g:Ext (λb=>T b/\b<U.size) U w:=⟨e.1,λb a i=>e.2 b a λd=>i ⟨d,a⟩⟩;refine⟨Ext.dT p.e g λb a=>.inr (hT b a.2 a.1).2.2,p.h.bS g (λb a m d=>(hT b a d.1).1 m) (λb a=>?_) (λa=>?_),p.hi,p.cf,p.pg,λb a=>⟨(p.pP b a).1,by have:=(p.pP b a).2;omega⟩,λb a=>⟨(p.pQ b a).1,by have:=(p.pQ b a).2.1;omega,(p.pQ b a).2.2⟩,aI.bS p.row g λb a j d=>(hT b a d.1).2.1 j,p.al,p.g0⟩
 ·exact p.g0.1 b (hT b a.2 a.1).2.2
 ·exact p.g0.2 (hT _ a.2 a.1).2.2
theorem Cw (hr:bR addrs 1 (Wo ad) U Q)(hl:ad.length<=1000000)(x:Int){e t:Nat}{K:Sl->Hp->Prop}(hK:∀s' w,Ext Q U w->bR s' 1 (Wo (ad++[x])) w (λb=>Q b\/U.size<=b/\b<w.size)->K s' w) :
 Nw (.cells #[.int .i64 x] t (0,0)) U λn v=>App addrs 1 8 e [.int .i64 0] ⟨some n,1,1⟩ v K:=by
 have i:addrs.len=ad.length:=by have:=hr.1;simp[Wo]at this;omega
 refine bR.push (F:=λb=>Q b\/U.size<=b) (vs:=[.int .i64 x]) (aI.mono hr λb _ a=>.inl a) (λb a=>.inr a) rfl rfl (by simp[dP]) O O λs' w p g j=>hK s' w ⟨g.1,λb a m=>g.2 b a λd=>d.elim m λd=>O⟩ ?_;have:Wo (ad++[x])=Wo ad++[.int .i64 x]:=by simp[Wo]
 rw[this];refine aI.mono (aI.cut j) λb a d=>?_;rcases d.1 with h1|h1
 ·exact .inl h1
 ·exact .inr ⟨h1,a⟩
end Go.Ar
namespace Go.Ar
open Go.Vc (bW dB cS)
def i63 (x:Int):Bool:=decide (x<=9223372036854775807)
def pn (H:Hw)(t:Nat):Ph->Bool
 | .take k=>decide (k<H.tb.length)&&(match QY (H.cls k) ((H.jT t).li k)with
  | (some y,_)=>i63 y
  | (none,_)=>true)
 | .cH k _=>decide (k<H.tb.length)&&(ZY (H.dZ t) (k:Int) != 0 || !(Yp (H.dZ t) (k:Int)).isEmpty)
 | .cJ _ _=>true
 | .grow _ _=>true
 | .fill=>match (H.jT t).bP with
  | (k,x::xs)::_=>decide (k<H.tb.length)&&(i63 x&&decide (((H.jT t).li k).os.length+xs.length<=256))
  | _=>false
 | .eD m=>decide (ZW (H.dZ t) H.sp (m:Int) 1<=1000000)
 | .find x=>i63 x&&((bW H.live x).isSome&&decide (0<=x))
 | .put k _=>decide (k<H.tb.length) && !(H.jT t).bP.isEmpty
 | .back=>match (H.jT t).bP with
  | (_,xs)::_=>(xs.all λx=>i63 x&&decide (0<=XN H.bX x))&&decide (xs.length<=1000000)
  | _=>false
 | .dC _ a=>decide (0<=a)&&(decide (a.toNat<H.bX.length)&&H.bX.all λA=>A.runs.all λr=>decide (r.1<=1000000))
 | .drain=>true
theorem xR {x:Int}(h:i63 x=true):iE x:=by
 unfold i63 at h;unfold iE;exact sL h
theorem IB {H:Hw}{t:Nat}{p:Ph}(h:pn H t p=true):uw H t p:=by
 cases p with
 | take k=>
  simp only[pn,zF,zU]at h;refine⟨h.1,λy l u=>?_⟩;have g:=h.2;rw[u]at g;exact xR g
 | cH k w=>
  simp only[pn,zF,zU,nm]at h;refine⟨h.1,λi d=>?_⟩;rw[i,d]at h;simp at h
 | cJ k w=>trivial
 | grow k w=>trivial
 | fill=>
  simp only[pn]at h;split at h
  ·rename_i k x xs r hh;simp only[zF,zU]at h;exact⟨k,x,xs,r,hh,h.1,xR h.2.1,h.2.2⟩
  ·cases h
 | eD m=>
  simp only[pn,zU]at h;exact h
 | find x=>
  simp only[pn,zF,zU]at h;exact⟨xR h.1,λj=>by rw[j]at h;simp at h,λb _=>h.2.2⟩
 | put k x=>
  simp only[pn,zF,zU]at h;exact⟨h.1,λd=>by rw[d]at h;simp at h⟩
 | back=>
  simp only[pn]at h;split at h
  ·rename_i k xs r hh;simp only[zF,zU,j6]at h;exact⟨k,xs,r,hh,λx e=>⟨xR (h.1 x e).1,(h.1 x e).2⟩,h.2⟩
  ·cases h
 | dC s a=>
  simp only[pn,zF,zU,j6]at h;exact⟨h.1,h.2.1,h.2.2⟩
 | drain=>trivial
def ox:Nat->Hw->Nat->Ph->Option (Hw×Int×Int)
 | 0,_,_,_=>none
 | n+1,H,t,p=>if pn H t p&&decide ((H.jT t).bP.length<=900)then(match (Wt H t p).2.1 with
  | none=>some (Qt H t p,(Wt H t p).2.2.1,(Wt H t p).2.2.2)
  | some p'=>ox n (Qt H t p) t p')else none
theorem CE:∀{n:Nat} {H:Hw} {t:Nat} {p:Ph} {r:Hw×Int×Int},ox n H t p=some r->∃m,iC m H t p r.1 r.2.1 r.2.2
 | 0,_,_,_,_,h=>by simp[ox]at h
 | n+1,H,t,p,r,h=>by
  rw[ox]at h;split at h
  ·rename_i hc;simp only[zF,zU]at hc;have hok:tU H t p:=⟨IB hc.1,λg a=>by rw[←HY a];exact hc.2⟩;split at h
   ·rename_i hn;cases h;exact⟨1,.done hok hn⟩
   ·rename_i p' hs;obtain⟨m,b⟩:=CE h;exact⟨m+1,.next hok hs b⟩
  ·cases h
def xe (H:Hw)(thread kind size align addr:Int):Option (Hw×Int×Int):=match Kf H thread kind size align addr with
 | .inl e=>if e=0 then none else some (H,0,e)
 | .inr (t,p)=>ox 40 (eO H t (some p)) t p
theorem My {H:Hw}{thread kind size align addr:Int}{r:Hw×Int×Int}(h:xe H thread kind size align addr=some r):V8 H thread kind size align addr r.1 r.2.1 r.2.2:=by
 unfold xe at h;split at h
 ·rename_i e he;split at h
  ·cases h
  ·rename_i hne;cases h;exact .inl ⟨he,hne,rfl,rfl⟩
 ·rename_i t p he;obtain⟨m,a⟩:=CE h;exact .inr ⟨t,p,m,he,a⟩
def C5:List bZ:=(qx 8).map Z1
def w0:Hw:=VQ C5 ⟨64,1,1,1024,2⟩
theorem wb:VQ ((qx 8).map Z1) ⟨(64:Int).toNat,(1:Int).toNat,(1:Int).toNat,(1024:Int).toNat,(2:Int).toNat⟩=w0:=rfl
end Go.Ar
namespace Go.Ar
open Go Go.Vc Go.Proofs
variable {U u u':Hp}{F:Rg}{L:dJ}{H H':Hw}{N:Nat}
attribute [local irreducible] w0 C5
theorem Rm (g:Gl U)(gd:Gd U){R:Option Addr->Hp->Prop}(hR:∀σ' L N,bK U σ'->U.size<=N->N<=σ'.size->HH σ' (λb=>N<=b) L w0->R (some ⟨L.p,0,none⟩) σ'):Xq.c U R:=by
 refine Xq.o ?_;unfold Xq.v;refine Wv.o ?_;unfold Wv.v;refine nw (cs:=[.int .i64 8,.int .i64 64,.int .i64 1,.int .i64 1,.int .i64 1024,.int .i64 2]) λv y e m=>m.rI rfl ?_;refine Cp 8 aB aB λs r e1 x=>?_;have a:=e1.bT m id;have d:=e.trans e1;refine a.eZ rfl (a.eZ rfl (a.eZ rfl (a.eZ rfl (a.eZ rfl ?_))));refine B6 x (g.bO d) (gd.bO d) 64 1 1 1024 2 (λi=>?_) (λ_ u=>?_) λ_ _ w L e2 j=>?_
 ·have:=Hq 8 aB aB;rw[show((8:Nat):Int)=8 from rfl]at this;rw[this]at i;cases i
 ·exact absurd u aB
 ·rw[wb]at j;exact cB rfl (hR w L r.size (d.trans e2) d.1 e2.1 j)
end Go.Ar
namespace Go.Proofs
open Go.Vc
set_option maxRecDepth 100000
def Xm.h:TX:=.nx (.o 3) (.nx (.seq (.o 3) (.cond (.seq (.o 2) (.leaf)) (.leaf))) (.nx (.seq (.cR (.seq [.op,.op,.op,.cX false 2 [.op,.op],.op,.cX false 2 [.op,.op],.op,.cX false 2 [.op,.op],.op,.cX false 5 [.op,.op,.op,.op,.op]])) (.cond (.seq (.o 2) (.leaf)) (.leaf))) (.nx (.o 3) (.nx (.o 5) (.nx (.cR (.held true [] (.take 0 (.take 1 (.take 2 (.take 3 (.take 4 (.take 5 (.take 6 (.take 10 (.all [(7,.take 8 (.take 9 (.all [(11,.take 12 (.take 13 (.take 14 (.take 15 (.take 16 (.done))))))])))]))))))))))) (.nx (.seq (.o 2) (.cond (.seq (.o 3) (.leaf)) (.leaf))) (.nx (.o 8) (.nx (.o 16) (.nx (.o 12) (.r1 (.o 2) bN (.block (.cR (.held true [] (.take 0 (.take 1 (.take 2 (.take 3 (.take 4 (.take 5 (.all [(6,.all [(7,.done)])])))))))))) (.seq (.o 3) (.seq (.cR (.held true [8] (.take 0 (.take 1 (.take 2 (.take 3 (.take 4 (.take 5 (.take 6 (.take 7 (.all [(8,.done)]))))))))))) (.seq (.o 5) (.leaf))))))))))))))
def Xm.v (a:R2)(b c d:Int)(e:Hp)(f:Int->Int->Hp->Prop):Prop:=aV #[.pointer a] 33 e λg h=>fW g h λi=>WE.c i h λj k=>If (!j) (f 0 5 k) (bV (λl m=>bV (λn o=>bV (λp q=>bV (λr s=>If r (f 0 1 s) (aV #[.I 0,.I 0,.I 0,.I 0,.I 0] 95 s λt u=>aR t 0 (.I 0) u λv=>aR t 1 (.I c) v λw=>aR t 2 (.I 0) w λx=>aR t 3 (.I 0) x λy=>aR t 4 (.I 0) y λz=>eI z λaa=>gE aa .p g λ(ab:R2)=>bU ab λac=>aU aa ac 0 λad=>aS aa t 0 λae=>aS aa t 1 λaf=>aS aa t 2 λag=>aS aa t 3 λah=>aS aa t 4 λai=>Xj.c ae af ag ah ai z λaj ak=>And (aa ak) <| bL ((if 16>d then 16 else d)+aj) λal=>bL (al+16) λam=>YG.c ad b am (if 16>d then 16 else d) ak λan ao ap=>And (aa ap) <| If (ao != 0) (f 0 ao ap) (fW g ap λaq=>bD aq 3 ap λau=>bL (au+1) λav=>bU aq λaw=>aR aw 3 (.I av) ap λax=>fW g ax λay=>bD ay 3 ax λa0=>bL (an+(if 16>d then 16 else d)) λa1=>aR t 4 (.I a0) ax λa2=>dS ((t.add 0).add 2) (.I an) a2 λa3=>dS ((t.add 0).add 0) (.I a1) a3 λa4=>fW g a4 λa5=>bF a5 0 a4 λa7=>Xf.c a7 an a4 λa8 a9 ba=>dS ((t.add 0).add 3) (.I a8) ba λbb=>aQ t 0 bb λbc=>aQ t 1 bb λbd=>aQ t 2 bb λbe=>aQ t 3 bb λbf=>aQ t 4 bb λbg=>
 XB.c bc bd be bf bg bb λbh bi=>yL Tryz.prog (e1 bN) bh bi (λ(bj:Int) bk bl=>eI bl λbm=>gE bm .p g λ(bn:Option Addr)=>bU bn λbo=>aU bm bo 0 λbp=>ZD.c bj bl λbq br=>And (bm br) <| W8.c bp bj bq br λbs bt=>And (bm bt) <| bk bt) λbu=>fW g bu λbv=>aQ t 0 bu λbw=>aQ t 1 bu λbx=>aQ t 2 bu λbz=>aQ t 3 bu λb0=>aQ t 4 bu λb1=>XY.c bv bw bx bz b0 b1 0 bu λb2=>eI b2 λb3=>gE b3 .p g λ(b4:Option Addr)=>bU b4 λb5=>gE b3 .m (b5.add 1) λ(b6:Option Nat)=>gE b3 bN ((t.add 0).add 0) λ(b7:Int)=>aS b3 t 0 λb8=>aS b3 t 1 λb9=>aS b3 t 2 λca=>aS b3 t 3 λcb=>aS b3 t 4 λcc=>kf .i64 (.ag 5) b6 b7 (b8,b9,ca,cb,cc) b2 λcd=>bM ((t.add 0).add 0) cd λce=>uP bi.size cd λcf=>f ce 0 cf))) λcg=>If p (cg true q) (bL (d-1) λch=>cg ((bits .and .i64 d ch) != 0) q)) λci=>If n (ci true o) (ci (decide (d>256)) o)) λcj=>If l (cj true m) (cj (decide (d<1)) m)) λck=>If (c<1) (ck true k) (ck (decide (c>1024)) k))
theorem Xm.o {a b c d e f}(g:Xm.v a b c d e f):Xm.c a b c d e f:=Dq Tryz.func14 (x:=Xm.h) (R0 g)
def YP.h:Hn:=.q .o2 (.q (.q .o4 (.q .o2 (.c (.q .o3 .l) .l))) (.q .gT .l))
def YP.v (a:R2)(b:Int)(c:Hp)(d:Int->Int->Hp->Prop):Prop:=XX.c a b c λe f=>If (e != 0) (d 0 e f) (bF a 0 f λh=>YC.c h b f λi j k=>d i j k)
theorem YP.o {a b c d}(e:YP.v a b c d):YP.c a b c d:=Wa Tryz.func16 (x:=YP.h) (R0 e)
def Xk.h:Hn:=.q .o1 (.q (.q .o4 (.q .o2 .aJ)) (.q .o8 .l))
def Xk.v (a:R2)(b c:Int)(d:Hp)(e:aN):Prop:=XX.c a b d λf g=>If (f != 0) (e f g) (bF a 0 g λi=>W8.c i b c g λj k=>e j k)
theorem Xk.o {a b c d e}(f:Xk.v a b c d e):Xk.c a b c d e:=Wa Tryz.func17 (x:=Xk.h) (R0 f)
def YI.h:Hn:=.q .o1 (.q (.q .o3 .aK) (.q .o1 (.q (.q .o8 (.k (.loop [(3,.one .s),(16,.I)] (.q .o1 (.q (.c .l .l) (.q (.k (.q .o3 (.o 11))) .o2)))))) .aL)))
def YI.v (a:R2)(b:Hp)(c:Sl->Hp->Prop):Prop:=WE.c a b λd e=>If (!d) (c ⟨none,0,0⟩ e) (bI a 1 e λg=>Ze.c g e λh i=>Vs.c h i λj k=>X9 [.s,bN] (λl=>l ⟨none,0,0⟩ 0 k) λm (n:Sl) (o:Int) p=>If (o<((j.len:Nat):Int)) (Ix j.a j.len o 1 λq=>bM q p λr=>bU a λs=>bB s 1 p λt=>Lk .i64 (.ag 5) t r p λu=>aV #[.I ((u.getD (0,0,0,0,0)).1),.I ((u.getD (0,0,0,0,0)).2.1),.I ((u.getD (0,0,0,0,0)).2.2.1),.I ((u.getD (0,0,0,0,0)).2.2.2.1)] 52 p λv w=>App n 4 32 52 [.I 0,.I 0,.I 0,.I 0] ⟨some v,1,1⟩ w λx y=>bL (o+1) λz=>m x z y) (c n p))
theorem YI.o {a b c}(d:YI.v a b c):YI.c a b c:=Wa Tryz.func20 (x:=YI.h) (R0 d)
def Xw.h:Hn:=.q .o2 (.q (.q .o3 .aJ) (.q (.o 12) (.q (.q .o2 .aJ) (.q (.q .o3 .aJ) (.q .o5 .l)))))
def Xw.v (a:R2)(b:Int)(c:Hp)(d:Sl->Int->Hp->Prop):Prop:=WE.c a c λe f=>If (!e) (d ⟨none,0,0⟩ 5 f) (bI a 1 f λh=>Lk .i64 (.ag 5) h b f λi=>aV #[.I 0,.I 0,.I 0,.I 0,.I 0] 95 f λj k=>aR j 0 (.I ((i.getD (0,0,0,0,0)).1)) k λl=>aR j 1 (.I ((i.getD (0,0,0,0,0)).2.1)) l λm=>aR j 2 (.I ((i.getD (0,0,0,0,0)).2.2.1)) m λn=>aR j 3 (.I ((i.getD (0,0,0,0,0)).2.2.2.1)) n λo=>aR j 4 (.I ((i.getD (0,0,0,0,0)).2.2.2.2)) o λp=>If (!i.isSome) (d ⟨none,0,0⟩ 8 p) (aQ j 0 p λq=>aQ j 1 p λr=>aQ j 2 p λs=>aQ j 3 p λt=>aQ j 4 p λu=>W3.c a q r s t u p λv w=>If v (d ⟨none,0,0⟩ 5 w) (aQ j 0 w λx=>aQ j 1 w λy=>aQ j 2 w λz=>aQ j 3 w λaa=>aQ j 4 w λab=>W5.c a x y z aa ab w λac ad=>d ac 0 ad)))
theorem Xw.o {a b c d}(e:Xw.v a b c d):Xw.c a b c d:=Wa Tryz.func21 (x:=Xw.h) (R0 e)
def Yl.h:Hn:=.q .o1 (.q (.q .o3 .aK) (.q .o1 (.q (.q .o5 (.k (.loop [(3,.one .s)] (.q (.cR (.seq [.it .i64 (.ag 5),.op])) (.q (.c .l .l) (.k (.q (.cR (.seq [.it .i64 (.ag 5),.op,.op,.op])) (.q .o4 (.c .o6 .l))))))))) (.q .o2 (.q .o3 .l)))))
def Yl.v (a:R2)(b:Hp)(c:Sl->Hp->Prop):Prop:=WE.c a b λd e=>If (!d) (c ⟨none,0,0⟩ e) (bI a 1 e λg=>nM .i64 (.ag 5) g e λh i=>X9 [.s] (λj=>j ⟨none,0,0⟩ i) λk (l:Sl) m=>nU .i64 (.ag 5) h m (KM.c l m λn=>WT.c l n λo p=>c o p) (λq r s=>nI .i64 (.ag 5) h s λt u=>aV #[.I 0,.I 0,.I 0,.I 0,.I 0] 95 s λv w=>aR v 0 (.I u.1) w λx=>aR v 1 (.I u.2.1) x λy=>aR v 2 (.I u.2.2.1) y λz=>aR v 3 (.I u.2.2.2.1) z λaa=>aR v 4 (.I u.2.2.2.2) aa λab=>aQ v 0 ab λac=>aQ v 1 ab λad=>aQ v 2 ab λae=>aQ v 3 ab λaf=>aQ v 4 ab λag=>W3.c a ac ad ae af ag ab λah ai=>If (!ah) (aQ v 0 ai λaj=>aQ v 1 ai λak=>aQ v 2 ai λal=>aQ v 3 ai λam=>aQ v 4 ai λan=>W5.c a aj ak al am an ai λao ap=>App l 1 8 3 [.I 0] ao ap λaq ar=>k aq ar) (k l ai)))
theorem Yl.o {a b c}(d:Yl.v a b c):Yl.c a b c:=Wa Tryz.func22 (x:=Yl.h) (R0 d)
def YO.h:Hn:=.q .o2 (.q (.q .o3 (.c (.q .o3 .l) .l)) (.q .o9 (.q (.q .o2 (.c (.q .o3 .l) .l)) (.q .o4 .l))))
def YO.v (a:R2)(b:Int)(c:Hp)(d:Int->Int->Int->Int->Int->Hp->Prop):Prop:=aV #[.I 0,.I 0,.I 0,.I 0] 52 c λe f=>WE.c a f λg h=>If (!g) (aR e 0 (.I 0) h λi=>aR e 1 (.I 0) i λj=>aR e 2 (.I 0) j λk=>aR e 3 (.I 0) k λl=>aQ e 0 l λm=>aQ e 1 l λn=>aQ e 2 l λo=>aQ e 3 l λp=>d m n o p 5 l) (Y3.c a b ⟨57,#[],#[]⟩ h λq r s t u v w=>aV #[.I 0,.I 0,.I 0,.I 0,.I 0] 95 w λx y=>aR x 0 (.I q) y λz=>aR x 1 (.I r) z λaa=>aR x 2 (.I s) aa λab=>aR x 3 (.I t) ab λac=>aR x 4 (.I u) ac λad=>If (!v) (aR e 0 (.I 0) ad λae=>aR e 1 (.I 0) ae λaf=>aR e 2 (.I 0) af λag=>aR e 3 (.I 0) ag λah=>aQ e 0 ah λai=>aQ e 1 ah λaj=>aQ e 2 ah λak=>aQ e 3 ah λal=>d ai aj ak al 8 ah) (bM ((x.add 0).add 0) ad λam=>bM ((x.add 0).add 1) ad λan=>bM ((x.add 0).add 2) ad λao=>bM ((x.add 0).add 3) ad λap=>aR e 0 (.I am) ad λaq=>aR e 1 (.I an) aq λar=>aR e 2 (.I ao) ar λau=>aR e 3 (.I ap) au λav=>aQ e 0 av λaw=>aQ e 1 av λax=>aQ e 2 av λay=>aQ e 3 av λaz=>d aw ax ay az 0 av))
theorem YO.o {a b c d}(e:YO.v a b c d):YO.c a b c d:=Wa Tryz.func23 (x:=YO.h) (R0 e)
def YB.h:Hn:=.q .o1 (.q (.q .o3 .aK) (.q .o5 .l))
def YB.v (a:R2)(b:Hp)(c:Option Addr->Hp->Prop):Prop:=WE.c a b λd e=>If (!d) (c none e) (bF a 0 e λg=>c g e)
theorem YB.o {a b c}(d:YB.v a b c):YB.c a b c:=Wa Tryz.func24 (x:=YB.h) (R0 d)
def Xg.h:Hn:=.q .o1 (.q .o5 .l)
def Xg.v (a:R2)(b c:Int)(d:Hp)(e:aN):Prop:=XU.c a b c true d λf g=>e f g
theorem Xg.o {a b c d e}(f:Xg.v a b c d e):Xg.c a b c d e:=Wa Tryz.func29 (x:=Xg.h) (R0 f)
def Qw.h:Hn:=.q .o2 (.q (.q .o3 .aJ) (.q .o7 .l))
def Qw.v (a:R2)(b:Hp)(c:Option Addr->Int->Hp->Prop):Prop:=Qm.c a b λd e=>If (!d) (c none 1 e) (Nw (.map #[] 0) e λf g=>Nw (.map #[] 0) g λh i=>aV #[.pointer a,.map (some f.block),.map (some h.block),.I 0] 74 i λj k=>c (some j) 0 k)
theorem Qw.o {a b c}(d:Qw.v a b c):Qw.c a b c:=Wa Tryz.func33 (x:=Qw.h) (R0 d)
def WE.h:Hn:=.q .o1 (.q (.cR (.seq [.op,.op,.op,.cX true 5 (RI.ops 5),.op])) .l)
def WE.v (a:R2)(b:Hp)(c:aO):Prop:=bV (λd e=>c d e) λf=>If (!a.isNone) (bF a 0 b λh=>f (!h.isNone) b) (f false b)
theorem WE.o {a b c}(d:WE.v a b c):WE.c a b c:=Wa Tryz.func42 (x:=WE.h) (R0 d)
def Xj.h:Hn:=.q .o2 (.q .o8 .l)
def Xj.v (a b c d e:Int)(f:Hp)(g:aN):Prop:=aV #[.I a,.I b,.I c,.I d,.I e] 95 f λh i=>bM ((h.add 0).add 1) i λj=>bL (j+8) λk=>bL (k-1) λl=>Nz 8<|bL (l.tdiv 8) λm=>bL (m*8) λn=>g n i
theorem Xj.o {a b c d e f g}(h:Xj.v a b c d e f g):Xj.c a b c d e f g:=Wa Tryz.func44 (x:=Xj.h) (R0 h)
def XB.h:Hn:=.q .o2 .aL
def XB.v (a b c d e:Int)(f:Hp)(g:Fv->Hp->Prop):Prop:=aV #[.I a,.I b,.I c,.I d,.I e] 95 f λh i=>g ⟨82,#[],#[.pointer (some h)]⟩ i
theorem XB.o {a b c d e f g}(h:XB.v a b c d e f g):XB.c a b c d e f g:=Wa Tryz.func45 (x:=XB.h) (R0 h)
def ZD.h:Hn:=.q .o1 (.q .o4 .l)
def ZD.v (a:Int)(b:Hp)(c:aN):Prop:=bL (0-a) λd=>bL (d-1) λe=>c e b
theorem ZD.o {a b c}(d:ZD.v a b c):ZD.c a b c:=Wa Tryz.func46 (x:=ZD.h) (R0 d)
def XY.h:Hn:=.q .o1 (.q .o1 (.k (.loop [(6,.I)] (.q (.q .o4 (.c .l .l)) (.q (.k (.cR (.tail 10 (RI.ops 10) [.op]))) .o3)))))
def XY.v (a:R2)(b c d e f g:Int)(h:Hp)(i:aP):Prop:=aV #[.I b,.I c,.I d,.I e,.I f] 95 h λj k=>X9 [bN] (λl=>l 0 k) λm (n:Int) o=>aQ j 0 o λp=>aQ j 1 o λq=>aQ j 2 o λr=>aQ j 3 o λs=>aQ j 4 o λt=>Xj.c p q r s t o λu v=>If (n<u) (bF a 0 v λx=>bM ((j.add 0).add 0) v λy=>bL (y+n) λz=>W8.c x z g v λaa ab=>bL (n+8) λac=>m ac ab) (i v)
theorem XY.o {a b c d e f g h i}(j:XY.v a b c d e f g h i):XY.c a b c d e f g h i:=Wa Tryz.func47 (x:=XY.h) (R0 j)
def XX.h:Hn:=.q .o1 (.q (.q .o3 .aK) (.q .o9 (.q (.k (.q (.cR (.seq [.op,.op,.op,.cX false 3 (RI.ops 3),.op])) (.c .aM (.q .o4 .aK)))) .aM)))
def XX.v (a:R2)(b:Int)(c:Hp)(d:aN):Prop:=WE.c a c λe f=>If (!e) (d 5 f) (Y3.c a b ⟨44,#[],#[]⟩ f λg h i j k l m=>aV #[.I 0,.I 0,.I 0,.I 0,.I 0] 95 m λn o=>aR n 0 (.I g) o λp=>aR n 1 (.I h) p λq=>aR n 2 (.I i) q λr=>aR n 3 (.I j) r λs=>aR n 4 (.I k) s λt=>bV (λu v=>If u (d 7 v) (aQ n 0 v λw=>aQ n 1 v λx=>aQ n 2 v λy=>aQ n 3 v λz=>aQ n 4 v λaa=>W3.c a w x y z aa v λab ac=>If ab (d 5 ac) (d 0 ac))) λad=>If (!l) (ad true t) (Nz 8 <| ad ((b.tmod 8) != 0) t))
theorem XX.o {a b c d}(e:XX.v a b c d):XX.c a b c d:=Wa Tryz.func48 (x:=XX.h) (R0 e)
def W3.h:Hn:=.q .o2 (.q (.cR (.held true [7] (.tk [0,1,2,3,4,5,6] (.all [(7,.tk [8,9,10,11,12] (.done))])))) (.q (.cR (.seq [.op,.op,.op,.cX false 5 (RI.ops 5),.op])) .l))
def W3.v (a:R2)(b c d e f:Int)(g:Hp)(h:aO):Prop:=aV #[.I b,.I c,.I d,.I e,.I f] 95 g λi j=>eI j λk=>bU a λl=>aU k l 0 λm=>gE k bN ((i.add 0).add 2) λ(n:Int)=>Xf.c m n j λo p q=>bV (λr s=>h r s) λt=>If (p != 0) (t true q) (bM ((i.add 0).add 3) q λu=>t (o != u) q)
theorem W3.o {a b c d e f g h}(i:W3.v a b c d e f g h):W3.c a b c d e f g h:=Wa Tryz.func52 (x:=W3.h) (R0 i)
def W5.h:TX:=.nx (.o 3) (.nx (.o 1) (.r1 (.o 2) bN (.block (.seq (.o 11) (.seq (.cR (.seq [.op,.op,.op,.cX false 4 [.op,.op,.op,.op]])) (.cond (.o 5) (.leaf))))) (.seq (.o 2) (.leaf))))
def W5.v (a:R2)(b c d e f:Int)(g:Hp)(h:Sl->Hp->Prop):Prop:=aV #[.pointer a] 33 g λi j=>aV #[.I b,.I c,.I d,.I e,.I f] 95 j λk l=>aV #[.slice none 0 0] 34 l λm n=>aQ k 0 n λo=>aQ k 1 n λp=>aQ k 2 n λq=>aQ k 3 n λr=>aQ k 4 n λs=>XB.c o p q r s n λt u=>yL Tryz.prog (e1 bN) t u (λ(v:Int) w x=>fW i x λy=>bF y 0 x λaa=>YC.c aa v x λab ac ad=>bV (λae af=>If ae (jj m af λag=>aV #[.I v] 3 af λah ai=>App ag 1 8 3 [.I 0] ⟨some ah,1,1⟩ ai λaj ak=>dS m (.slice aj.a aj.len aj.cap) ak λal=>w al) (w af)) λam=>If (ac != 0) (am true ad) (ZD.c v ad λan ao=>am (ab != an) ao)) λap=>jj m ap λaq=>uP u.size ap λar=>h aq ar
theorem W5.o {a b c d e f g h}(i:W5.v a b c d e f g h):W5.c a b c d e f g h:=Dq Tryz.func53 (x:=W5.h) (R0 i)
def Y3.h:Hn:=.q .o2 (.q .o1 (.q .o2 (.q (.q .o5 (.k (.loop [(9,.one .b),(10,.one .b)] (.q (.cR (.seq [.it .i64 (.ag 5),.op])) (.q (.c .l .l) (.k (.q (.cR (.seq [.it .i64 (.ag 5),.op,.op,.op])) (.q (.q (.cR (.gL true [] [(38,.one .b)] (.tk [0,1,2,3,4,5] (.split 28 (.tk [6,7,8,9,10,11,12,13,14,15] (.done)) (.tk [6,7,8,9,10,11] (.all [(12,.tk [13,14,15] (.done))])))))) (.c .l .l)) (.q .o5 (.q (.cR (.seq [.op,.op,.op,.cX false 5 [.op,.op,.cX true 2 [.op,.op]],.op,.cX false 10 [.op,.op,.op,.op,.cX true 5 (RI.ops 5)]])) (.c .o5 .l))))))))))) (.q .o4 .l))))
def Y3.v (a:R2)(b:Int)(c:Fv)(d:Hp)(e:Int->Int->Int->Int->Int->Bool->Hp->Prop):Prop:=aV #[.I 0,.I 0,.I 0,.I 0,.I 0] 95 d λf g=>aV #[.I 0,.I 0,.I 0,.I 0,.I 0] 95 g λh i=>bI a 1 i λk=>nM .i64 (.ag 5) k i λl m=>X9 [.b,.b] (λn=>n false false m) λo (p:Bool) (q:Bool) r=>nU .i64 (.ag 5) l r (aQ h 0 r λs=>aQ h 1 r λt=>aQ h 2 r λu=>aQ h 3 r λv=>aQ h 4 r λw=>aR f 0 (.I s) r λx=>aR f 1 (.I t) x λy=>aR f 2 (.I u) y λz=>aR f 3 (.I v) z λaa=>aR f 4 (.I w) aa λab=>aQ f 0 ab λac=>aQ f 1 ab λad=>aQ f 2 ab λae=>aQ f 3 ab λaf=>aQ f 4 ab λag=>e ac ad ae af ag p ab) (λah ai aj=>nI .i64 (.ag 5) l aj λak al=>aV #[.I 0,.I 0,.I 0,.I 0,.I 0] 95 aj λam an=>aR am 0 (.I al.1) an λao=>aR am 1 (.I al.2.1) ao λap=>aR am 2 (.I al.2.2.1) ap λaq=>aR am 3 (.I al.2.2.2.1) aq λar=>aR am 4 (.I al.2.2.2.2) ar λau=>Jn [.b] (λ(av:Bool) aw=>If av (o p q aw) (aQ am 0 aw λax=>aQ am 1 aw λay=>aQ am 2 aw λaz=>aQ am 3 aw λa0=>aQ am 4 aw λa1=>W3.c a ax ay az a0 a1 aw λa2 a3=>bV (λa4 a5=>bV (λa6 a7=>If a6 (aQ am 0 a7 λa8=>aQ am 1 a7 λa9=>aQ am 2 a7 λba=>aQ am 3 a7 λbb=>aQ am 4 a7 λbc=>aR h 0 (.I a8) a7 λbd=>
 aR h 1 (.I a9) bd λbe=>aR h 2 (.I ba) be λbf=>aR h 3 (.I bb) bf λbg=>aR h 4 (.I bc) bg λbh=>o true (!a2) bh) (o p q a7)) λbi=>If a4 (bi true a5) (bV (λbj bk=>bi bj bk) λbl=>If ((!a2)==q) (aQ am 4 a5 λbm=>aQ h 4 a5 λbn=>bl (decide (bm>bn)) a5) (bl false a5))) λbo=>If (!p) (bo true a3) (bV (λbp bq=>bo bp bq) λbr=>If (!a2) (br (!q) a3) (br false a3)))) λbs=>eI au λbt=>gE bt bN ((am.add 0).add 0) λ(bu:Int)=>If (b<bu) (bs true au) (gE bt bN ((am.add 0).add 0) λ(bv:Int)=>aS bt am 0 λbw=>aS bt am 1 λbx=>aS bt am 2 λbz=>aS bt am 3 λb0=>aS bt am 4 λb1=>VM Tryz.prog c [.agg #[.I bw,.I bx,.I bz,.I b0,.I b1]] [.I] au λb2 b3=>And (bt b3) <| bL (bv+b2) λb4=>bs (decide (b≥b4)) b3))
theorem Y3.o {a b c d e}(f:Y3.v a b c d e):Y3.c a b c d e:=Wa Tryz.func56 (x:=Y3.h) (R0 f)
def Yt.h:Hn:=.q .o2 (.q .o4 .l)
def Yt.v (a b c d e:Int)(f:Hp)(g:aN):Prop:=aV #[.I a,.I b,.I c,.I d,.I e] 95 f λh i=>bM ((h.add 0).add 1) i λj=>g j i
theorem Yt.o {a b c d e f g}(h:Yt.v a b c d e f g):Yt.c a b c d e f g:=Wa Tryz.func57 (x:=Yt.h) (R0 h)
def XU.h:Hn:=.q .o1 (.q (.q .o3 .aK) (.q (.q .o4 (.q .o2 .aJ)) (.q (.o 12) (.q (.k (.q (.cR (.seq [.op,.op,.op,.cX true 6 (RI.ops 6),.op])) (.c .aM (.q .o3 (.c .aM (.q .o4 (.c .aM (.q (.cR (.seq [.op,.op,.cX true 5 (RI.ops 5),.op])) .aK)))))))) (.q .o3 (.q .o6 (.q .o6 (.q (.cR (.tail 8 (RI.ops 8) [.op])) .aM))))))))
def XU.v (a:R2)(b c:Int)(d:Bool)(e:Hp)(f:aN):Prop:=WE.c a e λg h=>If (!g) (f 5 h) (Yd.c a b h λi j=>If (i != 0) (f i j) (bI a 1 j λl=>Lk .i64 (.ag 5) l c j λm=>aV #[.I 0,.I 0,.I 0,.I 0,.I 0] 95 j λn o=>aR n 0 (.I ((m.getD (0,0,0,0,0)).1)) o λp=>aR n 1 (.I ((m.getD (0,0,0,0,0)).2.1)) p λq=>aR n 2 (.I ((m.getD (0,0,0,0,0)).2.2.1)) q λr=>aR n 3 (.I ((m.getD (0,0,0,0,0)).2.2.2.1)) r λs=>aR n 4 (.I ((m.getD (0,0,0,0,0)).2.2.2.2)) s λt=>bV (λu v=>If u (f 9 v) (If (!m.isSome) (f 8 v) (aQ n 0 v λw=>aQ n 1 v λx=>aQ n 2 v λy=>aQ n 3 v λz=>aQ n 4 v λaa=>W3.c a w x y z aa v λab ac=>If ab (f 5 ac) (bV (λad ae=>If ad (f 10 ae) (aQ n 0 ae λaf=>aQ n 1 ae λag=>aQ n 2 ae λah=>aQ n 3 ae λai=>aQ n 4 ae λaj=>XY.c a af ag ah ai aj (-1234567) ae λak=>bI a 1 ak λam=>lC .i64 (.ag 5) am c ak λan=>bI a 2 an λap=>kf .i64 .b ap c true an λaq=>bF a 0 aq λau=>bM ((n.add 0).add 2) aq λav=>Zj.c au b av aq λaw ax=>f 0 ax)) λay=>If d (aQ n 0 ac λaz=>aQ n 1 ac λa0=>aQ n 2 ac λa1=>aQ n 3 ac λa2=>aQ n 4 ac λa3=>W5.c a az a0 a1 a2 a3 ac λa4 a5=>ay (decide (((a4.len:Nat):Int)>0)) a5) (ay false ac))))) λa6=>If (!m.isSome) (bI a 2 t λa8=>
 Lk .i64 .b a8 c t λa9=>a6 (a9.getD false) t) (a6 false t)))
theorem XU.o {a b c d e f}(g:XU.v a b c d e f):XU.c a b c d e f:=Wa Tryz.func63 (x:=XU.h) (R0 g)
def Qm.h:Hn:=.q .o1 (.q (.cR (.seq [.op,.op,.op,.cX true 4 (RI.ops 4),.op])) .l)
def Qm.v (a:R2)(b:Hp)(c:aO):Prop:=bV (λd e=>c d e) λf=>If (!a.isNone) (XZ.c a b λg h i j k l=>f (decide (g>0)) l) (f false b)
theorem Qm.o {a b c}(d:Qm.v a b c):Qm.c a b c:=Wa Tryz.func65 (x:=Qm.h) (R0 d)
def cI.qX (l:Nat)(cap0:Addr)(U:Hp)(R:aP):Prop:=Aa Tryz.prog 82 #[.func (.yield l) #[] #[],.pointer (some cap0)] U R
def cI.wF:Hn:=.seq (.seq (.o 4) (.block (.loop [(3,.one bN)] (.seq (.seq (.o 5) (.cond (.leaf) (.leaf))) (.seq (.block (.seq (.leaf) (.cond (.leaf) (.leaf)))) (.o 3)))))) (.seq (.cR (.held true [] (.tk [0,1,2,3] (.all [(4,.take 5 (.take 6 (.done)))])))) (.block (.loop [(4,.one bN)] (.seq (.seq (.o 10) (.cond (.leaf) (.leaf))) (.seq (.block (.seq (.leaf) (.cond (.leaf) (.leaf)))) (.o 3))))))
def cI.vu (l:Nat)(cap0:Addr)(U:Hp)(R:aP):Prop:=
 gA .i64 ((cap0.add 0).add 2) U λvw=>
 X9 [bN] (λI=>I vw U) λJ (vw1:Int) v=>
 gA .i64 ((cap0.add 0).add 0) v λt11=>
 If (decide (vw1<t11)) (Ha Tryz.prog l [.int .i64 vw1] v λmore v1=>
  If (!more) (R v1)
   (Ar .i64 (vw1+8) λvw2=>
   J vw2 v1))
  (eI v λS=>
  gE S bN ((cap0.add 0).add 0) λ(t21:Int)=>
  gE S bN (cap0.add 0) λ(t22:Int)=>
  gE S bN (cap0.add 1) λ(t221:Int)=>
  gE S bN (cap0.add 2) λ(t222:Int)=>
  gE S bN (cap0.add 3) λ(t223:Int)=>
  gE S bN (cap0.add 4) λ(t224:Int)=>
  Xj.c t22 t221 t222 t223 t224 v λt23 v2=>
  And (S v2) <|
  Ar .i64 (t21+t23) λvw3=>
  X9 [bN] (λI1=>I1 vw3 v2) λJ1 (vw4:Int) v3=>
  Ar .i64 (vw4+8) λt26=>
  gA .i64 ((cap0.add 0).add 2) v3 λt29=>
  gA .i64 ((cap0.add 0).add 3) v3 λt32=>
  Ar .i64 (t29+t32) λt33=>
  If (decide (t26<=t33)) (Ha Tryz.prog l [.int .i64 vw4] v3 λmore1 v4=>
   If (!more1) (R v4)
    (Ar .i64 (vw4+8) λvw5=>
    J1 vw5 v4))
   (R v3))
theorem cI.sT {l:Nat}{cap0:Addr}{U:Hp}{R:aP}(hv:cI.vu l cap0 U R):cI.qX l cap0 U R:=
 O7 Tryz.func82 (x:=cI.wF) (args:=[.func (.yield l) #[] #[],.pointer (some cap0)]) (R:=R) (R0 hv)
def Yd.h:Hn:=.q .o1 (.q (.q (.cR (.seq [.op,.op,.op,.cX false 8 (RI.ops 8)])) .aK) (.q (.q .o7 .aK) .aM))
def Yd.v (a:R2)(b:Int)(c:Hp)(d:aN):Prop:=bV (λe f=>If e (d 1 f) (bF a 0 f λh=>YV.c h b f λi j=>If (!(i.toList==(ByteArray.mk #[]).toList)) (d 5 j) (d 0 j))) λk=>If (b<0) (k true c) (bF a 0 c λm=>XZ.c m c λn o p q r s=>k (decide (b≥p)) s)
theorem Yd.o {a b c d}(e:Yd.v a b c d):Yd.c a b c d:=Wa Tryz.func90 (x:=Yd.h) (R0 e)
end Go.Proofs
namespace Go.Ar
open Go Go.Vc Go.Proofs
open Go.Vc (bW dB cS)
variable {U σ0 v w w':Hp}{F P Q X T:Rg}{L:dJ}{H H':Hw}{held:List Pc}{s0 sp:Sp}{t n:Nat}{g:Th}{gb km fm m:Nat}
theorem gV {S:aP}{b i:Nat}{cs:List Value}{c:CK}{y:c.T}(hS:∀m,S m->bY m b cs)(hc:cs[i]?=some (c.v y)){K:c.T->Prop}(hK:K y):gE S c (Addr.add ⟨b,0,none⟩ i) K:=
 ⟨y,λm a=>by rw[add_lit,(hS m a).cell,zH];exact hc,hK⟩
theorem sf {S:aP}{b:Nat}{cs:List Value}{c:CK}{y:c.T}(hS:∀m,S m->bY m b cs)(hc:cs[0]?=some (c.v y)){K:c.T->Prop}(hK:K y):gE S c ⟨b,0,none⟩ K:=
 ⟨y,λm a=>by rw[(hS m a).cell];exact hc,hK⟩
theorem og {S:aP}{b i j:Nat}{cs:List Value}{c:CK}{y:c.T}(hS:∀m,S m->bY m b cs)(hc:cs[i+j]?=some (c.v y)){K:c.T->Prop}(hK:K y):gE S c (Addr.add (Addr.add ⟨b,0,none⟩ i) j) K:=
 ⟨y,λm a=>by rw[add_lit,add_lit,(hS m a).cell,zH];exact hc,hK⟩
abbrev B5:=Int×Int×Int×Int×Int
def eW (b:B5):List Value:=[.int .i64 b.1,.int .i64 b.2.1,.int .i64 b.2.2.1,.int .i64 b.2.2.2.1,.int .i64 b.2.2.2.2]
def Zr (n:Int):Int:=(n+7)/8*8
structure hO (b:B5):Prop where
 s:1<=b.2.1/\b.2.1<=1024
 base:0<=b.2.2.1/\b.2.2.1%8=0
 z:16<=b.1-b.2.2.1/\b.1-b.2.2.1<=256/\b.1%8=0
 t:b.1+Zr b.2.1+16<=b.2.2.1+b.2.2.2.1/\b.2.2.2.1%8=0
 m:b.2.2.1+b.2.2.2.1<=270000
theorem Z2 {n:Int}(h:0<=n):n<=Zr n/\Zr n<=n+7/\Zr n%8=0:=by unfold Zr;omega
structure Gu where
 kn:List (Int×B5)
 fr:List (Int×Bool)
 no:Int
def nD:Gu:=⟨[],[],0⟩
def Vv (b:B5):Nat:=(b.1-b.2.2.1).toNat/8
def px (b:B5):Nat:=(b.2.2.1+b.2.2.2.1-b.1-Zr b.2.1).toNat/8
def Zb (b:B5):List Int:=((List.range (Vv b)).map λ(i:Nat)=>b.2.2.1+8*(i:Int))++(List.range (px b)).map λ(i:Nat)=>b.1+Zr b.2.1+8*(i:Int)
theorem Ew (b:B5):(Zb b).length=Vv b+px b:=by unfold Zb;simp
theorem Sb {b:B5}{i:Nat}(h:i<Vv b):(Zb b)[i]?=some (b.2.2.1+8*(i:Int)):=by
 unfold Zb;rw[ze (by simpa using h)];simp[h]
theorem Ii {b:B5}{i:Nat}(h:i<px b):(Zb b)[Vv b+i]?=some (b.1+Zr b.2.1+8*(i:Int)):=by
 unfold Zb;rw[zp aA];simp[h]
theorem U1 {b:B5}(bi:hO b){z:Int}(hz:z∈Zb b):b.2.2.1<=z/\z%8=0/\z+8<=b.2.2.1+b.2.2.2.1/\(z+8<=b.1\/b.1+Zr b.2.1<=z):=by
 obtain⟨s,⟨e,r⟩,⟨d,j,u⟩,⟨t,g⟩,m⟩:=bi;have p:=Z2 (n:=b.2.1) O;unfold Zb at hz;rcases zL.1 hz with h|h
 ·obtain⟨i,a,rfl⟩:=zE.1 h;have:=zg.1 a;unfold Vv at this;exact⟨O,O,O,.inl O⟩
 ·obtain⟨i,a,rfl⟩:=zE.1 h;have:=zg.1 a;unfold px at this;exact⟨O,O,O,.inr O⟩
def jx (z:Int):Int:=-z-1
def rq (hp km fm:Nat)(x:Gu):List Value:=[.pointer (some ⟨hp,0,none⟩),.map (some km),.map (some fm),.int .i64 x.no]
structure GP (σ0 U:Hp) (L:dJ) (H:Hw) (held:List Pc) (s0:Sp) (P:Rg) (gb km fm:Nat) (x:Gu):Prop where
 e:bK σ0 U
 h:HH U P L H
 hi:HI H held s0
 cf:lu H
 pg:H.cf.aF<=128
 pP:∀b,P b->σ0.size<=b/\b<U.size
 rK:σ0.size<=gb/\¬P gb
 sZ:σ0.size<=km/\¬P km
 tH:σ0.size<=fm/\¬P fm
 n1:gb≠km
 n2:gb≠fm
 n3:km≠fm
 b:bY U gb (rq L.p km fm x)
 m:dH U km .i64 (.ag 5) x.kn
 f:dH U fm .i64 .b x.fr
 g0:iV (λb=>σ0.size<=b)/\¬σ0.size<=1
variable {x y:Gu}
theorem GP.fr (p:GP σ0 U L H held s0 P gb km fm x)(e:bK U w):GP σ0 w L H held s0 P gb km fm x:=
 ⟨p.e.trans e,p.h.bO e,p.hi,p.cf,p.pg,λb a=>⟨(p.pP b a).1,by have:=(p.pP b a).2;have:=e.1;omega⟩,p.rK,p.sZ,p.tH,p.n1,p.n2,p.n3,e.bT p.b id,e.fQ p.m id,e.fQ p.f id,p.g0⟩
theorem GP.out (p:GP σ0 U L H held s0 P gb km fm x)(e:Ext T U w)(hT:∀b,b<U.size->T b->¬P b/\b≠gb/\b≠km/\b≠fm/\σ0.size<=b):GP σ0 w L H held s0 P gb km fm x:=by
 have s:=e.1;have a:=p.b.lt;have j:=p.m.lt;have g:=p.f.lt;have i:Ext (λb=>T b/\b<U.size) U w:=⟨e.1,λb a g=>e.2 b a λd=>g ⟨d,a⟩⟩;refine⟨Ext.dT p.e i λb a=>.inr (hT b a.2 a.1).2.2.2.2,p.h.bS i (λb a r d=>(hT b a d.1).1 r) (λb a=>?_) (λa=>?_),p.hi,p.cf,p.pg,λb a=>⟨(p.pP b a).1,by have:=(p.pP b a).2;omega⟩,p.rK,p.sZ,p.tH,p.n1,p.n2,p.n3,e.bT p.b λd=>(hT gb a d).2.1 rfl,e.fQ p.m λd=>(hT km j d).2.2.1 rfl,e.fQ p.f λd=>(hT fm g d).2.2.2.1 rfl,p.g0⟩
 ·exact p.g0.1 b (hT b a.2 a.1).2.2.2.2
 ·exact p.g0.2 (hT _ a.2 a.1).2.2.2.2
theorem GP.step (p:GP σ0 U L H held s0 P gb km fm x){ts':List eH}(e:Ext P U w)(h':HH w (Grow P U) {L with ts:=ts'} H'){held':List Pc}{s0':Sp}(hi':HI H' held' s0')(k:Qu H' H) :
 GP σ0 w {L with ts:=ts'} H' held' s0' (Cut (Grow P U) w) gb km fm x:=by
 have u:=e.1;have a:=p.b.lt;have j:=p.m.lt;have r:=p.f.lt;have g:∀b,b<U.size->¬P b->¬Cut (Grow P U) w b:=λb d i s=>by
  rcases s.1 with h3|h3
  ·exact i h3
  ·omega
 refine⟨Ext.dT p.e e λb a=>.inr (p.pP b a).1,h'.cut,hi',p.cf.bS k,by rw[k.2.1];exact p.pg,λb a=>⟨?_,a.2⟩,⟨p.rK.1,g gb a p.rK.2⟩,⟨p.sZ.1,g km j p.sZ.2⟩,⟨p.tH.1,g fm r p.tH.2⟩,p.n1,p.n2,p.n3,e.bT p.b p.rK.2,e.fQ p.m p.sZ.2,e.fQ p.f p.tH.2,p.g0⟩;have:=p.e.1;rcases a.1 with d|d
 ·exact(p.pP b d).1
 ·omega
theorem GP.fC (p:GP σ0 U L H held s0 P gb km fm x)(e:Ext (λb=>b=gb\/b=km\/b=fm) U w)(hb:bY w gb (rq L.p km fm y))(hm:dH w km .i64 (.ag 5) y.kn)(hf:dH w fm .i64 .b y.fr):GP σ0 w L H held s0 P gb km fm y:=by
 have i:=e.1;have a:∀b,(b=gb\/b=km\/b=fm)->σ0.size<=b/\¬P b:=λb hb=>by
  rcases hb with rfl|rfl|rfl
  ·exact p.rK
  ·exact p.sZ
  ·exact p.tH
 exact⟨Ext.dT p.e e λb hb=>.inr (a b hb).1,p.h.bS e (λb _ g d=>(a b d).2 g) (λb hb=>p.g0.1 b (a b hb).1) (λhb=>p.g0.2 (a _ hb).1),p.hi,p.cf,p.pg,λb hb=>⟨(p.pP b hb).1,by have:=(p.pP b hb).2;omega⟩,p.rK,p.sZ,p.tH,p.n1,p.n2,p.n3,hb,hm,hf,p.g0⟩
theorem Vi (p:GP σ0 U L H held s0 P gb km fm x){R:aO}(hR:R true U):WE.c (aW gb) U R:=by
 refine WE.o ?_;unfold WE.v;exact bV.intro (cE rfl (aG (p.b.rP rfl hR)))
theorem U4 (b:B5)(h0:0<=b.2.1)(h1:b.2.1<=1000000){R:aN}(hR:∀σ',bK U σ'->R (Zr b.2.1) σ'):Xj.c b.1 b.2.1 b.2.2.1 b.2.2.2.1 b.2.2.2.2 U R:=by
 refine Xj.o ?_;unfold Xj.v;refine nw (cs:=eW b) λv d e a=>a.eZ rfl (ar O O (ar O O (nz aB (ar (by rw[XO O];omega) (by rw[XO O];omega) ?_))));rw[XO O];refine ar O O ?_;have:(b.2.1+8-1)/8*8=Zr b.2.1:=by unfold Zr;omega
 rw[this];exact hR v e
theorem Ey (z:Int)(h0:0<=z)(h1:z<=1000000){R:aN}(hR:R (jx z) U):ZD.c z U R:=by
 refine ZD.o ?_;unfold ZD.v;refine ar O O (ar O O ?_);have:0-z-1=jx z:=by unfold jx;omega
 rw[this];exact hR
theorem E0 (b:B5){R:Fv->Hp->Prop}(hR:∀σ',σ'.size=U.size+1->bK U σ'->bY σ' U.size (eW b)->R ⟨82,#[],#[.pointer (some ⟨U.size,0,none⟩)]⟩ σ'):XB.c b.1 b.2.1 b.2.2.1 b.2.2.2.1 b.2.2.2.2 U R:=by
 refine XB.o ?_;unfold XB.v;exact nw (cs:=eW b) λv d e a=>hR v d e a
theorem CI {P:Program}{l:Nat}{args:List Value}{h:Hp}{R R':Bool->Hp->Prop}(hy:Ha P l args h R)(hm:∀b w,R b w->R' b w):Ha P l args h R':=λw m=>by
 obtain⟨p,a,s,i,g,u⟩:=hy w m;exact⟨p,a,s,i,g,u.mono λe x ⟨j,b,d,r⟩=>⟨j,b,d,hm _ _ r⟩⟩
theorem Eu {b:B5}(bi:hO b):vB Tryz.prog ⟨82,#[],#[.pointer (some ⟨n,0,none⟩)]⟩ ((Zb b).map (e1 bN)) (λs=>bY s n (eW b)):=by
 intro l J hst hKp hy h h0;obtain⟨s,⟨N,L⟩,⟨M,R,Q⟩,⟨t,H⟩,P⟩:=bi;have K:=Z2 (n:=b.2.1) O;have D:(Vv b:Int)*8=b.1-b.2.2.1:=by unfold Vv;omega
 have F:(px b:Int)*8=b.2.2.1+b.2.2.2.1-b.1-Zr b.2.1:=by unfold px;omega
 show cI.qX l ⟨n,0,none⟩ h λE=>J ((Zb b).map (e1 bN)).length E;rw[zl,Ew];refine cI.sT ?_;unfold cI.vu;refine(hKp 0 h h0).eZ rfl (ZX (a:=bN) (λ(z:Int) s=>∃i:Nat,z=b.2.2.1+8*(i:Int)/\i<=Vv b/\J i s) (λz _=>(b.1-z).toNat) ⟨0,O,O,h0⟩ ?_);rintro(z:Int) s ⟨i,rfl,hi,hJ⟩;have B:=hKp i s hJ;refine B.eZ rfl (cQ (λx=>?_) λw=>?_)
 ·have d:i<Vv b:=by omega
  have A:((Zb b).map (e1 bN))[i]?=some [Value.int .i64 (b.2.2.1+8*(i:Int))]:=by rw[za,Sb d];rfl
  refine CI (hy i _ A s hJ) λG C ⟨j,g⟩=>?_;subst j;exact cB rfl (ar O O ⟨⟨i+1,O,O,g⟩,O⟩)
 ·have d:i=Vv b:=by omega
  subst d;have p:∀m,bK s m->bY m n (eW b):=λm e=>e.bT B id;refine⟨λm=>bK s m,Ext.refl _ _,og (c:=bN) (y:=b.1) p rfl (gV (c:=bN) (y:=b.1) p rfl (gV (c:=bN) (y:=b.2.1) p rfl (gV (c:=bN) (y:=b.2.2.1) p rfl (gV (c:=bN) (y:=b.2.2.2.1) p rfl (gV (c:=bN) (y:=b.2.2.2.2) p rfl ?_)))))⟩;refine U4 b O O λs1 r=>⟨r,ar O O ?_⟩;refine ZX (a:=bN) (λ(z:Int) s=>∃i:Nat,z=b.1+Zr b.2.1+8*(i:Int)/\i<=px b/\J (Vv b+i) s) (λz _=>(b.2.2.1+b.2.2.2.1-z).toNat) ⟨0,O,O,hst _ _ _ hJ r⟩ ?_;rintro(z:Int) s2 ⟨i,rfl,hi,hJ2⟩;have u:=hKp _ s2 hJ2;refine ar O O (u.eZ rfl (u.eZ rfl (ar O O (cQ (λx=>?_) λw=>?_))))
  ·have d:i<px b:=by omega
   have A:((Zb b).map (e1 bN))[Vv b+i]?=some [Value.int .i64 (b.1+Zr b.2.1+8*(i:Int))]:=by rw[za,Ii d];rfl
   refine CI (hy _ _ A s2 hJ2) λG C ⟨j,g⟩=>?_;subst j;exact cB rfl (ar O O ⟨⟨i+1,O,O,g⟩,O⟩)
  ·have d:i=px b:=by omega
   subst d;exact hJ2
def Uy (H:Hw)(b:B5):Bool:=!(Ki H b.2.2.1==some b.2.2.2.1)
theorem UW (p:GP σ0 U L H held s0 P gb km fm x)(b:B5){R:aO}(hR:∀σ',bK U σ'->R (Uy H b) σ'):W3.c (aW gb) b.1 b.2.1 b.2.2.1 b.2.2.2.1 b.2.2.2.2 U R:=by
 refine W3.o ?_;unfold W3.v;refine nw (cs:=eW b) λv s e g=>?_;have j:=p.fr e;refine⟨λm=>bK v m,Ext.refl _ _,aG (gV (c:=.p) (y:=some ⟨L.p,0,none⟩) (λm e=>e.bT j.b id) rfl (og (c:=bN) (y:=b.2.2.1) (λm e=>e.bT g id) rfl (UH j.h b.2.2.1 λr e1=>?_)))⟩;have d:=e1.bT g id;have a:=hR r (e.trans e1);refine bV.intro ?_;cases hu:Ki H b.2.2.1 with
 | none=>
  unfold Uy at a;rw[hu]at a;exact cE rfl a
 | some u=>
  unfold Uy at a;rw[hu]at a;refine cB rfl (d.eZ rfl ?_);have:(!(some u==some b.2.2.2.1))=((some u).getD 0 != b.2.2.2.1):=by simp[bne]
  rw[this]at a;exact a
def Ke (H:Hw)(thread:Int):Int:=if thread<0\/thread≥(H.cf.threads:Int)then 1 else if(Uf H thread).isSome then 5 else 0
theorem NO (p:GP σ0 U L H held s0 P gb km fm x)(thread:Int){R:aN}(hR:∀σ',bK U σ'->R (Ke H thread) σ'):Yd.c (aW gb) thread U R:=by
 refine Yd.o ?_;unfold Yd.v;refine QZ (λr u=>bK U u/\r=decide (thread<0\/thread≥(H.cf.threads:Int))) (λr u ⟨d,j⟩=>?_) λJ g=>?_
 ·by_cases hc:thread<0\/thread≥(H.cf.threads:Int)
  ·have a:=hR u d;unfold Ke at a;rw[zC hc]at a;exact cE (by rw[j];exact zJ hc) a
  ·have i:=p.fr d;refine cB (by rw[j];exact zK hc) (aG (i.b.rP rfl (MJ i.h thread λs m e2 y=>?_)));have a:=hR m (d.trans e2);unfold Ke at a;rw[zB hc]at a;rw[y];cases hp:Uf H thread with
   | none=>rw[hp]at a;exact cB rfl a
   | some q=>rw[hp]at a;exact cE rfl a
 ·refine cQ (λh=>g _ _ ⟨Ext.refl _ _,by rw[zJ];exact .inl h⟩) λh=>aG (p.b.rP rfl (C3 p.h λu e=>g _ _ ⟨e,?_⟩));rw[lZ,decide_eq_true_iff,decide_eq_true_iff];exact⟨.inr,λw=>w.resolve_left h⟩
theorem Ox (h:HH U F L H)(hp:1<=H.cf.aF){R:aO}(hR:∀σ',bK U σ'->R true σ'):Qm.c (aW L.p) U R:=by
 refine Qm.o ?_;unfold Qm.v;refine bV.intro (cE rfl (C3 h λw e=>?_));have:decide ((H.cf.aF:Int)>0)=true:=zJ O;rw[this];exact hR w e
theorem F9 (e0:bK σ0 U)(h:HH U P L H)(hi:HI H held s0)(hc:lu H)(hpg:H.cf.aF<=128)(hP:∀b,P b->σ0.size<=b/\b<U.size)(hg:iV (λb=>σ0.size<=b)/\¬σ0.size<=1){R:Option Addr->Int->Hp->Prop}
 (hR:∀w gb km fm,bK U w->U.size<=gb/\U.size<=km/\U.size<=fm->GP σ0 w L H held s0 P gb km fm nD->R (some ⟨gb,0,none⟩) 0 w):Qw.c (aW L.p) U R:=by
 refine Qw.o ?_;unfold Qw.v;refine Ox h hc.1 λv e=>cB rfl (tE λi r e1 y=>tE λA u e2 x=>nw (cs:=rq L.p v.size i.size nD) λv3 m g z=>?_);have B:=e.1;have C:=e0.1;have a:=((e.trans e1).trans e2).trans g;have d:∀b,U.size<=b->¬P b:=λb D s=>by have:=(hP b s).2;omega
 exact hR v3 A.size v.size i.size a ⟨O,O,O⟩ ⟨e0.trans a,h.bO a,hi,hc,hpg,λb j=>⟨(hP b j).1,by have:=(hP b j).2;have:=a.1;omega⟩,⟨O,d _ O⟩,⟨O,d _ O⟩,⟨O,d _ O⟩,O,O,O,z,(e2.trans g).fQ (y _ _) id,g.fQ (x _ _) id,hg⟩
end Go.Ar
namespace Go.Ar
open Go Go.Vc Go.Proofs
open Go.Vc (bW dB cS)
variable {U σ0 v w w':Hp}{F P Q X T:Rg}{L:dJ}{H H':Hw}{held:List Pc}{s0 sp:Sp}{t n:Nat}{g:Th}{gb km fm m:Nat}{x y:Gu}{b:B5}
def j8 (sp:Sp)(l:List Int)(f:Int->Int):Sp:=l.foldl (λs z=>ZV s z (f z)) sp
theorem OS (sp:Sp)(z:Int)(l:List Int)(f:Int->Int):j8 sp (z::l) f=j8 (ZV sp z (f z)) l f:=rfl
theorem Dp (sp:Sp)(l:List Int)(z:Int)(f:Int->Int):j8 sp (l++[z]) f=ZV (j8 sp l f) z (f z):=by unfold j8;rw[vM];rfl
theorem Ur {sp:Sp}{x:Nat}:eR sp ((8*x:Nat):Int)=0↔gf sp.st (x/32)≠0:=by
 unfold eR;rw[zB O,show((8*x:Nat):Int).toNat/256=x/32 by omega];unfold gf;split
 ·rename_i h;rw[h];simp
 ·rename_i h;exact⟨λ_=>h,λ_=>rfl⟩
theorem GB (sp:Sp)(x:Nat):QX sp ((8*x:Nat):Int)=if gf sp.st (x/32)≠0 then sp.wd x else 0:=by
 unfold QX;by_cases h:gf sp.st (x/32)≠0
 ·rw[zC (Ur.2 h),zC h];congr 1;omega
 ·rw[zB (λa=>h (Ur.1 a)),zB h]
theorem xA (f:Int->Int):∀(l:List Int) (sp:Sp),(∀z∈l,0<=z/\z%8=0)->(j8 sp l f).st.length=sp.st.length/\(∀p,gf (j8 sp l f).st p=0↔gf sp.st p=0) ∧
 ∀w:Nat,(j8 sp l f).wd w=if((8*w:Nat):Int)∈l/\gf sp.st (w/32)≠0 then f ((8*w:Nat):Int)else sp.wd w
 | [],sp,_=>⟨rfl,λ_=>Iff.rfl,λw=>by rw[zB aA];rfl⟩
 | z::l,sp,hl=>by
  obtain⟨i1,i2,i3⟩:=xA f l (ZV sp z (f z)) λz a=>hl z (nB _ a);obtain⟨e,b,d⟩:=Fp sp z (f z);have m:=hl z pw;obtain⟨zn,rfl⟩:∃c:Nat,z=((8*c:Nat):Int):=⟨z.toNat/8,O⟩;rw[OS];refine⟨i1.trans e,λp=>(i2 p).trans (b p),λw=>?_⟩;rw[i3,d];have a:=b (w/32);by_cases hm:gf sp.st (w/32)≠0
  ·by_cases hw:((8*w:Nat):Int)∈l
   ·rw[zC ⟨hw,λh=>hm (a.1 h)⟩,zC ⟨nB _ hw,hm⟩]
   ·rw[zB λh=>hw h.1];by_cases he:w=zn
    ·subst he;rw[zC ⟨Ur.2 hm,O⟩,zC ⟨pw,hm⟩]
    ·rw[zB λh=>he (by have:=h.2;omega),zB λh=>(zW.1 h.1).elim (λh=>he O) hw]
  ·have key:¬(eR sp ((8*zn:Nat):Int)=0/\w=((8*zn:Nat):Int).toNat/8):=λh=>by
    have i:=Ur.1 h.1;have g:w=zn:=by omega
    subst g;exact hm i
   rw[zB λh=>hm λj=>h.2 (a.2 j),zB key,zB λh=>hm h.2]
theorem HI.j8 (f:Int->Int):∀(l:List Int) {H:Hw} {s0:Sp},HI H held s0->∃s0',HI {H with sp:=Go.Ar.j8 H.sp l f} held s0'
 | [],H,s0,h=>⟨s0,h⟩
 | z::l,H,s0,h=>HI.j8 f l (h.write z (f z))
theorem KY {f:Int->Int}{l:List Int}{sp:Sp}(hl:∀z∈l,0<=z/\z%8=0)(w:Nat):QX (j8 sp l f) ((8*w:Nat):Int)=if((8*w:Nat):Int)∈l/\gf sp.st (w/32)≠0 then f ((8*w:Nat):Int)else QX sp ((8*w:Nat):Int):=by
 obtain⟨_,a,b⟩:=xA f l sp hl;rw[GB,GB];by_cases hm:gf sp.st (w/32)≠0
 ·rw[zC λh=>hm ((a _).1 h),b];by_cases hw:((8*w:Nat):Int)∈l
  ·rw[zC ⟨hw,hm⟩,zC ⟨hw,hm⟩]
  ·rw[zB λh=>hw h.1,zB λh=>hw h.1,zC hm]
 ·rw[zB λh=>hm λd=>h ((a _).2 d),zB λh=>hm h.2,zB hm]
def sF (b:B5):Nat:=(Zr b.2.1/8).toNat
def Qy (b:B5):List Int:=(List.range (sF b)).map λ(i:Nat)=>b.1+8*(i:Int)
theorem AJ (bi:hO b){z:Int}(hz:z∈Qy b):b.1<=z/\z%8=0/\z+8<=b.1+Zr b.2.1:=by
 obtain⟨s,⟨e,r⟩,⟨d,j,u⟩,⟨t,g⟩,m⟩:=bi;have p:=Z2 (n:=b.2.1) O;obtain⟨i,a,rfl⟩:=zE.1 hz;have:=zg.1 a;unfold sF at this;omega
theorem GP.write (p:GP σ0 U L H held s0 P gb km fm x)(gc:Gc σ0)(z u:Int)(hz:z<=9223372036854775807){R:aN}
 (hR:∀w s0' P',Ext P U w->GP σ0 w L {H with sp:=ZV H.sp z u} held s0' P' gb km fm x->(∀c,P' c->P c\/U.size<=c)->R (eR H.sp z) w):W8.c (aW L.p) z u U R:=by
 refine N6 p.h (gc.bO p.e) z u hz λw e b=>?_;exact hR w _ _ e (p.step (ts':=L.ts) e b (p.hi.write z u) ⟨rfl,rfl,rfl,rfl⟩) λc a=>a.1
theorem Ej {D:Nat}{s:Hp}{K:aP}(h:s[D]?=some (.deferred (some [])))(hK:∀w,Ext (· = D) s w->K w):uP D s K:=
 ⟨h,hK _ ⟨by simp,λb d a=>by rw[Array.getElem?_setIfInBounds,zB λh=>a h.symm]⟩⟩
set_option maxRecDepth 8000 in
theorem DU (p:GP σ0 U L H held s0 P gb km fm x)(gc:Gc σ0)(bi:hO b)(val:Int){R:aP}
 (hR:∀w s0' P',Ext P U w->GP σ0 w L {H with sp:=j8 H.sp (Qy b) λ_=>val} held s0' P' gb km fm x->(∀c,P' c->P c\/U.size<=c)->R w):XY.c (aW gb) b.1 b.2.1 b.2.2.1 b.2.2.2.1 b.2.2.2.2 val U R:=by
 obtain⟨⟨s1,s2⟩,⟨V,N⟩,⟨Q,Z,Y⟩,⟨t,K⟩,X⟩:=bi;have M:=Z2 (n:=b.2.1) O;have hn:(sF b:Int)*8=Zr b.2.1:=by unfold sF;omega
 refine XY.o ?_;unfold XY.v;refine nw (cs:=eW b) λv W e B=>?_;refine ZX (a:=bN) (λ(z:Int) u=>∃(i:Nat) (s0':Sp) (P':Rg),z=8*(i:Int)/\i<=sF b/\Ext P v u/\bY u U.size (eW b)/\GP σ0 u L {H with sp:=j8 H.sp ((List.range i).map λ(j:Nat)=>b.1+8*(j:Int)) λ_=>val} held s0' P' gb km fm x/\∀c,P' c->P c\/v.size<=c) (λz _=>(Zr b.2.1-z).toNat)
  ⟨0,s0,P,O,O,Ext.refl _ _,B,p.fr e,λc d=>.inl d⟩ ?_
 rintro(z:Int) u ⟨i,s0',P',rfl,hi,eu,hbu,pu,hP⟩;refine hbu.rI rfl (hbu.rI rfl (hbu.rI rfl (hbu.rI rfl (hbu.rI rfl (U4 b O O λD e1=>?_)))));have g:=e1.bT hbu id;have s:=pu.fr e1;refine cQ (λG=>?_) λC=>?_
 ·refine aG (s.b.rP rfl (g.eZ rfl (ar O O (s.write gc _ val O λS m P'' e2 F y=>?_))));have A:=e1.1;have E:=eu.1;refine ar O O ⟨⟨i+1,m,P'',O,O,Ext.dT (eu.jU e1) e2 hP,e2.bT g λJ=>?_,?_,λc d=>?_⟩,O⟩
  ·rcases hP _ J with h|h
   ·have:=(p.pP _ h).2;omega
   ·omega
  ·rw[pR,j9,List.map_singleton,Dp];exact F
  ·rcases y c d with h|h
   ·exact hP c h
   ·exact .inr O
 ·have r:i=sF b:=by omega
  subst r;refine hR D _ _ ((bK.to e).trans (eu.jU e1)) s λc d=>?_;have:=e.1;exact(hP c d).imp id λh=>by omega
def jI (sp:Sp)(z:Int):Bool:=eR sp z != 0||QX sp z != jx z
def Km (sp:Sp)(b:B5):List Int:=(Zb b).filter (jI sp)
set_option maxRecDepth 16000 in
theorem HN (p:GP σ0 U L H held s0 P gb km fm x)(bi:hO b){R:Sl->Hp->Prop}
 (hR:∀s w Q,bK U w->bR s 1 (Wo (Km H.sp b)) w Q->(∀c,Q c->U.size<=c/\c<w.size)->R s w):W5.c (aW gb) b.1 b.2.1 b.2.2.1 b.2.2.2.1 b.2.2.2.2 U R:=by
 refine W5.o ?_;unfold W5.v;refine nw (cs:=[.pointer (some ⟨gb,0,none⟩)]) λv1 hz1 e1 b1=>nw (cs:=eW b) λM hz2 e2 b2=>nw (cs:=[.slice none 0 0]) λv3 hz3 Y b3=>?_;have j:=Y.bT b2 id;have W:=(e2.trans Y).bT b1 id;refine j.rI rfl (j.rI rfl (j.rI rfl (j.rI rfl (j.rI rfl (E0 b λv4 hz4 Z b4=>?_)))));have aa:=((e1.trans e2).trans Y).trans Z;have hzs:(Zb b).length<=100000:=by
  obtain⟨⟨s1,s2⟩,⟨b1,b2⟩,⟨z1,z2,z3⟩,⟨t,t2⟩,hm⟩:=bi;have hw:=Z2 (n:=b.2.1) O;rw[Ew];unfold Vv px;omega
 refine⟨rfl,by kernel_rfl,Zb b,_,λk s=>bK U s/\bY s U.size [.pointer (some ⟨gb,0,none⟩)]/\bY s v3.size (eW b)/\∃(sl:Sl) (Q:Rg),bY s M.size [.slice sl.a sl.len sl.cap]/\bR sl 1 (Wo (((Zb b).take k).filter (jI H.sp))) s Q/\∀c,Q c->v4.size+2<=c/\c<s.size,Eu bi,?_,λk s h=>h.2.2.1,?_,?_,?_⟩
 ·rintro k s s' ⟨B,E,K,sl,Q,C,D,A⟩ e;have hz:=e.1;refine⟨Ext.dT B e λc d=>.inr O,e.bT E O,e.bT K O,sl,Q,e.bT C O,aI.bS D e λc _ X d=>?_,λc d=>?_⟩
  ·have:=A c X;omega
  ·have:=A c d;omega
 ·exact⟨aa,(Z).bT W id,b4,⟨none,0,0⟩,λ_=>False,Z.bT b3 id,⟨rfl,.inl ⟨rfl,rfl⟩⟩,λc d=>d.elim⟩
 ·rintro k z hk s ⟨B,E,K,sl,Q,C,D,A⟩ hsz;have zi:=U1 bi (zG hk);have N:=bi.base;have hm:=bi.m;have hkl:=(cV.1 hk).1;have ps:=p.fr B;have G:(Zb b).take (k+1)=(Zb b).take k++[z]:=by rw[k9,hk];rfl
  refine E.rU rfl (aG (ps.b.rP rfl (DJ ps.h z O λv5 g=>?_)));have hz5:=g.1;refine QZ (λr u=>u=v5/\r=jI H.sp z) (λr u ⟨hu,hr⟩=>?_) λJ hJ=>?_
  ·subst hu;have F:=aI.bO D g;have i:∀c,Q c->c≠v4.size/\c≠v4.size+1/\c≠U.size/\c≠v3.size/\c≠M.size:=λc d=>by have:=A c d;omega
   refine cO (λN=>?_) λN=>?_
   ·refine(g.bT C id).tO rfl (Cw F ?_ z λs' v8 S h8=>?_)
    ·have B:=rZ (jI H.sp) ((Zb b).take k);rw[zZ]at B;omega
    have hz8:=S.1;have ab:=S.bT (g.bT C id) λd=>(i _ d).2.2.2.2 rfl;refine ab.s0 aA λv9 o9 h9=>?_;have e9:=o9.ext;have hz9:=o9.1;have y:Ext (λc=>Q c\/c=M.size) u v9:=(S.sub λc d=>.inl d).trans (e9.sub λc d=>.inr d);refine⟨⟨Ext.dT (B.trans g) y λc d=>?_,y.bT (g.bT E id) ?_,y.bT (g.bT K id) ?_,s',λc=>Q c\/u.size<=c/\c<v8.size,h9,?_,λc d=>?_⟩,?_,?_⟩
    ·rcases d with d|d
     ·have:=A c d;exact .inr O
     ·exact .inr O
    ·rintro(d|d)
     ·exact(i _ d).2.2.1 rfl
     ·omega
    ·rintro(d|d)
     ·exact(i _ d).2.2.2.1 rfl
     ·omega
    ·have:((Zb b).take (k+1)).filter (jI H.sp)=((Zb b).take k).filter (jI H.sp)++[z]:=by
      rw[G,uC,uc (by rw[←hr];exact N)];rfl
     rw[this];refine aI.bS h8 e9 λc _ d (hx:c=M.size)=>?_;rcases d with d|d
     ·exact(i _ d).2.2.2.2 hx
     ·omega
    ·rcases d with d|d
     ·have:=A c d;omega
     ·omega
    ·rw[y.2 _ O (by rintro(d|d);exact(i _ d).1 rfl;omega)];exact g.2 _ O id
    ·rw[y.2 _ O (by rintro(d|d);exact(i _ d).2.1 rfl;omega)];exact g.2 _ O id
   ·refine⟨⟨B.trans g,g.bT E id,g.bT K id,sl,Q,g.bT C id,?_,λc d=>?_⟩,g.2 _ O id,g.2 _ O id⟩
    ·have:((Zb b).take (k+1)).filter (jI H.sp)=((Zb b).take k).filter (jI H.sp):=by
      rw[G,uC,uj (by rw[←hr,N];decide),List.filter_nil,kV]
     rw[this];exact F
    ·have:=A c d;omega
  ·refine cO (λh=>hJ _ _ ⟨rfl,by unfold jI;rw[h];rfl⟩) λh=>Ey z O O (hJ _ _ ⟨rfl,by unfold jI;rw[h];rfl⟩)
 ·rintro s ⟨B,E,K,sl,Q,C,D,A⟩ hD;rw[mS]at D;refine C.tO rfl (Ej hD λw V=>?_);have hz:=V.1;refine hR sl w Q (Ext.dT B V λc d=>.inr O) (aI.bS D V λc _ X d=>?_) λc d=>?_
  ·have:=A c X;omega
  ·have:=A c d;omega
end Go.Ar
namespace Go.Ar
open Go Go.Vc Go.Proofs
open Go.Vc (bW dB cS)
variable {U w w':Hp}{F P Q X:Rg}{L:dJ}{H H':Hw}{held:List Pc}{s0:Sp}{t n:Nat}{g:Th}{σ0:Hp}{addrs:Sl}{ad:List Int}{l:Sl}{ds:List fP}
theorem hU.push (p:hU σ0 U L H held s0 P Q addrs ad){s':Sl}{x:Int}(e:Ext Q U w)(hr:bR s' 1 (Wo (ad++[x])) w (λb=>Q b\/U.size<=b/\b<w.size))(hl:(ad++[x]).length<=60):hU σ0 w L H held s0 P (λb=>Q b\/U.size<=b/\b<w.size) s' (ad++[x]):=by
 have j:=e.1;have g:=p.e.1;refine⟨Ext.dT p.e e λb a=>.inr (p.pQ b a).1,p.h.bS e (λb a d i=>(p.pQ b i).2.2 d) (λb a=>p.g0.1 b (p.pQ b a).1) (λa=>p.g0.2 (p.pQ _ a).1),p.hi,p.cf,p.pg,λb a=>⟨(p.pP b a).1,by have:=(p.pP b a).2;omega⟩,λb a=>?_,hr,hl,p.g0⟩;rcases a with a|a
 ·exact⟨(p.pQ b a).1,by have:=(p.pQ b a).2.1;omega,(p.pQ b a).2.2⟩
 ·exact⟨O,a.2,λd=>by have:=(p.pP b d).2;omega⟩
theorem F5 {tb:List bZ}{size align:Int}{k:Nat}(h:gN tb size align=some k):∃c,tb[k]?=some c/\size<=(c.size:Int)/\(c.size:Int)%align=0:=by
 unfold gN at h;obtain⟨b,a,_⟩:=m7.1 h;simp only[zF,zU,zT]at a;exact⟨tb[k],cU b,a.1,a.2⟩
theorem Pn {tb:List bZ}{size align:Int}(h:size<=16384/\Uz size align=true):size<=(G0 tb size align).1/\(G0 tb size align).2=0:=by
 unfold G0;rw[zC h];refine⟨?_,rfl⟩;cases hc:gN tb size align with
 | some k=>
  obtain⟨c,b,a,_⟩:=F5 hc;simp only;rw[zP,b];exact a
 | none=>simp only;unfold xB;omega
theorem AZ {live:List (Int×Bk)}{x:Int}(b:Bk):bW (dB live x b) x=some b:=by rw[VY,zC rfl]
end Go.Ar
namespace Go.Ar
open Go Go.Vc Go.Proofs
open Go.Vc (bW dB cS)
open Go.Bu (eX K0 UG)
variable {size align:Int}{U σ0 v w w':Hp}{F P Q X T:Rg}{L:dJ}{H H' H1:Hw}{held:List Pc}{s0 sp:Sp}{t n:Nat}{g:Th}{gb km fm m:Nat}{x y:Gu}{b:B5}
theorem _root_.Go.Vc.bY.s2 {U:Hp}{b o i j:Nat}{cs:List Value}(hb:bY U b cs){v:Value}(ho:o+i+j<cs.length){K:aP}(hK:∀h',Qo U h' b->bY h' b (cs.set (o+i+j) v)->K h'):dS (Addr.add (Addr.add ⟨b,o,none⟩ i) j) v U K:=by
 rw[add_lit];exact hb.s1 ho hK
def Mg (P:Rg)(gb km fm:Nat):Rg:=λb=>P b\/b=gb\/b=km\/b=fm
def mT (size align:Int):Bool:=decide (1<=size/\size<=1024/\1<=align/\align<=256)&&eX align
def zA (align:Int):Int:=if 16>align then 16 else align
theorem wK {align:Int}(h:align<=256):16<=zA align/\zA align<=256:=by unfold zA;split<;>omega
structure xG (H:Hw) (x:Gu) (size align:Int) (b:B5) (H1:Hw):Prop where
 me:qc H (zA align+Zr size+16) (zA align) H1 b.2.2.1 0
 a:b.1=b.2.2.1+zA align
 s:b.2.1=size
 u:Ki H1 b.2.2.1=some b.2.2.2.1
 n:b.2.2.2.2=x.no+1
 ok:mT size align=true
 bi:hO b
def lV (sp:Sp)(b:B5):Sp:=j8 (j8 sp (Zb b) jx) (Qy b) λ_=>0
def Gu.fS (x:Gu)(b:B5):Gu:=⟨dB x.kn b.1 b,x.fr,x.no+1⟩
theorem BD {a:Int}(h1:1<=a)(h2:a<=256)(hp:eX a=true):a%8=0\/a<8:=by
 by_cases h:a<8
 ·exact .inr h
 ·left;obtain⟨a,rfl⟩:=zc (show 0<=a by omega);rw[K0]at hp;have key:∀a:Nat,a<=256->8<=a->(a &&& (a-1)=0)->a%8=0:=by decide +kernel
  have:=key a O O (by have:=UG (a:=a) O O;rw[hp]at this;simpa using this);omega
theorem NV (hi:HI H1 held s0)(hok:mT size align=true){base:Int}(me:qc H (zA align+Zr size+16) (zA align) H1 base 0):∃u,Ki H1 base=some u/\hO (base+zA align,size,base,u,x.no+1):=by
 unfold mT at hok;rw[zF,zU]at hok;obtain⟨⟨m,j,r,g⟩,kp⟩:=hok;have s:=wK g;have y:=Z2 (n:=size) O;rcases me with⟨h,_⟩|⟨_,hm,hok,cl,hl,hcl⟩
 ·exact absurd rfl h
 have e:Ki H1 base=some (G0 H.tb (zA align+Zr size+16) (zA align)).1:=by unfold Ki;rw[hl,AZ];rfl
 have p:=(Pn (tb:=H.tb) ⟨hok.2.1,hok.2.2⟩).1;obtain⟨w,d,b⟩:=oF.1 e;have a:=hi.qW (Vg d);simp only at a;rw[b]at a;have i:zA align%8=0:=by
  unfold zA;split
  ·decide
  ·rcases BD r g kp with h|h
   ·exact h
   ·omega
 exact⟨_,e,⟨⟨m,j⟩,⟨a.2.1,a.2.2.1⟩,⟨by simp only;omega,by simp only;omega,by simp only;omega⟩,⟨by simp only;omega,a.2.2.2.1⟩,by simp only;omega⟩⟩
set_option maxRecDepth 16000 in
theorem CX (p:GP σ0 U L H held s0 P gb km fm x)(gc:Gc σ0)(x0:0<=x.no/\x.no<=100000)(thread size align:Int){R:Int->Int->Hp->Prop}
 (h0:∀w,mT size align=false->bK U w->R 0 1 w)
 (h1:∀e w ts H' held' s0' P',mT size align=true->e≠0->V8 H thread 0 (zA align+Zr size+16) (zA align) 0 H' 0 e->gg H H'->H'.live=H.live->Ext P U w->GP σ0 w {L with ts:=ts} H' held' s0' P' gb km fm x->(∀c,P' c->P c\/U.size<=c)->R 0 e w)
 (h2:∀b w ts H1 held' s0' P',xG H x size align b H1->V8 H thread 0 (zA align+Zr size+16) (zA align) 0 H1 b.2.2.1 0->gg H H1->Ext (Mg P gb km fm) U w->GP σ0 w {L with ts:=ts} {H1 with sp:=lV H1.sp b} held' s0' P' gb km fm (x.fS b)->(∀c,P' c->P c\/U.size<=c)->R b.1 0 w) :
 Xm.c (aW gb) thread size align U R:=by
 refine Xm.o ?_;unfold Xm.v;rw[show(if(16:Int)>align then(16:Int)else align)=zA align from rfl]
 refine nw (cs:=[.pointer (some ⟨gb,0,none⟩)]) λv hz e hn4=>hn4.rU rfl (Vi (p.fr e) (cB rfl ?_));refine QZ (λr u=>u=v/\r = !decide (1<=size/\size<=1024)) (λr u ⟨hu,hr⟩=>?_) λJ hJ=>cQ (λh=>hJ _ _ ⟨rfl,by rw[zK O];rfl⟩) λh=>hJ _ _ ⟨rfl,?_⟩
 ·rw[hu];refine QZ (λr u=>u=v/\r = !decide (1<=size/\size<=1024/\1<=align)) (λr1 u1 ⟨hu1,hr1⟩=>?_) λJ1 hJ1=>?_
  ·rw[hu1];refine QZ (λr u=>u=v/\r = !decide (1<=size/\size<=1024/\1<=align/\align<=256)) (λr2 u2 ⟨hu2,hr2⟩=>?_) λJ2 hJ2=>?_
   ·rw[hu2];refine QZ (λr u=>u=v/\r = !mT size align) (λr3 u3 ⟨hu3,hr3⟩=>?_) λJ3 hJ3=>?_
    ·rw[hu3];clear hr hr1 hr2 hu hu1 hu2 hu3;by_cases hgk:mT size align=true
     ·refine cB (by rw[hr3,hgk];rfl) ?_;have hk:=hgk;unfold mT at hk;rw[zF,zU]at hk;obtain⟨⟨k1,k2,k3,k4⟩,kp⟩:=hk;have hzz:=wK k4;have hww:=Z2 (n:=size) O;refine nw (cs:=[.int .i64 0,.int .i64 0,.int .i64 0,.int .i64 0,.int .i64 0]) λv6 hz6 e6 b6=>?_;refine b6.s1 aA λv7 o7 b7=>b7.s1 aA λv8 o8 b8=>b8.s1 aA λv9 o9 b9=>b9.s1 aA λv10 gT b10=>b10.s1 aA λv11 o11 b11=>?_;have bb:bY v11 v.size (eW (0,size,0,0,0)):=b11;have eo:Ext (· = v.size) v6 v11:=(((o7.ext.trans o8.ext).trans o9.ext).trans gT.ext).trans o11.ext;have e11:bK v v11:=Ext.fresh e6 eo λi (hi:i=v.size)=>by omega
      have p11:=(p.fr e).fr e11;have Q:=e11.bT hn4 id;have zv:U.size<v.size:=by omega
      have zb:=bb.lt;refine⟨λm=>bY m U.size [.pointer (some ⟨gb,0,none⟩)]/\bY m gb (rq L.p km fm x)/\bY m v.size (eW (0,size,0,0,0)),⟨Q,p11.b,bb⟩,?_⟩;refine sf (c:=.p) (y:=some ⟨gb,0,none⟩) (λm G=>G.1) rfl (aG (gV (c:=.p) (y:=some ⟨L.p,0,none⟩) (λm G=>G.2.1) rfl ?_));refine gV (c:=bN) (y:=0) (λm G=>G.2.2) rfl (gV (c:=bN) (y:=size) (λm G=>G.2.2) rfl (gV (c:=bN) (y:=0) (λm G=>G.2.2) rfl (gV (c:=bN) (y:=0) (λm G=>G.2.2) rfl (gV (c:=bN) (y:=0) (λm G=>G.2.2) rfl ?_))));refine U4 (0,size,0,0,0) aC aC λv12 B=>⟨⟨B.bT Q id,B.bT p11.b id,B.bT bb id⟩,?_⟩;refine ar aC aC (ar aC aC ?_);have p12:=p11.fr B;have e012:=(e.trans e11).trans B;have z1112:=B.1;obtain⟨H',a,er,hw,o,me⟩:=L8 p.hi thread (zA align+Zr size+16) (zA align);obtain⟨held',s0',hi'⟩:=o.hi;refine OB Fx p12.h p12.cf.2.2 hw λv13 ts K h13=>?_;have A:=p12.step K h13 hi' o.kp;have z12:=e012.1;have z13:=K.1;have nP:∀c,U.size<=c->¬P c:=λc h1 h2=>by have:=(p.pP c h2).2;omega
      have V:=K.bT (B.bT Q id) (nP _ (zD _));have bb13:=K.bT (B.bT bb id) (nP _ O);refine⟨⟨V,K.bT p12.b p.rK.2,bb13⟩,?_⟩;generalize hP1:Cut (Grow P v12) v13=P1 at A;have E:∀c,P1 c->P c\/U.size<=c:=λc d=>by
       rw[←hP1]at d;exact d.1.imp id λh=>by omega
      have M:∀c,P1 c->c<v13.size:=λc d=>by rw[←hP1]at d;exact d.2
      have F:∀c,c<v12.size->¬P c->¬P1 c:=λc h1 h2 C=>by
       rw[←hP1]at C;rcases C.1 with h4|h4
       ·exact h2 h4
       ·omega
      have E13:Ext P U v13:=(bK.to e012).trans K;refine cO (λhne=>?_) λheq=>?_
      ·have hne':er≠0:=by simpa using hne
       rcases me with⟨_,ha,hl⟩|⟨h,_⟩
       ·subst ha;exact h1 er v13 ts H' held' s0' P1 hgk hne' hw o hl E13 A E
       ·exact absurd h hne'
      ·have he0:er=0:=by simpa using heq
       subst he0;obtain⟨u,hu,Z⟩:=NV (x:=x) (size:=size) (align:=align) hi' hgk me;obtain⟨b,g⟩:∃b:B5,b=(a+zA align,size,a,u,x.no+1):=⟨_,rfl⟩;rw[←g]at Z;have hbs:=Z.base;have hbm:=Z.m;have hbz:=Z.z;have hbt:=Z.t;have hb1:b.1=a+zA align:=by rw[g]
       have hb2:b.2.1=size:=by rw[g]
       rw[hb2]at hbt;have N:b.2.2.1=a:=by rw[g]
       have hb4:b.2.2.2.1=u:=by rw[g]
       rw[N]at hbs;have gr:xG H x size align b H':=⟨by rw[N];exact me,by rw[hb1,N],by rw[g],by rw[N,hb4];exact hu,by rw[g],hgk,Z⟩;have hgb13:=A.b.lt;have hvg:v.size≠gb:=λh=>by have:=p.b.lt;omega
       have hsg:U.size≠gb:=λh=>by have:=p.b.lt;omega
       have hvk:v.size≠km:=λh=>by have:=p.m.lt;omega
       have hsk:U.size≠km:=λh=>by have:=p.m.lt;omega
       have hvf:v.size≠fm:=λh=>by have:=p.f.lt;omega
       refine V.rU rfl (aG (A.b.rI rfl (ar O O (aG (A.b.s1 (by simp[rq]) λX D b14=>?_)))));have p14:GP σ0 X {L with ts:=ts} H' held' s0' P1 gb km fm {x with no:=x.no+1}:=A.fC (D.ext.sub λc d=>.inl d) b14 (D.ext.fQ A.m λ(h:km=gb)=>p.n1 h.symm) (D.ext.fQ A.f λ(h:fm=gb)=>p.n2 h.symm);have hn14:=D.ext.bT V hsg;have bb14:=D.ext.bT bb13 hvg;refine hn14.rU rfl (aG (p14.b.rI rfl (ar O O ?_)));refine bb14.s1 (by simp[eW]) λv15 o15 b15=>b15.s2 (by simp[eW]) λv16 o16 b16=>b16.s2 (by simp[eW]) λv17 o17 b17=>?_;have e17:Ext (· = v.size) X v17:=(o15.ext.trans o16.ext).trans o17.ext;have hout:∀c,c<X.size->c=v.size->¬P1 c/\c≠gb/\c≠km/\c≠fm/\σ0.size<=c:=λc _ d=>by
        subst d;have:=p.e.1;exact⟨F _ O (nP _ O),hvg,hvk,hvf,O⟩
       have p17:=p14.out e17 hout;have hn17:=e17.bT hn14 (show ¬U.size=v.size by omega);refine hn17.rU rfl (aG (p17.b.rP rfl (UH p17.h a λv18 S=>?_)));rw[hu];refine(S.bT b17 id).s2 (by simp[eW]) λv19 o19 b19=>?_;have j:bY v19 v.size (eW b):=by rw[g];exact b19
       have p18:=p17.fr S;have z17:=o17.1;have z16:=o16.1;have z15:=o15.1;have z14:=D.1;have z18:=S.1;have z19:=o19.1;have p19:=p18.out o19.ext λc hc1 (d:c=v.size)=>by
        subst d;have:=p.e.1;exact⟨F _ O (nP _ O),hvg,hvk,hvf,O⟩
       have hn19:=o19.ext.bT (S.bT hn17 id) (show ¬U.size=v.size by omega);have E19:Ext (Mg P gb km fm) U v19:=by
        refine Ext.dT (((((E13.sub λc d=>.inl d).trans (D.ext.sub λc d=>.inr (.inl d))))):Ext (Mg P gb km fm) U X) (((e17.trans (bK.to S)).trans o19.ext):Ext (· = v.size) X v19) λc (d:c=v.size)=>.inr O
       refine j.rI rfl (j.rI rfl (j.rI rfl (j.rI rfl (j.rI rfl (E0 b λv20 hz20 W b20=>?_)))));have p20:=p19.fr W;have hn20:=W.bT hn19 id;have bb20:=W.bT j id;have z20:=W.1;have E20:Ext (Mg P gb km fm) U v20:=E19.jU W;refine⟨rfl,by kernel_rfl,Zb b,_,λk s=>Ext (Mg P gb km fm) U s/\v20.size<=s.size/\bY s U.size [.pointer (some ⟨gb,0,none⟩)]/\bY s v.size (eW b)/\bY s v19.size (eW b)/\∃(s0':Sp) (P':Rg),GP σ0 s {L with ts:=ts} {H' with sp:=j8 H'.sp ((Zb b).take k) jx} held' s0' P' gb km fm {x with no:=x.no+1}/\∀c,P' c->P1 c\/v20.size+2<=c,Eu Z,?_,λk s h=>h.2.2.2.2.1,?_,?_,?_⟩
       ·rintro k s s' ⟨i1,i2,i3,i4,i5,s1',P',i6,Y⟩ es;have zs:=es.1;have nn:∀c,c<v20.size->¬(c=v20.size\/c=v20.size+1):=λc h=>by omega
        refine⟨Ext.dT i1 es λc d=>.inr O,O,es.bT i3 (nn _ O),es.bT i4 (nn _ O),es.bT i5 (nn _ O),s1',P',i6.out es λc _ d=>?_,Y⟩;have:=p.e.1;have g1:=p.b.lt;have g2:=p.m.lt;have g3:=p.f.lt;refine⟨λhx=>?_,O,O,O,O⟩;rcases Y c hx with h|h
        ·have:=M c h;omega
        ·omega
       ·exact⟨E20,zD _,hn20,bb20,b20,s0',P1,p20,λc d=>.inl d⟩
       ·rintro k (z:Int) hk s ⟨i1,i2,i3,i4,i5,s1',P',i6,Y⟩ hsz;have zi:=U1 Z (zG hk);have hzk:0<=z/\z<=1000000:=by
         have z1:=zi.1;have z2:=zi.2.2.1;have h0:=Z.base.1;omega
        have htk:(Zb b).take (k+1)=(Zb b).take k++[z]:=by rw[k9,hk];rfl
        have n7:∀c,c<v20.size+2->(¬P1 c)->¬P' c:=λc h1 h2 C=>(Y c C).elim h2 λh=>by omega
        have q1:¬P1 U.size:=F _ O (nP _ (zD _));have q2:¬P1 v.size:=F _ O (nP _ O);have q3:∀c,v13.size<=c->¬P1 c:=λc h1 h2=>by have:=M c h2;omega
        refine⟨λm=>bY m U.size [.pointer (some ⟨gb,0,none⟩)]/\bY m gb (rq L.p km fm {x with no:=x.no+1}),⟨i3,i6.b⟩,sf (c:=.p) (y:=some ⟨gb,0,none⟩) (λm h=>h.1) rfl (aG (gV (c:=.p) (y:=some ⟨L.p,0,none⟩) (λm h=>h.2) rfl ?_))⟩;refine Ey z hzk.1 hzk.2 ⟨⟨i3,i6.b⟩,?_⟩;refine i6.write gc z (jx z) O λs2 s2' P2 e2 p2 hP2=>?_;have zs2:=e2.1;have i3':=e2.bT i3 (n7 _ O q1);refine⟨⟨i3',p2.b⟩,⟨Ext.dT i1 e2 λc d=>?_,O,i3',e2.bT i4 (n7 _ O q2),e2.bT i5 (n7 _ O (q3 _ O)),s2',P2,?_,λc d=>?_⟩,e2.2 _ O (n7 _ O (q3 _ O)),e2.2 _ O (n7 _ O (q3 _ O))⟩
        ·rcases Y c d with h|h
         ·exact(E c h).imp .inl id
         ·exact .inr O
        ·rw[htk,Dp];exact p2
        ·rcases hP2 c d with h|h
         ·exact Y c h
         ·exact .inr O
       ·rintro s ⟨i1,i2,i3,i4,i5,s1',P',i6,Y⟩ hD;rw[mS]at i6;have n7:∀c,c<v20.size+2->(¬P1 c)->¬P' c:=λc h1 h2 C=>(Y c C).elim h2 λh=>by omega
        have q1:¬P1 U.size:=F _ O (nP _ (zD _));have q2:¬P1 v.size:=F _ O (nP _ O);have q3:∀c,v13.size<=c->¬P1 c:=λc h1 h2=>by have:=M c h2;omega
        refine i3.rU rfl (i4.rI rfl (i4.rI rfl (i4.rI rfl (i4.rI rfl (i4.rI rfl (DU i6 gc Z 0 λs2 s2' P2 e2 p2 hP2=>?_))))));have zs2:=e2.1;have hlt:=(zt.1 hD).1;have i3':=e2.bT i3 (n7 _ O q1);have i4':=e2.bT i4 (n7 _ O q2);have hS:∀m,(bY m U.size [.pointer (some ⟨gb,0,none⟩)]/\bY m gb (rq L.p km fm {x with no:=x.no+1})/\bY m v.size (eW b))->bY m v.size (eW b):=λm h=>h.2.2;refine⟨λm=>bY m U.size [.pointer (some ⟨gb,0,none⟩)]/\bY m gb (rq L.p km fm {x with no:=x.no+1})/\bY m v.size (eW b),⟨i3',p2.b,i4'⟩,sf (c:=.p) (y:=some ⟨gb,0,none⟩) (λm h=>h.1) rfl (aG (gV (c:=.m) (y:=some km) (λm h=>h.2.1) rfl ?_))⟩;refine og (c:=bN) (y:=b.1) hS rfl (gV (c:=bN) (y:=b.1) hS rfl (gV (c:=bN) (y:=b.2.1) hS rfl (gV (c:=bN) (y:=b.2.2.1) hS rfl (gV (c:=bN) (y:=b.2.2.2.1) hS rfl (gV (c:=bN) (y:=b.2.2.2.2) hS rfl ⟨km,x.kn,rfl,p2.m,λs3 o3 m3=>?_⟩)))));have p3:GP σ0 s3 {L with ts:=ts} {H' with sp:=lV H'.sp b} held' s2' P2 gb km fm (x.fS b):=p2.fC (y:=x.fS b) (o3.ext.sub λc d=>.inr (.inl d)) (o3.ext.bT p2.b p.n1) m3 (o3.ext.fQ p2.f λ(h:fm=km)=>p.n3 h.symm);have zs3:=o3.1;have hkm:=p.m.lt;have hfm:=p.f.lt;have hgb:=p.b.lt;have hD3:s3[v20.size]?=some (.deferred (some [])):=(o3.2 _ O).trans ((e2.2 _ hlt (n7 _ O (q3 _ O))).trans hD);refine(o3.ext.bT i4' hvk).eZ rfl (Ej hD3 λs4 e4=>?_);have hP2':∀c,P2 c->P c\/U.size<=c:=λc d=>by
         rcases hP2 c d with h|h
         ·rcases Y c h with h|h
          ·exact E c h
          ·exact .inr O
         ·exact .inr O
        refine h2 b s4 ts H' held' s2' P2 gr (by rw[N];exact hw) o ?_ (p3.out e4 λc _ (d:c=v20.size)=>?_) hP2'
        ·have E1:Ext (Mg P gb km fm) U s2:=Ext.dT i1 e2 λc d=>by
          rcases Y c d with h|h
          ·exact(E c h).imp .inl id
          ·exact .inr O
         have E2:Ext (Mg P gb km fm) U s3:=E1.trans (o3.ext.sub λc d=>.inr (.inr (.inl d)));exact Ext.dT E2 e4 λc (d:c=v20.size)=>.inr O
        ·subst d;have:=p.e.1;refine⟨λhx=>?_,O,O,O,O⟩;rcases hP2 _ hx with h|h
         ·exact n7 _ O (q3 _ O) h
         ·omega
     ·exact cE (by rw[hr3];simp[hgk]) (h0 v (by simpa using hgk) e)
    ·by_cases g:1<=size/\size<=1024/\1<=align/\align<=256
     ·refine cB (by rw[hr2,zJ g];rfl) (ar O O (hJ3 _ _ ⟨rfl,?_⟩));rw[J0 g.2.2.1 g.2.2.2];unfold mT;rw[zJ g];rfl
     ·refine cE (by rw[hr2,zK g];rfl) (hJ3 _ _ ⟨rfl,?_⟩);unfold mT;rw[zK g];rfl
   ·by_cases g:1<=size/\size<=1024/\1<=align
    ·refine cB (by rw[hr1,zJ g];rfl) (hJ2 _ _ ⟨rfl,?_⟩);by_cases C:align>256
     ·rw[zJ C,zK O];rfl
     ·rw[zK C,zJ O];rfl
    ·exact cE (by rw[hr1,zK g];rfl) (hJ2 _ _ ⟨rfl,by rw[zK O];rfl⟩)
  ·by_cases g:1<=size/\size<=1024
   ·refine cB (by rw[hr,zJ g];rfl) (hJ1 _ _ ⟨rfl,?_⟩);by_cases C:align<1
    ·rw[zJ C,zK O];rfl
    ·rw[zK C,zJ O];rfl
   ·exact cE (by rw[hr,zK g];rfl) (hJ1 _ _ ⟨rfl,by rw[zK O];rfl⟩)
 ·by_cases C:size>1024
  ·rw[zJ C,zK O];rfl
  ·rw[zK C,zJ O];rfl
end Go.Ar
namespace Go.Ar
open Go Go.Vc Go.Proofs Go.RowKit Go.Sort Go.Shelf Go.Lib
variable {U:Hp}{F Q:Rg}{s:Sl}{xs:List Int}
theorem NN (hrow:bR s 1 (Wo xs) U F)(hlen:xs.length<=1000000){R:aP}(hR:∀ys w,ys.Perm xs->Ext F U w->bR s 1 (Wo ys) w F->R w):KM.c s U R:=by
 rintro w rfl;have A:s.len=xs.length:=by have:=hrow.1;simp[Wo]at this;omega
 rcases hrow.2 with⟨h0,hc0⟩|⟨b,cs,hF,ha,hb,hle,hcl,ht⟩
 ·have N:xs=[]:=u9.1 O;have:=AnyM.slices_Sort_int_none Tryz.lK s.a s.cap w;show Calls _ _ #[.slice s.a s.len s.cap] w _;rw[h0];refine this.mono ?_;rintro e M ⟨rfl,rfl⟩;exact⟨.refl _,[],rfl,hR xs _ (.refl _) (Ext.refl _ _) hrow⟩
 ·have p:=hb.lt;have H:Holds (Value.int .i64) w b 0 xs.toArray:=by
   intro j hj;have m:j<xs.length:=by simpa using hj
   have E:Vc.cell w.heap ⟨b,0+j,none⟩=some (.int .i64 xs.toArray[j]!):=by
    rw[hb.cell,zH];have:(cs.take (Wo xs).length)[j]?=some (.int .i64 xs[j]):=by rw[ht];simp[Wo,m]
    rw[zj,zC (by simpa[Wo]using m)]at this;rw[this,getElem!_pos xs.toArray j hj];simp
   exact⟨E,hb.nr⟩
  have r:=AnyM.slices_Sort_int Tryz.lK b 0 s.cap xs w H p O;show Calls _ _ #[.slice s.a s.len s.cap] w _;rw[ha,A];refine r.mono ?_;rintro e M ⟨rfl,n,os,rfl⟩;obtain⟨ys,u⟩:∃ys,ys=xs.mergeSort λx y=>decide (x<=y):=⟨_,rfl⟩;have D:ys.Perm xs:=by rw[u];exact List.mergeSort_perm _ _
  have G:ys.length=xs.length:=D.length_eq;rw[←u];obtain⟨L,B⟩:=hb;have d:(grow (putRow (Value.int .i64) (Sort.ahead w n) b 0 ys.toArray) os).heap=(w.heap.modify b (onCells (putCells (Value.int .i64) 0 ys.toArray)))++os:=rfl;have g:(w.heap.modify b (onCells (putCells (Value.int .i64) 0 ys.toArray))).size=w.heap.size:=by simp
  refine⟨⟨rfl,rfl,rfl,by rw[d,xM,g];omega⟩,[],rfl,?_⟩;rw[d];have i:Ext F w.heap ((w.heap.modify b (onCells (putCells (Value.int .i64) 0 ys.toArray)))++os):=by
   refine⟨by rw[xM,g];omega,λq J K=>?_⟩;rw[tB (by rw[g];exact J),uu,zB λ(e:b=q)=>K (by rw[←e];exact hF)]
  refine hR ys _ D i ⟨by simp[Wo];omega,.inr ⟨b,(putCells (Value.int .i64) 0 ys.toArray cs.toArray).toList,hF,ha,⟨L,?_⟩,hle,?_,?_⟩⟩
  ·rw[tB (by rw[g];exact p),uu,zC rfl,B];simp[onCells]
  ·simp[putCells,hcl]
  ·have z:(Wo ys).length=ys.length:=by simp[Wo]
   rw[z];apply zo;intro j;rw[zj];by_cases hj:j<ys.length
   ·rw[zC hj];have C:j<cs.length:=by omega
    simp only[putCells,wM,Array.getElem?_mapIdx,List.getElem?_toArray,cU C,zX];rw[zC ⟨O,by simpa using hj⟩];rw[Nat.sub_zero,getElem!_pos ys.toArray j (by simpa using hj)];simp[Wo,hj]
   ·rw[zB hj,zV O]
theorem DQ {b:Nat}:∀(vs:List Value) {cs:List Value} {o i:Nat} {h:Hp} {K:aP},bY h b cs->o+i+vs.length<=cs.length->(∀h',Ext (· = b) h h'->K h')->m6 ⟨b,o,none⟩ h vs i K
 | [],cs,o,i,h,K,_,_,hK=>hK h (Ext.refl _ _)
 | v::vs,cs,o,i,h,K,hb,hl,hK=>by
  have hl':o+i+(vs.length+1)<=cs.length:=hl;unfold m6;refine hb.s1 O λe o1 a=>DQ vs a (by rw[nR];omega) λd e2=>hK d (o1.ext.trans e2)
theorem OH (hrow:bR s 1 (Wo xs) U F)(hlen:xs.length<=1000000){R:Sl->Hp->Prop}(hR:∀s' w,Ext F U w->(xs.length<=1->bR s' 1 (Wo xs) w F)->R s' w):WT.c s U R:=by
 refine WT.o ?_;unfold WT.v;have S:s.len=xs.length:=by have:=hrow.1;simp[Wo]at this;omega
 refine cQ (λh=>hR s U (Ext.refl _ _) λ_=>hrow) λZ=>?_;have p:¬xs.length<=1:=by omega
 have g:∀s' w,Ext F U w->R s' w:=λs' w e=>hR s' w e λh=>(p h).elim;rcases hrow.2 with⟨h0,hc0⟩|⟨b,cs,hF,ha,hb,hle,hcl,ht⟩
 ·omega
 have d:∀j,j<s.len->∃v:Int,cs[j]?=some (.int .i64 v):=λj C=>by
  have:(cs.take (Wo xs).length)[j]?=some (.int .i64 (xs[j]' O)):=by rw[ht];simp[Wo,show j<xs.length by omega]
  rw[zj,zC (by simp[Wo];omega)]at this;exact⟨_,this⟩
 have r:∀{w},Ext (· = b) U w->Ext F U w:=λe=>e.sub λc (P:c=b)=>by rw[P];exact hF
 have rd:∀{u:Hp} {cs':List Value} {j o:Nat} {K:Int->Prop},bY u b cs'->(∃v:Int,cs'[o+j]?=some (.int .i64 v))->(∀v,K v)->gA .i64 (Addr.add ⟨b,o,none⟩ j) u K:=λA ⟨v,E⟩ W=>A.rI E (W v);have x:∀n:Nat,((List.replicate n [Value.int .i64 0]).flatten).length=n:=λn=>by simp
 rw[ha];refine ZX (a:=bN) (λ(z:Int) w=>w=U/\∃k:Nat,z=k/\1<=k/\k<=s.len) (λz _=>s.len-z.toNat) ⟨rfl,1,rfl,O,O⟩ ?_;rintro(z:Int) w ⟨rfl,k,rfl,h1,hk⟩;refine cQ (λL=>?_) λQ=>g s w (Ext.refl _ _);have J:k<s.len:=by omega
 refine ix O O (rd hb (by rw[zH];exact d _ O) λG=>ar O O (ix O O (rd hb (by rw[zH];exact d _ O) λN=>cO (λ_=>?_) λ_=>cP (m:=k+1) O O ⟨⟨rfl,k+1,rfl,O,O⟩,O⟩)));refine iM (s:=s) (sz:=1) (lo:=k) (hi:=s.len) (mx:=s.cap) O hle (zD _) ?_;rw[zB (show ¬s.cap=k by omega),ha];simp only[zX];refine Uw (a:=bN) (bb:=bN) (λ(y z:Int) u=>∃(k1 k2:Nat) (cs':List Value),y=k1/\z=k2/\1<=k2/\k2<=s.len-k/\k<=k1/\k1<=k+k2-1/\Ext (· = b) w u/\bY u b cs'/\cs'.length=s.cap/\∀j,j<s.len->∃v:Int,cs'[j]?=some (.int .i64 v)) (λ_ z _=>(s.len-k)-z.toNat)
  ⟨k,1,cs,rfl,rfl,O,O,O,O,Ext.refl _ _,hb,O,d⟩ ?_
 rintro(y:Int) (z:Int) u ⟨k1,k2,cs',rfl,rfl,g1,g2,g3,g4,eu,hbu,hcl',hin⟩;refine cQ (λD=>?_) λB=>?_
 ·have X:k2<s.len-k:=by omega
  have e1:∀j:Nat,Addr.add (Addr.add ⟨b,0,none⟩ (k*1)) j=Addr.add ⟨b,k,none⟩ j:=λj=>by rw[add_lit,add_lit,add_lit];congr 1;omega
  refine ix O O ?_;rw[e1];refine rd hbu (hin _ O) λG=>ar O O (ix O O ?_);rw[e1];refine rd hbu (hin _ O) λN=>cO (λ_=>?_) λ_=>cP (m:=k2+1) O O ⟨⟨k1,k2+1,cs',rfl,rfl,O,O,O,O,eu,hbu,hcl',hin⟩,O⟩;refine ix O O ?_;rw[e1];refine rd hbu (hin _ O) λv3=>ix O O (hbu.s1 O λY o2 V=>cP (m:=k1+1) O O (cP (m:=k2+1) O O ⟨⟨k1+1,k2+1,_,rfl,rfl,O,O,O,O,eu.trans o2.ext,V,by rw[nR];exact hcl',λj C=>?_⟩,O⟩));rw[mI];split
  ·rw[zC O];exact⟨v3,rfl⟩
  ·exact hin j C
 ·refine iM (s:=s) (sz:=1) (lo:=k1) (hi:=s.len) (mx:=s.cap) O hle (zD _) ?_;rw[zB (show ¬s.cap=k1 by omega),ha];simp only[zX];refine⟨by simp[dP],?_⟩;simp only[add_lit];refine DQ _ hbu ?_ λH M=>?_
  ·rw[x];omega
  ·refine iM (s:=s) (sz:=1) (lo:=0) (hi:=k1) (mx:=s.cap) O O (zD _) ?_;exact g _ H (r (eu.trans M))
end Go.Ar
namespace Go.Ar
open Go Go.Vc Go.Proofs
open Go.Vc (bW dB cS)
variable {size align:Int}{U σ0 v w w':Hp}{F P Q X T:Rg}{L:dJ}{H H' H1:Hw}{held:List Pc}{s0 sp:Sp}{t n:Nat}{g:Th}{gb km fm m:Nat}{x y:Gu}{b:B5}
def Fi:Int:=-1234567
def mZ (H:Hw)(x:Gu)(thread addr:Int)(whole:Bool):Int:=
 if Ke H thread≠0 then Ke H thread else match bW x.kn addr with
 | none=>if(bW x.fr addr).getD false then 9 else 8
 | some b=>if Uy H b then 5 else if whole&&decide (0<(Km H.sp b).length)then 10 else 0
def Gu.gone (x:Gu)(addr:Int):Gu:=⟨cS x.kn addr,dB x.fr addr true,x.no⟩
def iB (H:Hw)(b:B5):Hw:={H with sp:=j8 H.sp (Qy b) λ_=>Fi}
set_option maxRecDepth 16000 in
theorem Gs (p:GP σ0 U L H held s0 P gb km fm x)(gc:Gc σ0)(xi:∀e∈x.kn,e.1=e.2.1/\hO e.2)(thread addr:Int)(whole:Bool){R:aN}
 (h0:∀w,mZ H x thread addr whole≠0->bK U w->R (mZ H x thread addr whole) w)
 (h1:∀b w ts H1 held' s0' P' e,bW x.kn addr=some b->mZ H x thread addr whole=0->V8 (iB H b) thread 1 0 0 b.2.2.1 H1 0 e->gg (iB H b) H1->oI (iB H b) thread b.2.2.1 H1 e->Ext (Mg P gb km fm) U w->GP σ0 w {L with ts:=ts} H1 held' s0' P' gb km fm (x.gone addr)->(∀c,P' c->P c\/U.size<=c)->R 0 w) :
 XU.c (aW gb) thread addr whole U R:=by
 refine XU.o ?_;unfold XU.v;refine Vi p (cB rfl (NO p thread λC e1=>?_));have p1:=p.fr e1;refine cO (λhne=>?_) λheq=>?_
 ·have hn:Ke H thread≠0:=by simpa using hne
  have he:mZ H x thread addr whole=Ke H thread:=by unfold mZ;rw[zC hn]
  have:=h0 C (by rw[he];exact hn) e1;rw[he]at this;exact this
 have hrd:Ke H thread=0:=by simpa using heq
 have a:mZ H x thread addr whole=match bW x.kn addr with
  | none=>if(bW x.fr addr).getD false then 9 else 8
  | some b=>if Uy H b then 5 else if whole&&decide (0<(Km H.sp b).length)then 10 else 0:=by
  unfold mZ;rw[zB (by rw[hrd];decide)]
 refine aG (p1.b.rM rfl ⟨x.kn,p1.m,?_⟩);refine nw (cs:=[.int .i64 0,.int .i64 0,.int .i64 0,.int .i64 0,.int .i64 0]) λv2 hz2 e2 b2=>b2.s1 aA λv3 o3 b3=>b3.s1 aA λv4 o4 b4=>b4.s1 aA λv5 o5 b5=>b5.s1 aA λv6 o6 b6=>b6.s1 aA λv7 o7 b7=>?_;have eo:Ext (· = C.size) v2 v7:=(((o3.ext.trans o4.ext).trans o5.ext).trans o6.ext).trans o7.ext;have e17:bK C v7:=Ext.fresh e2 eo λi (hi:i=C.size)=>by omega
 have E:=e1.trans e17;have p7:=p.fr E;have d:bY v7 C.size (eW ((bW x.kn addr).getD (0,0,0,0,0))):=b7;cases hk:bW x.kn addr with
 | none=>
  rw[hk]at a;simp only at a;refine QZ (λr u=>u=v7/\r=(bW x.fr addr).getD false) (λr u ⟨hu,G⟩=>?_) λJ N=>cE rfl (aG (p7.b.rM rfl ⟨x.fr,p7.f,N _ _ ⟨rfl,rfl⟩⟩));rw[hu];refine cO (λh=>?_) λh=>cE rfl ?_
  ·rw[←G,h]at a;have:=h0 v7 (by rw[a];decide) E;rw[a]at this;exact this
  ·rw[←G,h]at a;have:=h0 v7 (by rw[a];decide) E;rw[a]at this;exact this
 | some b=>
  rw[hk]at a d;simp only at a;have d:bY v7 C.size (eW b):=d;have F:hO b:=(xi _ (Vg hk)).2;refine QZ (λr u=>u=v7/\r=false) (λr u ⟨hu,G⟩=>?_) λJ N=>cB rfl (N _ _ ⟨rfl,rfl⟩);rw[hu];refine cB G (cB rfl (d.rI rfl (d.rI rfl (d.rI rfl (d.rI rfl (d.rI rfl (UW p7 b λv9 e9=>?_)))))));have D:=E.trans e9;have p9:=p.fr D;have j:=e9.bT d id;refine cO (λhl=>?_) λhl=>?_
  ·rw[zC hl]at a;have:=h0 v9 (by rw[a];decide) D;rw[a]at this;exact this
  rw[zB (by rw[hl];decide)]at a;refine QZ (λr u=>bK U u/\bY u C.size (eW b)/\r=(whole&&decide (0<(Km H.sp b).length))) (λr u ⟨K,B,G⟩=>?_) λJ N=>cO (λM=>?_) λM=>N _ _ ⟨D,j,by rw[M];rfl⟩
  ·refine cO (λh=>?_) λh=>?_
   ·rw[←G,zC h]at a;have:=h0 u (by rw[a];decide) K;rw[a]at this;exact this
   ·rw[←G,zB (by rw[h];decide)]at a;have pu:=p.fr K;have zu:=K.1;have z1:=e1.1;refine B.rI rfl (B.rI rfl (B.rI rfl (B.rI rfl (B.rI rfl (DU pu gc F (-1234567) λu1 Y P1 ef W X=>?_)))));have nP:¬P C.size:=λhx=>by have:=(p.pP _ hx).2;omega
    have Z:=ef.bT B nP;have zf:=ef.1;refine aG (W.b.rM rfl ⟨x.kn,W.m,λu2 o2 _ m2=>?_⟩);have o2:=o2 km rfl;have V:GP σ0 u2 L (iB H b) held Y P1 gb km fm ⟨cS x.kn addr,x.fr,x.no⟩:=W.fC (y:=⟨cS x.kn addr,x.fr,x.no⟩) (o2.ext.sub λc g=>.inr (.inl g)) (o2.ext.bT W.b p.n1) m2 (o2.ext.fQ W.f λ(h:fm=km)=>p.n3 h.symm);refine aG (V.b.rM rfl ⟨fm,x.fr,rfl,V.f,λu3 A m3=>?_⟩);have S:GP σ0 u3 L (iB H b) held Y P1 gb km fm (x.gone addr):=V.fC (y:=x.gone addr) (A.ext.sub λc g=>.inr (.inr g)) (A.ext.bT V.b p.n2) (A.ext.fQ V.m p.n3) m3;have hkm:=p.m.lt;have hfm:=p.f.lt;have hb3:=A.ext.bT (o2.ext.bT Z (show ¬C.size=km by omega)) (show ¬C.size=fm by omega);obtain⟨H',er,M,o,fe⟩:=OP S.hi thread b.2.2.1 (by have:=F.base;have:=F.m;have:=F.t;have:=F.z;have:=F.s;have:=Z2 (n:=b.2.1) O;unfold iE;omega);obtain⟨held',s0',hi'⟩:=o.hi;refine aG (S.b.rP rfl (hb3.eZ rfl (OF Fx S.h S.cf.2.2 M λu4 ts e4 h4=>?_)));have p5:=S.step e4 h4 hi' o.kp;have z2:=o2.1;have z3:=A.1;have z4:=e4.1;refine h1 b u4 ts H' held' s0' _ er hk a M o fe ?_ p5 λc g=>?_
    ·have E1:Ext (Mg P gb km fm) U u1:=(bK.to K).trans (ef.sub λc g=>.inl g);have E3:Ext (Mg P gb km fm) U u3:=(E1.trans (o2.ext.sub λc g=>.inr (.inr (.inl g)))).trans (A.ext.sub λc g=>.inr (.inr (.inr g)));exact Ext.dT E3 e4 λc g=>(X c g).imp .inl λh=>by omega
    ·rcases g.1 with g|g
     ·exact(X c g).imp id λh=>by omega
     ·exact .inr O
  ·refine j.rI rfl (j.rI rfl (j.rI rfl (j.rI rfl (j.rI rfl (HN p9 F λs u Q K hs hQ=>N _ _ ⟨D.trans K,K.bT j id,?_⟩)))));have:s.len=(Km H.sp b).length:=by have:=hs.1;simp[Wo]at this;omega
   rw[M,this,qG,lZ,decide_eq_true_iff,decide_eq_true_iff];omega
def Bl (H:Hw)(x:Gu)(addr:Int):Int:=match bW x.kn addr with
 | none=>8
 | some b=>if Uy H b then 5 else 0
def Bc (H:Hw)(x:Gu)(addr:Int):List Int:=match bW x.kn addr with
 | none=>[]
 | some b=>if Uy H b then[]else Km H.sp b
set_option maxRecDepth 16000 in
theorem Du (p:GP σ0 U L H held s0 P gb km fm x)(xi:∀e∈x.kn,e.1=e.2.1/\hO e.2)(addr:Int){R:Sl->Int->Hp->Prop}
 (hR:∀s w Q,bK U w->bR s 1 (Wo (Bc H x addr)) w Q->(∀c,Q c->U.size<=c/\c<w.size)->R s (Bl H x addr) w):Xw.c (aW gb) addr U R:=by
 refine Xw.o ?_;unfold Xw.v;refine Vi p (cB rfl (aG (p.b.rM rfl ⟨x.kn,p.m,?_⟩)));refine nw (cs:=[.int .i64 0,.int .i64 0,.int .i64 0,.int .i64 0,.int .i64 0]) λE B e2 J=>J.s1 aA λv3 o3 W=>W.s1 aA λv4 o4 b4=>b4.s1 aA λZ o5 N=>N.s1 aA λv6 o6 A=>A.s1 aA λv7 o7 S=>?_;have D:Ext (· = U.size) E v7:=(((o3.ext.trans o4.ext).trans o5.ext).trans o6.ext).trans o7.ext;have j:bK U v7:=Ext.fresh e2 D λi (Y:i=U.size)=>by omega
 have G:=p.fr j;have a:bY v7 U.size (eW ((bW x.kn addr).getD (0,0,0,0,0))):=S;have nil:∀w,bR ⟨none,0,0⟩ 1 (Wo []) w (λ_=>False):=λw=>⟨rfl,.inl ⟨rfl,rfl⟩⟩;unfold Bl Bc at hR;cases hk:bW x.kn addr with
 | none=>
  rw[hk]at hR;exact cE rfl (hR _ v7 _ j (nil _) λc h=>h.elim)
 | some b=>
  rw[hk]at a hR;simp only at hR;have a:bY v7 U.size (eW b):=a;have M:hO b:=(xi _ (Vg hk)).2;refine cB rfl (a.rI rfl (a.rI rfl (a.rI rfl (a.rI rfl (a.rI rfl (UW G b λz y=>?_))))));have g:=j.trans y;have C:=p.fr g;have d:=y.bT a id;refine cO (λr=>?_) λr=>?_
  ·rw[r]at hR;exact hR _ z _ g (nil _) λc h=>h.elim
  ·rw[r]at hR;refine d.rI rfl (d.rI rfl (d.rI rfl (d.rI rfl (d.rI rfl (HN C M λs u Q X V K=>?_)))));have:=g.1;exact hR s u Q (g.trans X) V λc F=>by have:=K c F;omega
theorem EM {α:Type}{n:Int}{x:α}:∀{l:List (Int×α)},(l.map (·.1)).Nodup->(n,x)∈l->l.Perm ((n,x)::l.filter λy=>!(y.1==n))
 | [],_,h=>by simp at h
 | z::l,hn,h=>by
  simp only[zS,zr]at hn;rcases zW.1 h with h1|h1
  ·subst h1;have:l.filter (λy=>!(y.1==n))=l:=by
    rw[pB];intro y hy;have:y.1≠n:=λe=>hn.1 (zE.2 ⟨y,hy,e⟩);simpa using this
   rw[uj aA,this]
  ·have a:z.1≠n:=λe=>hn.1 (zE.2 ⟨_,h1,e.symm⟩);rw[uc (by simpa using a)];exact((EM hn.2 h1).cons z).trans (List.Perm.swap _ _ _)
theorem bR.sK {h:Hp}{s y:Sl}{sz bytes e:Nat}{zs xs:List Value}{K:Sl->Hp->Prop}(ho:bR s sz xs h F)(hy:y.len=0)(hb:s.len*bytes<=2^46)(hc:s.len<=2^62)(hK:K s h):App s sz bytes e zs y h K:=by
 refine⟨xs,[],ho.1,by rw[hy];simp,ho.rd,?_,by simp,by rw[hy];exact hb,by rw[hy];exact hc,λd=>?_,λb=>?_⟩
 ·unfold Rd;split
  ·rfl
  ·intro j v hv;simp at hv
 ·rw[hy];cases ha:s.a with
  | some a=>simp only[m6];rw[←ha];exact hK
  | none=>simp only;rw[←ha];exact hK
 ·exfalso;rw[hy]at b;rcases ho.2 with⟨h1,h2⟩|⟨_,_,_,_,_,h3,_⟩<;>omega
theorem Bh {s y:Sl}{xs ys:List Int}{e:Nat}{K:Sl->Hp->Prop}(hr:bR s 1 (Wo xs) U F)(hy:bR y 1 (Wo ys) U Q)(hl:xs.length+ys.length<=10000000)(hK:∀s' w,Ext F U w->bR s' 1 (Wo (xs++ys)) w (λc=>F c\/U.size<=c/\c<w.size)->K s' w):App s 1 8 e [.int .i64 0] y U K:=by
 have a:s.len=xs.length:=by have:=hr.1;simp[Wo]at this;omega
 have u:y.len=ys.length:=by have:=hy.1;simp[Wo]at this;omega
 by_cases h0:y.len=0
 ·have b:ys=[]:=u9.1 O;subst b;refine bR.sK hr h0 O O (hK s U (Ext.refl _ _) ?_);rw[kV];exact aI.mono hr λc _ j=>.inl j
 ·refine hr.app (ys:=Wo ys) rfl (by simp[Wo];omega) hy.rd (λv d=>?_) O O O λs' w i g p=>hK s' w g ?_
  ·unfold Wo at d;obtain⟨z,_,rfl⟩:=zE.1 d;rfl
  ·have:Wo (xs++ys)=Wo xs++Wo ys:=by simp[Wo]
   rw[this];refine aI.mono (aI.cut p) λc r m=>?_;rcases m.1 with a|a
   ·exact .inl a
   ·exact .inr ⟨a,r⟩
def oz (H:Hw)(e:Int×B5):List Int:=if Uy H e.2 then[]else Km H.sp e.2
def pJ (H:Hw)(x:Gu):List Int:=x.kn.flatMap (oz H)
set_option maxRecDepth 16000 in
theorem Ry (p:GP σ0 U L H held s0 P gb km fm x)(xi:∀e∈x.kn,e.1=e.2.1/\hO e.2)(hsw:(pJ H x).length<=1000000){R:Sl->Hp->Prop}
 (hR:∀s w,bK U w->((pJ H x).length<=1->∃Q,bR s 1 (Wo (pJ H x)) w Q/\∀c,Q c->U.size<=c/\c<w.size)->R s w):Yl.c (aW gb) U R:=by
 refine Yl.o ?_;unfold Yl.v;refine Vi p (cB rfl (aG (p.b.rM rfl ?_)));refine sU (a:=.s) p.m (λd (out:Sl) u=>bK U u/\U.size<u.size/\(∀e∈d,e∈x.kn)/\(d.map (·.1)).Nodup/\∃(l:List Int) (Q:Rg),bR out 1 (Wo l) u Q/\(∀c,Q c->U.size+1<=c/\c<u.size)/\(l++d.flatMap (oz H)).Perm (pJ H x)) (λv hv ev=>⟨ev,O,λe he=>he,p.m.nodup,[],λ_=>False,⟨rfl,.inl ⟨rfl,rfl⟩⟩,λc h=>h.elim,List.Perm.refl _⟩) ?_ ?_
 ·rintro(out:Sl) u ⟨eu,hlt,_,_,l,Q,hr,M,S⟩;rw[List.flatMap_nil,kV]at S;have X:l.length<=1000000:=by rw[S.length_eq];exact hsw
  have zu:=eu.1;refine NN hr X λys u2 V e2 hr2=>OH hr2 (by rw[V.length_eq];exact X) λs' u3 e3 Z=>?_;have E3:bK U u3:=Ext.fresh eu (e2.trans e3) λc r=>by have:=M c r;omega
  refine hR s' u3 E3 λh1=>⟨Q,?_,λc r=>?_⟩
  ·have h2:ys.length<=1:=by rw[V.length_eq,S.length_eq];exact h1
   have:ys=pJ H x:=by
    have hq:=V.trans S
    match ys,hq with
    | [],hq=>exact(List.nil_perm.1 hq).symm
    | [a],hq=>exact(List.singleton_perm.1 hq)
    | _::_::_,_=>simp at h2
   rw[this]at Z h2;exact Z h2
  ·have:=M c r;have:=e2.1;have:=e3.1;omega
 ·rintro d k (b:B5) (out:Sl) u u' J ⟨eu,hlt,G,hnd,l,Q,hr,M,S⟩ K o1 hs1 hJ;have bi:hO b:=(xi _ (G _ K)).2;have zu:=eu.1;have hpt:=EM hnd K;have hQn:∀c,Q c->¬c=U.size:=λc r=>by have:=M c r;omega
  have W:bK U u':=Ext.fresh eu o1.ext λc (r:c=U.size)=>by omega
  have hr':=aI.bS hr o1.ext λc _ r=>hQn c r;have hz':=o1.1;refine nw (cs:=[.int .i64 0,.int .i64 0,.int .i64 0,.int .i64 0,.int .i64 0]) λv2 hz2 e2 b2=>b2.s1 aA λv3 o3 b3=>b3.s1 aA λv4 o4 b4=>b4.s1 aA λv5 o5 b5=>b5.s1 aA λv6 o6 b6=>b6.s1 aA λv7 o7 b7=>?_;have eo:Ext (· = u'.size) v2 v7:=(((o3.ext.trans o4.ext).trans o5.ext).trans o6.ext).trans o7.ext;have e7:bK u' v7:=Ext.fresh e2 eo λi (hi:i=u'.size)=>by omega
  have z:bY v7 u'.size (eW b):=b7;have p7:=(p.fr W).fr e7;refine z.rI rfl (z.rI rfl (z.rI rfl (z.rI rfl (z.rI rfl (UW p7 b λv9 e9=>?_)))));have D:=e9.bT z id;have A:=e7.trans e9;have p9:=p7.fr e9;have hkm:=p.m.lt;have E:∀{w:Hp},bK u' w->w[U.size]?=u'[U.size]?/\w[km]?=u'[km]? := λe=>⟨e.2 _ O id,e.2 _ O id⟩;have B:∀e∈d.filter (λy=>!(y.1==k)),e∈x.kn:=λe he=>G e (zI.1 he).1;have F:((d.filter (λy=>!(y.1==k))).map (·.1)).Nodup:=hnd.sublist (List.filter_sublist.map _);refine cO (λhnl=>?_) λhl=>?_
  ·have N:Uy H b=false:=by simpa using hnl
   have Y:oz H (k,b)=Km H.sp b:=by unfold oz;rw[N];rfl
   refine D.rI rfl (D.rI rfl (D.rI rfl (D.rI rfl (D.rI rfl (HN p9 bi λs u10 Q2 e10 hs hQ2=>?_)))));have j:=A.trans e10;have hr10:=aI.bO hr' j;have g:((l++Km H.sp b)++(d.filter (λy=>!(y.1==k))).flatMap (oz H)).Perm (pJ H x):=by
    refine List.Perm.trans ?_ S;rw[ka];refine List.Perm.append_left l ?_;have:=hpt.flatMap_right (oz H);rw[oy,Y]at this;exact this.symm
   have X:l.length+(Km H.sp b).length<=1000000:=by
    have:=g.length_eq;rw[zO,zO]at this;omega
   refine Bh hr10 hs O λout1 u11 C hr11=>?_;have z10:=j.1;have aa:∀c,c<=U.size->¬Q c:=λc h1 h2=>by have:=M c h2;omega
   refine hJ out1 u11 ?_ ?_ ⟨Ext.fresh (W.trans j) C λc r=>by have:=M c r;omega,by have:=C.1;omega,B,F,l++Km H.sp b,_,hr11,λc r=>?_,g⟩
   ·rw[C.2 _ O (aa _ (zD _))];exact(E j).1
   ·rw[C.2 _ O (aa _ O)];exact(E j).2
   ·have z11:=C.1;rcases r with r|r
    ·have:=M c r;omega
    ·omega
  ·have N:Uy H b=true:=by simpa using hl
   have Y:oz H (k,b)=[]:=by unfold oz;rw[N];rfl
   have g:(l++(d.filter (λy=>!(y.1==k))).flatMap (oz H)).Perm (pJ H x):=by
    refine List.Perm.trans ?_ S;refine List.Perm.append_left l ?_;have:=hpt.flatMap_right (oz H);rw[oy,Y]at this;exact this.symm
   have z9:=A.1;exact hJ out v9 (E A).1 (E A).2 ⟨W.trans A,O,B,F,l,Q,aI.bO hr' A,λc r=>by have:=M c r;omega,g⟩
end Go.Ar
namespace Go.Proofs
open Go.Shelf
end Go.Proofs
namespace Go.Ar
open Go Go.Vc Go.Proofs Go.RowKit Go.Maps Go.Sort Go.Shelf
open Go.Vc (bW dB cS)
open Go.Bu (lY UT VC Hc KR yl)
variable {U w w':Hp}{F P Q X S:Rg}{L:dJ}{H H':Hw}{held:List Pc}{s0 sp:Sp}{t n:Nat}{g:Th}{σ0:Hp}
def mf (b:Bk):List Value:=[.int .i64 b.1,.int .i64 b.2.1,.int .i64 b.2.2.1,.int .i64 b.2.2.2]
def jD (bs:List Bk):List Value:=bs.flatMap mf
theorem BR (bs:List Bk):(jD bs).length=bs.length*4:=by
 unfold jD
 induction bs with
 | nil=>rfl
 | cons b bs ih=>rw[oy,zO,ih];simp[mf];omega
theorem AS:∀{bs:List Bk} {i:Nat} {b:Bk},bs[i]?=some b->∀{j:Nat} {v:Value},(mf b)[j]?=some v->(jD bs)[4*i+j]?=some v
 | [],i,b,h,_,_,_=>by simp at h
 | a::bs,0,b,h,j,v,hv=>by
  simp only[xT,Option.some.injEq]at h;subst h;have hj:=(cV.1 hv).1;show(mf a++jD bs)[4*0+j]?=_;rw[show 4*0+j=j by omega,ze hj];exact hv
 | a::bs,i+1,b,h,j,v,hv=>by
  have d:=AS (bs:=bs) (i:=i) (b:=b) (by simpa using h) hv;show(mf a++jD bs)[4*(i+1)+j]?=_;rw[zp (by simp[mf];omega)];have:4*(i+1)+j-(mf a).length=4*i+j:=by simp[mf];omega
  rw[this];exact d
theorem cW.sY {B:Nat}{s:Sl}{xs:List Value}(h:lY B U s xs):cW s 1 xs U (λb=>B<=b):=by
 refine⟨by have:=h.1;omega,?_⟩;rcases h.2 with⟨h0,_⟩|⟨b,cs,hb,ha,hk,hc⟩
 ·exact .inl h0
 ·exact .inr ⟨b,0,cs,hb,ha,hk.q,λj a=>by rw[zH];exact hc j a⟩
theorem EG {s:Sl}{bs:List Bk}(hs:cW s 4 (jD bs) U F){i:Nat}{b:Bk}(hb:bs[i]?=some b){K:Addr->Prop}(hK:∀bb o,(∀(j:Nat) v,(mf b)[j]?=some v->cell U ⟨bb,o+j,none⟩=some v)->K ⟨bb,o,none⟩):Ix s.a s.len (i:Int) 4 K:=by
 have p:=(cV.1 hb).1;have w:s.len=bs.length:=by have:=hs.1;rw[BR]at this;omega
 obtain⟨bb,o,e,r⟩:=hs.cell (AS hb (j:=0) rfl);rw[e];refine ix O O ?_;rw[add_lit,dE];refine hK bb _ λj v g=>?_;obtain⟨u,x,d,m⟩:=hs.cell (AS hb g);rw[e]at d;cases d;rw[←m];congr 2;omega
end Go.Ar
namespace Go.Proofs
open Go.Shelf
def Tryz.gZ:Go.Shelf.Ren:=⟨fun|7=>51|10=>85|n=>n,fun|23=>71|26=>3|3=>95|28=>98|0=>0|27=>97|33=>142|4=>4|n=>n,fun|n=>n⟩
theorem Tryz.kY:Go.Proofs.SlLaysZI.n7 Tryz.prog Tryz.gZ:={
 mixed:=by kernel_rfl
 f7:=⟨Tryz.f51.name,by decide,Tryz.func51.trans (congrArg some (by kernel_rfl))⟩
 f10:=⟨Tryz.f85.name,by decide,Tryz.func85.trans (congrArg some (by kernel_rfl))⟩
 t0:=Tryz.underlying0
 a0:=Tryz.isAgg0
 z0:=Tryz.sizeOf0
 v0:=Tryz.zeroValue0
 t4:=Tryz.underlying4
 a4:=Tryz.isAgg4
 z4:=Tryz.sizeOf4
 v4:=Tryz.zeroValue4
 t23:=Tryz.underlying71
 a23:=Tryz.isAgg71
 z23:=Tryz.sizeOf71
 v23:=Tryz.zeroValue71
 t26:=Tryz.underlying3
 a26:=Tryz.isAgg3
 z26:=Tryz.sizeOf3
 v26:=Tryz.zeroValue3
 t27:=Tryz.underlying97
 a27:=Tryz.isAgg97
 z27:=Tryz.sizeOf97
 v27:=Tryz.zeroValue97
 t28:=Tryz.underlying98
 a28:=Tryz.isAgg98
 z28:=Tryz.sizeOf98
 v28:=Tryz.zeroValue98
 t33:=Tryz.underlying142
 a33:=Tryz.isAgg142
 z33:=Tryz.sizeOf142
 v33:=Tryz.zeroValue142}
end Go.Proofs
namespace Go.Proofs
open Go.Vc
set_option maxRecDepth 100000
def YK.h:Hn:=.q .o1 (.q .o6 .l)
def YK.v (a:Int)(b:Hp)(c:aN):Prop:=bL (a+8) λd=>bL (d-1) λe=>Nz 8<|bL (e.tdiv 8) λf=>bL (f*8) λg=>c g b
theorem YK.o {a b c}(d:YK.v a b c):YK.c a b c:=Wa Tryz.func15 (x:=YK.h) (R0 d)
def XG.h:Hn:=.q .o1 (.q (.q .o5 .aK) (.q (.q .o1 (.k (.loop [(5,.I)] (.q (.q .o4 (.c .l .l)) (.q (.k (.q (.oq 9) .aK)) .o3))))) .aM))
def XG.v (a b:Sl)(c:Hp)(d:aO):Prop:=If (((a.len:Nat):Int) != ((b.len:Nat):Int)) (d false c) (X9 [bN] (λe=>e 0 c) λf (g:Int) h=>If (g<((a.len:Nat):Int)) (Ix a.a a.len g 1 λi=>bM i h λj=>Ix b.a b.len g 1 λk=>bM k h λl=>If (j != l) (d false h) (bL (g+1) λm=>f m h)) (d true h))
theorem XG.o {a b c d}(e:XG.v a b c d):XG.c a b c d:=Wa Tryz.func30 (x:=XG.h) (R0 e)
end Go.Proofs
namespace Go.Ar
open Go Go.Vc Go.Proofs Go.RowKit Go.Maps Go.Sort Go.Shelf
open Go.Vc (bW dB cS)
open Go.Bu (lY UT VC Hc KR yl)
variable {size align:Int}{U σ0 v w w':Hp}{F P Q X T:Rg}{L:dJ}{H H' H1:Hw}{held:List Pc}{s0 sp:Sp}{t n:Nat}{g:Th}{gb km fm m:Nat}{x y:Gu}{b:B5}
theorem yR {k:IntKind}{c:CK}{l:List (Int×c.T)}{r:Nat}{a a':CK}{x0:a.T}{y0:a'.T}{A:a.T->a'.T->Hp->Prop}{body:Int->c.T->a.T->a'.T->Hp->(a.T->a'.T->Hp->Prop)->Prop}(hm:dH U r k c l)(I:List (Int×c.T)->a.T->a'.T->Hp->Prop)
 (h0:∀v,v.size=U.size+1->bK U v->I l x0 y0 v)
 (hend:∀z y v,I [] z y v->A z y v)
 (hstep:∀todo n x z y v v' (J:a.T->a'.T->Hp->Prop),I todo z y v->(n,x)∈todo->Qo v v' U.size->U.size<v.size->(∀z' y' w,w[U.size]?=v'[U.size]?->w[r]?=v'[r]?->I (todo.filter λy=>!(y.1==n)) z' y' w->J z' y' w)->body n x z y v' J) :
 nM k c (some r) U λit v3=>X9 [a,a'] (λI=>I x0 y0 v3) λJ1 z y v4=>nU k c it v4 (A z y v4) λ_ _ v5=>nI k c it v5 λkey1 val1=>body key1 val1 z y v5 J1:=by
 refine⟨l,hm,λv G L K=>?_⟩;have M:bK U v:=⟨O,λb B _=>L b B⟩;refine Uw (a:=a) (bb:=a') (λz y w=>∃todo d,It w U.size k c (some r) l todo d/\I todo z y w/\U.size<w.size) (λ_ _ w=>vY w U.size r) ⟨l,none,K,h0 v G M,O⟩ ?_;rintro z y w ⟨todo,d,i,D,m⟩;refine⟨rfl,some r,l,todo,d,i,λF=>?_,λn x E N P g=>?_⟩
 ·subst F;exact hend z y w D
 ·refine⟨rfl,some r,l,_,n,x,g,hstep todo n x z y w N _ D E P m λz' y' u p s j=>?_⟩;have e:=g.bS p s;refine⟨⟨_,_,e,j,?_⟩,?_⟩
  ·obtain⟨R,Q,C,H,_⟩:=e;exact(zt.1 H).1
  ·rw[e.num,i.num];exact BQ.2 ⟨(n,x),E,by simp⟩
def lx (ofV:B5->Int)(addr:Int)(b:B5):Prop:=b.1<=addr/\addr<b.1+ofV b
instance (ofV:B5->Int) (addr:Int) (b:B5):Decidable (lx ofV addr b):=by unfold lx;infer_instance
set_option maxRecDepth 16000 in
theorem ED (p:GP σ0 U L H held s0 P gb km fm x)(xi:∀e∈x.kn,e.1=e.2.1/\hO e.2)(addr:Int){ofv:Fv}{ofV:B5->Int}(hov:∀b,hO b->0<=ofV b/\ofV b<=100000)
 (hof:∀(b:B5) (u:Hp) (K:aN),hO b->(∀u',bK u u'->K (ofV b) u')->VM Tryz.prog ofv [.agg #[.int .i64 b.1,.int .i64 b.2.1,.int .i64 b.2.2.1,.int .i64 b.2.2.2.1,.int .i64 b.2.2.2.2]] [.one bN] u K)
 {R:Int->Int->Int->Int->Int->Bool->Hp->Prop}
 (h0:∀(b:B5) w,bK U w->(∀e∈x.kn,¬lx ofV addr e.2)->R b.1 b.2.1 b.2.2.1 b.2.2.2.1 b.2.2.2.2 false w)
 (h1:∀e w,bK U w->e∈x.kn->lx ofV addr e.2->R e.2.1 e.2.2.1 e.2.2.2.1 e.2.2.2.2.1 e.2.2.2.2.2 true w) :
 Y3.c (aW gb) addr ofv U R:=by
 refine Y3.o ?_;unfold Y3.v;refine nw (cs:=eW (0,0,0,0,0)) λv hz e b6=>nw (cs:=eW (0,0,0,0,0)) λv1 hz1 e1 b8=>?_;have e01:=e.trans e1;have p1:=p.fr e01;refine aG (p1.b.rM rfl ?_);refine yR (a:=.b) (a':=.b) p1.m (λg (d F:Bool) u=>bK U u/\v1.size<u.size/\bY u U.size (eW (0,0,0,0,0))/\(∀e∈g,e∈x.kn)/\∃iK:B5,bY u v.size (eW iK)/\(d=false->∀e∈x.kn,e∈g\/¬lx ofV addr e.2)/\(d=true->∃e∈x.kn,e.2=iK/\lx ofV addr e.2))
  (λu hu eu=>⟨e01.trans eu,O,eu.bT (e1.bT b6 id) id,λe D=>D,(0,0,0,0,0),eu.bT b8 id,λ_ e D=>.inl D,λh=>by cases h⟩) ?_ ?_
 ·rintro(d:Bool) (F:Bool) u ⟨eu,hlt,hb6,_,iK,C,hf0,hf1⟩;refine C.rI rfl (C.rI rfl (C.rI rfl (C.rI rfl (C.rI rfl ?_))));refine hb6.s1 (by simp[eW]) λv3 o3 b3=>b3.s1 (by simp[eW]) λv4 o4 b4=>b4.s1 (by simp[eW]) λv5 o5 b5=>b5.s1 (by simp[eW]) λv6 o6 b6=>b6.s1 (by simp[eW]) λv7 o7 b7=>?_;have eo:Ext (· = U.size) u v7:=(((o3.ext.trans o4.ext).trans o5.ext).trans o6.ext).trans o7.ext;have e7:bK U v7:=Ext.fresh eu eo λi (hi:i=U.size)=>by omega
  have A:bY v7 U.size (eW iK):=b7;refine A.rI rfl (A.rI rfl (A.rI rfl (A.rI rfl (A.rI rfl ?_))));cases d with
  | false=>exact h0 iK v7 e7 λe D=>(hf0 rfl e D).resolve_left aA
  | true=>
   obtain⟨e,D,rfl,G⟩:=hf1 rfl;exact h1 e v7 e7 D G
 ·rintro g k (b:B5) (d:Bool) (F:Bool) u u' J ⟨eu,hlt,hb6,E,iK,C,hf0,hf1⟩ Q o1 hs1 hJ;have bi:hO b:=(xi _ (E _ Q)).2;have ov:=hov b bi;have zu:=eu.1;have hz':=o1.1;have hbm:=bi.m;have hbz:=bi.z;have hbb:=bi.base;have hbt:=bi.t;have hbs:=bi.s;have hww:=Z2 (n:=b.2.1) O;have eu':bK U u':=Ext.fresh eu o1.ext λc (hc:c=v1.size)=>by omega
  have Z:=o1.ext.bT hb6 (show ¬U.size=v1.size by omega);have X:=o1.ext.bT C (show ¬v.size=v1.size by omega);have hkm:=p.m.lt;refine nw (cs:=eW (0,0,0,0,0)) λv2 hz2 e2 b2=>b2.s1 (by simp[eW]) λv3 o3 b3=>b3.s1 (by simp[eW]) λv4 o4 b4=>b4.s1 (by simp[eW]) λv5 o5 b5=>b5.s1 (by simp[eW]) λv6 o6 b6=>b6.s1 (by simp[eW]) λv7 o7 b7=>?_;have eo:Ext (· = u'.size) v2 v7:=(((o3.ext.trans o4.ext).trans o5.ext).trans o6.ext).trans o7.ext;have e7:bK u' v7:=Ext.fresh e2 eo λi (hi:i=u'.size)=>by omega
  have A:bY v7 u'.size (eW b):=b7;have V:∀{w:Hp},bK u' w->w[v1.size]?=u'[v1.size]?/\w[km]?=u'[km]? := λe=>⟨e.2 _ O id,e.2 _ O id⟩;have N:∀e∈g.filter (λy=>!(y.1==k)),e∈x.kn:=λe D=>E e (zI.1 D).1;have hkb:∀e∈x.kn,e∈g->e∈g.filter (λy=>!(y.1==k))\/e=(k,b):=λe D ht=>by
   by_cases hk:e.1=k
   ·right;have h1:=QA p.m.nodup (show(e.1,e.2)∈x.kn from D);have h2:=QA p.m.nodup (E _ Q);rw[hk,h2]at h1;exact Prod.ext hk (Option.some.inj h1).symm
   ·exact .inl (zI.2 ⟨ht,by simpa using hk⟩)
  have same:∀w,bK u' w->(d=false->¬lx ofV addr b)->J d F w:=λw ew hnb=>by
   have zw:=ew.1;refine hJ d F w (V ew).1 (V ew).2 ⟨eu'.trans ew,O,ew.bT Z id,N,iK,ew.bT X id,λB e D=>?_,hf1⟩;rcases hf0 B e D with h|h
   ·rcases hkb e D h with h|rfl
    ·exact .inl h
    ·exact .inr (hnb B)
   ·exact .inr h
  refine wa (λr u2=>bK u' u2/\bY u2 u'.size (eW b)/\r = !decide (lx ofV addr b)) (λr u2 ⟨eu2,M,hr⟩=>?_) λJ1 hJ1=>?_
  ·by_cases G:lx ofV addr b
   ·refine cB (by rw[hr,zJ G];rfl) ?_;have pu:=(p.fr eu').fr eu2;refine M.rI rfl (M.rI rfl (M.rI rfl (M.rI rfl (M.rI rfl (UW pu b λW e17=>?_)))));have E17:=eu2.trans e17;have j:=e17.bT M id;have h617:=E17.bT Z id;have Y:=E17.bT X id;refine QZ (λr u3=>u3=W/\(d=false->r=true)) (λr u3 ⟨hu3,hr3⟩=>?_) λJ2 hJ2=>?_
    ·rw[hu3];refine QZ (λr1 u4=>u4=W/\(d=false->r1=true)) (λr1 u4 ⟨hu4,hr4⟩=>?_) λJ3 hJ3=>?_
     ·rw[hu4];refine cO (λh1=>?_) λh1=>same W E17 λB=>by rw[hr4 B]at h1;cases h1
      refine j.rI rfl (j.rI rfl (j.rI rfl (j.rI rfl (j.rI rfl ?_))));refine Y.s1 (by simp[eW]) λw3 q3 c3=>c3.s1 (by simp[eW]) λw4 q4 c4=>c4.s1 (by simp[eW]) λw5 q5 c5=>c5.s1 (by simp[eW]) λw6 q6 c6=>c6.s1 (by simp[eW]) λw7 q7 c7=>?_;have qo:Ext (· = v.size) W w7:=(((q3.ext.trans q4.ext).trans q5.ext).trans q6.ext).trans q7.ext;have c7':bY w7 v.size (eW b):=c7;have z17:=E17.1;have zq:=qo.1;refine hJ true _ w7 ?_ ?_ ⟨Ext.fresh (eu'.trans E17) qo λc (hc:c=v.size)=>O,O,qo.bT h617 (show ¬U.size=v.size by omega),N,b,c7',λh=>(by cases h),λ_=>⟨(k,b),E _ Q,rfl,G⟩⟩
      ·rw[qo.2 _ O (show ¬v1.size=v.size by omega)];exact(V E17).1
      ·rw[qo.2 _ O (show ¬km=v.size by omega)];exact(V E17).2
     ·refine cO (λh=>hJ3 _ _ ⟨rfl,λ_=>rfl⟩) λh=>?_;have S:¬d=false:=λB=>by rw[hr3 B]at h;cases h
      exact bV.intro (cO (λ_=>j.rI rfl (Y.rI rfl (hJ3 _ _ ⟨rfl,λB=>(S B).elim⟩))) λ_=>hJ3 _ _ ⟨rfl,λB=>(S B).elim⟩)
    ·refine cO (λh=>hJ2 _ _ ⟨rfl,λ_=>rfl⟩) λh=>?_;have S:¬d=false:=λB=>by rw[B]at h;cases h
     exact bV.intro (cO (λ_=>hJ2 _ _ ⟨rfl,λB=>(S B).elim⟩) λ_=>hJ2 _ _ ⟨rfl,λB=>(S B).elim⟩)
   ·exact cE (by rw[hr,zK G];rfl) (same u2 eu2 λ_=>G)
  ·have hS:∀m,bK v7 m->bY m u'.size (eW b):=λm e=>e.bT A id;refine⟨λm=>bK v7 m,Ext.refl _ _,og (c:=bN) (y:=b.1) hS rfl (cQ (λh=>hJ1 _ _ ⟨e7,A,?_⟩) λh=>?_)⟩
   ·rw[zK];rfl;rintro⟨h1,_⟩;exact absurd h O
   ·refine og (c:=bN) (y:=b.1) hS rfl (gV (c:=bN) (y:=b.1) hS rfl (gV (c:=bN) (y:=b.2.1) hS rfl (gV (c:=bN) (y:=b.2.2.1) hS rfl (gV (c:=bN) (y:=b.2.2.2.1) hS rfl (gV (c:=bN) (y:=b.2.2.2.2) hS rfl (hof b v7 _ bi λu3 e3=>⟨e3,ar O O (hJ1 _ _ ⟨e7.trans e3,e3.bT A id,?_⟩)⟩))))));rw[lZ,mh,decide_eq_true_iff,decide_eq_false_iff_not];unfold lx;omega
theorem MZ (b:B5)(u:Hp)(K:aN)(bi:hO b)(hK:∀u',bK u u'->K (Zr b.2.1) u'):VM Tryz.prog ⟨44,#[],#[]⟩ [.agg #[.int .i64 b.1,.int .i64 b.2.1,.int .i64 b.2.2.1,.int .i64 b.2.2.2.1,.int .i64 b.2.2.2.2]] [.one bN] u K:=by
 have:=bi.s;refine py (all := #[.agg #[.int .i64 b.1,.int .i64 b.2.1,.int .i64 b.2.2.1,.int .i64 b.2.2.2.1,.int .i64 b.2.2.2.2]]) (by kernel_rfl) aA ?_;exact U4 b O O hK
theorem Rk (b:B5)(u:Hp)(K:aN)(bi:hO b)(hK:∀u',bK u u'->K b.2.1 u'):VM Tryz.prog ⟨57,#[],#[]⟩ [.agg #[.int .i64 b.1,.int .i64 b.2.1,.int .i64 b.2.2.1,.int .i64 b.2.2.2.1,.int .i64 b.2.2.2.2]] [.one bN] u K:=by
 refine py (all := #[.agg #[.int .i64 b.1,.int .i64 b.2.1,.int .i64 b.2.2.1,.int .i64 b.2.2.2.1,.int .i64 b.2.2.2.2]]) (by kernel_rfl) aA ?_;refine Yt.o ?_;unfold Yt.v;exact nw (cs:=eW b) λv d e a=>a.eZ rfl (hK v e)
def uF (addr:Int)(b:B5):Prop:=lx (λb=>Zr b.2.1) addr b
def DD (addr:Int)(b:B5):Prop:=lx (λb=>b.2.1) addr b
def sW (H:Hw)(x:Gu)(addr e:Int):Prop:=(e=7/\((∀k∈x.kn,¬uF addr k.2)\/addr%8≠0))\/(∃k∈x.kn,uF addr k.2/\addr%8=0/\e=if Uy H k.2 then 5 else 0)
set_option maxRecDepth 16000 in
theorem DR (p:GP σ0 U L H held s0 P gb km fm x)(xi:∀e∈x.kn,e.1=e.2.1/\hO e.2)(addr:Int){R:aN}(hR:∀e w,bK U w->sW H x addr e->R e w):XX.c (aW gb) addr U R:=by
 refine XX.o ?_;unfold XX.v;have M:∀b,hO b->0<=Zr b.2.1/\Zr b.2.1<=100000:=λb A=>by have:=A.s;have:=Z2 (n:=b.2.1) O;omega
 have box:∀{w:Hp} {B D F S Q:Int} {K:Addr->Hp->Prop},(∀g,bK w g->bY g w.size (eW (B,D,F,S,Q))->K ⟨w.size,0,none⟩ g) →
  Nw (.cells #[.int .i64 0,.int .i64 0,.int .i64 0,.int .i64 0,.int .i64 0] 95 (0,0)) w λm v2=>dS (m.add 0) (.int .i64 B) v2 λv3=>dS (m.add 1) (.int .i64 D) v3 λX=>dS (m.add 2) (.int .i64 F) X λZ=>dS (m.add 3) (.int .i64 S) Z λv6=>dS (m.add 4) (.int .i64 Q) v6 λv7=>K m v7:=λ{w B D F S Q K} hK=>
  nw (cs:=eW (0,0,0,0,0)) λv2 hz2 e2 b2=>b2.s1 (by simp[eW]) λv3 o3 b3=>b3.s1 (by simp[eW]) λX o4 b4=>b4.s1 (by simp[eW]) λZ o5 b5=>b5.s1 (by simp[eW]) λv6 o6 b6=>b6.s1 (by simp[eW]) λv7 o7 d=>
   hK v7 (Ext.fresh e2 ((((o3.ext.trans o4.ext).trans o5.ext).trans o6.ext).trans o7.ext) λi (hi:i=w.size)=>O) d
 refine Vi p (cB rfl (ED p xi addr M MZ (λb w C hn=>?_) λk w C G j=>?_))
 ·refine box λg E d=>bV.intro (cE rfl (cE rfl (hR 7 g (C.trans E) (.inl ⟨rfl,.inl hn⟩))))
 ·refine box λg E d=>?_;have A:hO k.2:=(xi _ G).2;have h0:0<=addr:=by have:=j.1;have:=A.z;have:=A.base;omega
  have a:=C.trans E;refine QZ (λr u=>u=g/\r=decide (addr%8≠0)) (λr u ⟨hu,V⟩=>?_) λJ hJ=>cB rfl (nz aB (hJ _ _ ⟨rfl,?_⟩))
  ·rw[hu];by_cases h8:addr%8≠0
   ·exact cE (by rw[V];exact zJ h8) (hR 7 g a (.inl ⟨rfl,.inr h8⟩))
   ·refine cB (by rw[V];exact zK h8) (d.rI rfl (d.rI rfl (d.rI rfl (d.rI rfl (d.rI rfl (UW (p.fr a) k.2 λY W=>?_))))));have y:addr%8=0:=by omega
    refine cO (λN=>hR 5 Y (a.trans W) (.inr ⟨k,G,j,y,by rw[N];rfl⟩)) λN=>hR 0 Y (a.trans W) (.inr ⟨k,G,j,y,by rw[N];rfl⟩)
  ·rw[Qp h0];by_cases h8:addr%8=0
   ·rw[h8];decide
   ·rw[zJ h8];simpa using h8
theorem Ri (p:GP σ0 U L H held s0 P gb km fm x)(xi:∀e∈x.kn,e.1=e.2.1/\hO e.2)(addr:Int)(ha:addr<=9223372036854775807){R:Int->Int->Hp->Prop}(h0:∀e w,e≠0->bK U w->sW H x addr e->R 0 e w)(h1:∀w,bK U w->sW H x addr 0->R (QX H.sp addr) (eR H.sp addr) w):YP.c (aW gb) addr U R:=by
 refine YP.o ?_;unfold YP.v;refine DR p xi addr λe w d i=>cO (λa=>h0 e w (by simpa using a) d i) λg=>?_;have m:e=0:=by simpa using g
 subst m;have j:=p.fr d;exact aG (j.b.rP rfl (DJ j.h addr ha λr e2=>h1 r (d.trans e2) i))
theorem Ca (p:GP σ0 U L H held s0 P gb km fm x)(gc:Gc σ0)(xi:∀e∈x.kn,e.1=e.2.1/\hO e.2)(addr u:Int)(ha:addr<=9223372036854775807){R:aN}(h0:∀e w,e≠0->bK U w->sW H x addr e->R e w)
 (h1:∀w s0' P',sW H x addr 0->Ext P U w->GP σ0 w L {H with sp:=ZV H.sp addr u} held s0' P' gb km fm x->(∀c,P' c->P c\/U.size<=c)->R (eR H.sp addr) w):Xk.c (aW gb) addr u U R:=by
 refine Xk.o ?_;unfold Xk.v;refine DR p xi addr λe w a j=>cO (λi=>h0 e w (by simpa using i) a j) λg=>?_;have y:e=0:=by simpa using g
 subst y;have m:=p.fr a;have A:=a.1;exact aG (m.b.rP rfl (m.write gc addr u ha λs s2 P2 e2 z d=>h1 s s2 P2 j ((bK.to a).trans e2) z λc r=>(d c r).imp id λh=>O))
set_option maxRecDepth 16000 in
theorem ID (p:GP σ0 U L H held s0 P gb km fm x)(xi:∀e∈x.kn,e.1=e.2.1/\hO e.2)(addr:Int){R:Int->Int->Int->Int->Int->Hp->Prop}(h0:∀w,bK U w->(∀k∈x.kn,¬DD addr k.2)->R 0 0 0 0 8 w)(h1:∀k w,bK U w->k∈x.kn->DD addr k.2->R k.2.1 k.2.2.1 k.2.2.2.1 k.2.2.2.2.1 0 w):YO.c (aW gb) addr U R:=by
 refine YO.o ?_;unfold YO.v;have N:∀b,hO b->0<=b.2.1/\b.2.1<=100000:=λb bi=>by have:=bi.s;omega
 refine nw (cs:=[.int .i64 0,.int .i64 0,.int .i64 0,.int .i64 0]) λv hz e b4=>?_;have j:∀{w:Hp} {a b c d:Int} {K:Int->Int->Int->Int->Hp->Prop},bK U w->bY w U.size [.int .i64 0,.int .i64 0,.int .i64 0,.int .i64 0]->(∀g,bK U g->K a b c d g) →
  dS (Addr.add ⟨U.size,0,none⟩ 0) (.int .i64 a) w λv7=>dS (Addr.add ⟨U.size,0,none⟩ 1) (.int .i64 b) v7 λv8=>dS (Addr.add ⟨U.size,0,none⟩ 2) (.int .i64 c) v8 λv9=>dS (Addr.add ⟨U.size,0,none⟩ 3) (.int .i64 d) v9 λv10=>
  gA .i64 (Addr.add ⟨U.size,0,none⟩ 0) v10 λr0=>gA .i64 (Addr.add ⟨U.size,0,none⟩ 1) v10 λr1=>gA .i64 (Addr.add ⟨U.size,0,none⟩ 2) v10 λr2=>gA .i64 (Addr.add ⟨U.size,0,none⟩ 3) v10 λr3=>K r0 r1 r2 r3 v10:=λm C M=>
  C.s1 aA λv1 o1 b1=>b1.s1 aA λW o2 D=>D.s1 aA λv3 o3 S=>S.s1 aA λA o4 b4=>b4.rI rfl (b4.rI rfl (b4.rI rfl (b4.rI rfl (M A ((((m.only o1 (.inr (zD _))).only o2 (.inr (zD _))).only o3 (.inr (zD _))).only o4 (.inr (zD _)))))))
 have box:∀{w:Hp} {B E J V Q:Int} {K:Addr->Hp->Prop},(∀z,bK w z->bY z w.size (eW (B,E,J,V,Q))->K ⟨w.size,0,none⟩ z) →
  Nw (.cells #[.int .i64 0,.int .i64 0,.int .i64 0,.int .i64 0,.int .i64 0] 95 (0,0)) w λu W=>dS (u.add 0) (.int .i64 B) W λv3=>dS (u.add 1) (.int .i64 E) v3 λA=>dS (u.add 2) (.int .i64 J) A λY=>dS (u.add 3) (.int .i64 V) Y λZ=>dS (u.add 4) (.int .i64 Q) Z λv7=>K u v7:=λ{w B E J V Q K} M=>
  nw (cs:=eW (0,0,0,0,0)) λW hz2 e2 D=>D.s1 (by simp[eW]) λv3 o3 S=>S.s1 (by simp[eW]) λA o4 b4=>b4.s1 (by simp[eW]) λY o5 b5=>b5.s1 (by simp[eW]) λZ o6 b6=>b6.s1 (by simp[eW]) λv7 o7 r=>
   M v7 (Ext.fresh e2 ((((o3.ext.trans o4.ext).trans o5.ext).trans o6.ext).trans o7.ext) λi (hi:i=w.size)=>O) r
 have X:=p.fr e;refine Vi X (cB rfl (ED X xi addr N Rk (λb w m hn=>?_) λk w m hk F=>?_))
 ·refine box λz y r=>cE rfl (j (K:=λa b c d g=>R a b c d 8 g) ((e.trans m).trans y) ((m.trans y).bT b4 id) λg G=>h0 g G hn)
 ·refine box λz y r=>cB rfl (r.eZ rfl (r.eZ rfl (r.eZ rfl (r.eZ rfl ?_))));exact j (K:=λa b c d g=>R a b c d 0 g) ((e.trans m).trans y) ((m.trans y).bT b4 id) λg G=>h1 k g G hk F
theorem I7 (p:GP σ0 U L H held s0 P gb km fm x){R:Option Addr->Hp->Prop}(hR:R (some ⟨L.p,0,none⟩) U):YB.c (aW gb) U R:=by
 refine YB.o ?_;unfold YB.v;exact Vi p (cB rfl (aG (p.b.rP rfl hR)))
end Go.Ar
namespace Go.Ar
open Go Go.Vc Go.Proofs
open Go.Vc (bW dB cS)
variable {size align:Int}{U σ0 v w w':Hp}{F P Q X T:Rg}{L:dJ}{H H' H1:Hw}{held:List Pc}{s0 sp:Sp}{t n:Nat}{g:Th}{gb km fm m:Nat}{x y:Gu}{b:B5}
theorem iC.xg {n m:Nat}{H H1 H2:Hw}{t:Nat}{p:Ph}{a1 e1 a2 e2:Int}(h:iC n H t p H1 a1 e1)(h':iC m H t p H2 a2 e2):H1=H2/\a1=a2/\e1=e2:=by
 induction h generalizing m with
 | done h1 h2=>
  cases h' with
  | done=>exact⟨rfl,rfl,rfl⟩
  | next _ h3 _=>rw[h2]at h3;cases h3
 | next h1 h2 _ ih=>
  cases h' with
  | done _ h3=>rw[h2]at h3;cases h3
  | next _ h3 h4=>rw[h2]at h3;cases h3;exact ih h4
theorem V8.xg {thread kind size align addr a1 e1 a2 e2:Int}{H1 H2:Hw}(h:V8 H thread kind size align addr H1 a1 e1)(h':V8 H thread kind size align addr H2 a2 e2):H1=H2/\a1=a2/\e1=e2:=by
 rcases h with⟨h1,_,rfl,rfl⟩|⟨t,p,n,h1,h2⟩
 ·rcases h' with⟨g1,_,rfl,rfl⟩|⟨_,_,_,g1,_⟩
  ·rw[h1]at g1;cases g1;exact⟨rfl,rfl,rfl⟩
  ·rw[h1]at g1;cases g1
 ·rcases h' with⟨g1,_⟩|⟨_,_,_,g1,g2⟩
  ·rw[h1]at g1;cases g1
  ·rw[h1]at g1;cases g1;exact h2.xg g2
theorem M5:tJ w0 64:=by
 have h:=Ea (xs:=qx 8) (p:=64) (a:=1) (t:=1) (b:=1024) (r:=2) (Hq 8 aB aB) aB;rw[wb]at h;exact h
theorem Gr {a:Option Addr}{thread addr:Int}{R:aN}(h:XU.c a thread addr true U R):Xg.c a thread addr U R:=Xg.o (by unfold Xg.v;exact h)
theorem GQ (H:Hw)(thread:Int):Uf H thread=if 0<=thread/\thread<(H.bQ.length:Int)then fH H thread.toNat else none:=by
 unfold Uf fH;split
 ·cases H.bQ[thread.toNat]?<;>rfl
 ·rfl
theorem RZ (o:gg H H')(thread:Int):Ke H' thread=Ke H thread:=by
 unfold Ke;rw[GQ,GQ,o.kp.2.1,o.kp.2.2.1,o.ph]
theorem PL {a b:Sl}{xs ys:List Int}{G:Rg}(ha:cW a 1 (Wo xs) U F)(hb:cW b 1 (Wo ys) U G)(hl:xs.length<=1000000000){R:aO}(hR:R (decide (xs=ys)) U):XG.c a b U R:=by
 refine XG.o ?_;unfold XG.v;have A:a.len=xs.length:=by have:=ha.1;simp[Wo]at this;omega
 have B:b.len=ys.length:=by have:=hb.1;simp[Wo]at this;omega
 rw[A,B,om];refine cO (λr=>?_) λr=>?_
 ·have d:xs.length≠ys.length:=by simpa using r
  rw[zK λe=>d (by rw[e])]at hR;exact hR
 have J:xs.length=ys.length:=by simpa using r
 refine ZX (a:=bN) (λ(t:Int) v=>∃i:Nat,t=(i:Int)/\i<=xs.length/\v=U/\xs.take i=ys.take i) (λt _=>xs.length-t.toNat) ⟨0,rfl,O,rfl,rfl⟩ ?_;rintro t v ⟨i,rfl,K,rfl,g⟩;refine cQ (λE=>?_) λC=>?_
 ·have s:i<xs.length:=by omega
  have j:xs[i]?=some xs[i]:=cU s;have p:ys[i]?=some (ys[i]' O):=cU _;generalize xs[i]=x at j;generalize ys[i]' O=y at p;rw[←A,←B];refine ha.np j (hb.np p (cO (λd=>?_) λu=>?_))
  ·have H:x≠y:=by simpa using d
   rw[zK]at hR
   ·exact hR
   ·intro e;rw[e,p]at j;exact H (Option.some.inj j).symm
  ·have w:x=y:=by simpa using u
   refine cP (m:=i+1) O O ⟨⟨i+1,rfl,O,rfl,?_⟩,O⟩;rw[k9,k9,g,j,p,w]
 ·have D:i=xs.length:=by omega
  have:xs=ys:=by
   have z:=g;rw[mQ O,mQ O]at z;exact z
  rw[zJ this]at hR;exact hR
def gm:Hw×Int×Int:=(xe w0 0 0 56 16 0).getD (w0,0,99)
theorem B8:gm.2=(4096,0):=by decide +kernel
theorem wP:V8 w0 0 0 56 16 0 gm.1 4096 0:=by
 have a:=B8;unfold gm at *;cases hw:xe w0 0 0 56 16 0 with
 | none=>rw[hw]at a;exact absurd (congrArg Prod.snd a) aB
 | some r=>
  rw[hw]at a;have:=My hw;have e1:r.2=(4096,0):=a;rw[e1]at this;exact this
def gB:B5:=(4112,24,4096,64,1)
theorem BP:Ki gm.1 4096=some 64:=by decide +kernel
def gX:Gu:=nD.fS gB
def qp:Hw:={gm.1 with sp:=lV gm.1.sp gB}
def nX:Hw:={qp with sp:=ZV qp.sp 4136 5}
def pZ:Hw:={nX with sp:=ZV nX.sp 4136 (-4137)}
def ur:Hw:={pZ with sp:=ZV pZ.sp 4128 7}
theorem Iz:eR qp.sp 4136=0:=by decide +kernel
theorem wE:Bl nX gX 4112=0/\Bc nX gX 4112=[4136]/\mZ nX gX 0 4112 true=10/\eR nX.sp 4136=0:=by decide +kernel
theorem BB:eR pZ.sp 4128=0/\Uy pZ gB=false:=by decide +kernel
theorem Eo:mZ ur gX 0 4112 true=0/\Ke (iB ur gB) 0=0:=by decide +kernel
theorem A4:gX.kn=[(4112,gB)]:=rfl
theorem pc:∀e∈gX.kn,e.1=e.2.1/\hO e.2:=λe a=>by
 rw[A4,zN]at a;subst a;exact⟨rfl,⟨by decide,by decide⟩,⟨by decide,by decide⟩,⟨by decide,by decide,by decide⟩,⟨by decide,by decide⟩,by decide⟩
theorem PE:mZ H (gX.gone 4112) 0 4112 true=if Ke H 0≠0 then Ke H 0 else 9:=by
 unfold mZ;split
 ·rfl
 ·rfl
attribute [local irreducible] w0 gm qp nX pZ ur
theorem Oq:qp = {gm.1 with sp:=lV gm.1.sp gB}:=by unfold qp;rfl
theorem OV:nX = {qp with sp:=ZV qp.sp 4136 5}:=by unfold nX;rfl
theorem IL:pZ = {nX with sp:=ZV nX.sp 4136 (-4137)}:=by unfold pZ;rfl
theorem D5:ur = {pZ with sp:=ZV pZ.sp 4128 7}:=by unfold ur;rfl
set_option maxRecDepth 8000 in
theorem CZ (gl:Gl U)(gc:Gc U){R:aO}(hR:∀σ',bK U σ'->R true σ'):Xc.c U R:=by
 refine Xc.o ?_;unfold Xc.v;refine Rm gl gc.gd λv L N e hsN hNv h0=>cB rfl ?_;have V:=M5;have hc0:w0.cf.aF=64:=by have:=V.pg;omega
 refine F9 e h0.cut V.hi V.cf O (λb C=>⟨by have:N<=b:=C.1;omega,C.2⟩) (AN gl gc.gd) λw gb km fm e1 _ p=>?_;refine bV.intro (cB rfl (cB rfl ?_));refine CX p gc ⟨by decide,by decide⟩ 0 24 8 (λw E=>absurd E aB) (λe w ts H' g y P' _ d i=>?_) λb w2 ts H1 r s1 P1 D i o e2 S hP2=>?_
 ·have:=i.xg wP;exact absurd this.2.2 d
 obtain⟨rfl,x,_⟩:=i.xg wP;have C:b=gB:=by
  have hu:=D.u;rw[x,BP]at hu;have h1:=D.a;rw[x]at h1;have h2:b.2.2.2.1=64:=(Option.some.inj hu).symm;exact Prod.ext (h1.trans aB) (Prod.ext D.s (Prod.ext x (Prod.ext h2 D.n)))
 subst C;have S:GP U w2 {L with ts:=ts} qp r s1 P1 gb km fm gX:=by rw[Oq];exact S
 refine bV.intro (cB aB (bV.intro (cB aB ?_)));refine S.write gc 4136 5 aB λw3 s3 P3 e3 K _=>?_;rw[Iz];rw[←OV]at K;refine cB aB ?_;refine Du K pc 4112 λsl w4 Q e4 hs hQ=>?_;rw[wE.1];rw[wE.2.1]at hs;have p4:=K.fr e4;refine bV.intro (cB aB (nw (cs:=[.int .i64 4136]) λw5 hz5 e5 b5=>?_));have p5:=p4.fr e5;have F:=aI.bO hs e5;have X:cW ⟨some ⟨w4.size,0,none⟩,1,1⟩ 1 (Wo [4136]) w5 (· = w4.size):=b5.gF rfl rfl λj hj=>by rw[zH];rfl
 refine PL (bR.gF F) X aA ?_;refine bV.intro ?_;refine cB (show(!decide (([4136]:List Int)=[4136]))=false by decide) ?_;refine Gr ?_;refine Gs p5 gc pc 0 4112 true (λw6 d e6=>?_) λb w6 ts H1 g y P' e _ h=>by rw[wE.2.2.1]at h;exact absurd h aB
 rw[wE.2.2.1];have p6:=p5.fr e6;refine bV.intro (cB aB ?_);refine p6.write gc 4136 (-4137) aB λw7 s7 P7 e7 p7 _=>?_;rw[wE.2.2.2];rw[←IL]at p7;refine cB aB ?_;have J:uF 4128 gB:=⟨by decide,by decide⟩;have m:¬uF 4136 gB:=λh=>absurd h.2 aB;have wd:∀{H:Hw} {a e:Int},Uy H gB=false->sW H gX a e->(uF a gB/\a%8=0->e=0)/\(¬uF a gB->e=7):=λhl i=>by
  rcases i with⟨rfl,h⟩|⟨k,E,hi,h8,rfl⟩
  ·refine⟨λh'=>?_,λ_=>rfl⟩;rcases h with h|h
   ·exact absurd h'.1 (h (4112,gB) (by rw[A4];exact zN.2 rfl))
   ·exact absurd h'.2 h
  ·rw[A4,zN]at E;subst E;simp only[hl];exact⟨λ_=>rfl,λh=>absurd hi h⟩
 refine Ca p7 gc pc 4128 7 aB (λe w d _ i=>absurd ((wd BB.2 i).1 ⟨J,by decide⟩) d) λw8 s8 P8 _ e8 G _=>?_;rw[BB.1];rw[←D5]at G;have z:Uy ur gB=false:=by rw[D5];exact BB.2
 refine Ca G gc pc 4136 7 aB (λe w9 d e9 i=>?_) λw s P i=>absurd ((wd z i).2 m) aB;have B:=(wd z i).2 m;subst B;have p9:=G.fr e9;refine bV.intro (cE rfl (bV.intro (cE rfl ?_)));refine Gr ?_;refine Gs p9 gc pc 0 4112 true (λw d=>absurd Eo.1 d) λb w10 ts H1 g y P' e Z _ i o fe e10 A hP10=>?_;have Y:b=gB:=by
  have:bW gX.kn 4112=some gB:=rfl;rw[this]at Z;exact(Option.some.inj Z).symm
 subst Y;refine bV.intro (cE rfl ?_);have xi:∀e∈(gX.gone 4112).kn,e.1=e.2.1/\hO e.2:=λe B=>by
  rw[show(gX.gone 4112).kn=[]from rfl]at B;simp at B
 have h9:mZ H1 (gX.gone 4112) 0 4112 true=9:=by
  rw[PE,RZ o,Eo.2];rfl
 refine Gr ?_;refine Gs A gc xi 0 4112 true (λW d M=>?_) λb w ts H1 g y P' e Z h=>by rw[h9]at h;exact absurd h aB
 rw[h9];exact hR W (A.fr M).e
end Go.Ar
namespace Go.Ar
open Go.Vc (bW dB cS)
variable {size align thread addr:Int}{H H' H1:Hw}{held held1:List Pc}{s0 s1 sp:Sp}{x y:Gu}{b:B5}
theorem EU {α:Type}{l:List (Int×α)}{n:Int}(h:bW l n=none)(v:α):dB l n v=l++[(n,v)]:=by
 unfold dB;rw[zB];intro hx;obtain⟨y,a,e⟩:=kC.1 hx;unfold bW at h;rw[qZ,nH]at h;exact h y a e
theorem GK {α:Type}{l:List (Int×α)}{n:Int}:bW l n=none↔∀e∈l,e.1≠n:=by
 unfold bW;rw[qZ,nH];simp only[zT]
theorem V9 {α β:Type}{f:α->β}:∀{l:List α},(l.map f).Nodup->∀{a b:α},a∈l->b∈l->f a=f b->a=b
 | [],_,_,_,h,_,_=>by simp at h
 | z::l,hn,a,b,ha,hb,e=>by
  simp only[zS,zr]at hn;rcases zW.1 ha with h1|h1
  ·rcases zW.1 hb with h2|h2
   ·rw[h1,h2]
   ·exact absurd (zE.2 ⟨b,h2,by rw[←e,h1]⟩) hn.1
  ·rcases zW.1 hb with h2|h2
   ·exact absurd (zE.2 ⟨a,h1,by rw[e,h2]⟩) hn.1
   ·exact V9 hn.2 h1 h2 e
theorem G9 (h:HI H held s0){e:Int×Bk}(he:e∈H.live){w:Nat}(h1:e.1<=((8*w:Nat):Int))(h2:((8*w:Nat):Int)<e.1+e.2.2.1):gf H.sp.st (w/32)≠0:=by
 obtain⟨_,p,a,_,_,d,b,_⟩:=h.lv e he;have:=h.mapped a (x:=8*w) O O
 rwa [show 8*w/256=w/32 by omega]at this
structure eP (H:Hw) (x:Gu):Prop where
 live:H.live.map (λe=>(e.1,e.2.2.1))=x.kn.map (λe=>(e.2.2.2.1,e.2.2.2.2.1))
 can:∀e∈x.kn,∀z∈Zb e.2,QX H.sp z=jx z
 ph:∀j,fH H j=none
 i:∀e∈x.kn,e.1=e.2.1/\hO e.2
 nd:(x.kn.map (·.1)).Nodup
theorem Cv (hi:HI H held s0){e e':Int×Bk}(he:e∈H.live)(he':e'∈H.live){z:Int}(h1:e.1<=z)(h2:z<e.1+e.2.2.1)(h3:e'.1<=z)(h4:z<e'.1+e'.2.2.1):e=e':=by
 obtain⟨_,p,d,_,_,a,i,_⟩:=hi.lv e he;obtain⟨_,q,b,_,_,g,j,_⟩:=hi.lv e' he';have:p=q:=hi.apart d b (x:=z.toNat) O O O O;subst this;exact V9 hi.lk he he' (by rw[←a,←g])
theorem eP.of (g:eP H x){e:Int×B5}(he:e∈x.kn):∃l∈H.live,l.1=e.2.2.2.1/\l.2.2.1=e.2.2.2.2.1:=by
 have:(e.2.2.2.1,e.2.2.2.2.1)∈H.live.map (λe=>(e.1,e.2.2.1)):=by rw[g.live];exact zE.2 ⟨e,he,rfl⟩
 obtain⟨l,a,h⟩:=zE.1 this;simp only[Prod.mk.injEq]at h;exact⟨l,a,h.1,h.2⟩
theorem eP.q8 (g:eP H x)(hi:HI H held s0):(x.kn.map λe=>e.2.2.2.1).Nodup:=by
 have a:=congrArg (List.map Prod.fst) g.live;rw[lb,lb]at a;have b:(x.kn.map λe=>e.2.2.2.1)=H.live.map (·.1):=a.symm;rw[b];exact hi.lk
theorem eP.apart (g:eP H x)(hi:HI H held s0){e e':Int×B5}(he:e∈x.kn)(he':e'∈x.kn){z:Int}(h1:e.2.2.2.1<=z)(h2:z<e.2.2.2.1+e.2.2.2.2.1)(h3:e'.2.2.2.1<=z)(h4:z<e'.2.2.2.1+e'.2.2.2.2.1):e=e':=by
 obtain⟨l,d,b,j⟩:=g.of he;obtain⟨m,a,i,p⟩:=g.of he';have:=Cv hi d a (z:=z) O O O O;subst this;exact V9 (g.q8 hi) he he' (by rw[←b,←i])
theorem eP.usable (g:eP H x)(hi:HI H held s0){e:Int×B5}(he:e∈x.kn):Ki H e.2.2.2.1=some e.2.2.2.2.1:=by
 obtain⟨l,d,b,a⟩:=g.of he;unfold Ki;rw[←b,QA hi.lk (show(l.1,l.2)∈H.live from d)];exact congrArg some a
theorem eP.lost (g:eP H x)(hi:HI H held s0){e:Int×B5}(he:e∈x.kn):Uy H e.2=false:=by
 unfold Uy;rw[g.usable hi he];simp
theorem eP.map (g:eP H x)(hi:HI H held s0){e:Int×B5}(he:e∈x.kn){w:Nat}(h1:e.2.2.2.1<=((8*w:Nat):Int))(h2:((8*w:Nat):Int)<e.2.2.2.1+e.2.2.2.2.1):gf H.sp.st (w/32)≠0:=by
 obtain⟨l,a,d,b⟩:=g.of he;exact G9 hi a O O
theorem hO.word (bi:hO b){z:Int}(h:z∈Zb b\/z∈Qy b):(∃w:Nat,z=((8*w:Nat):Int))/\b.2.2.1<=z/\z<b.2.2.1+b.2.2.2.1:=by
 have e:=bi.base;have d:=bi.z;have a:=bi.t;rcases h with h|h
 ·have:=U1 bi h;exact⟨⟨z.toNat/8,O⟩,O,O⟩
 ·have:=AJ bi h;exact⟨⟨z.toNat/8,O⟩,O,O⟩
theorem hO.nw (bi:hO b){z:Int}(h:z∈Zb b):z∉Qy b:=λa=>by
 have e:=U1 bi h;have d:=AJ bi a;omega
theorem eP.acc (g:eP H x)(hi:HI H held s0){e:Int×B5}(he:e∈x.kn){z:Int}(h:z∈Zb e.2\/z∈Qy e.2):eR H.sp z=0:=by
 obtain⟨⟨w,rfl⟩,a,b⟩:=(g.i e he).2.word h;exact Ur.2 (g.map hi he a b)
theorem eP.broken (g:eP H x)(hi:HI H held s0){e:Int×B5}(he:e∈x.kn):Km H.sp e.2=[]:=by
 unfold Km;rw[List.filter_eq_nil_iff];intro z hz;unfold jI;rw[g.acc hi he (.inl hz),g.can e he z hz];simp
theorem eP.cG (g:eP H x)(hi:HI H held s0):pJ H x=[]:=by
 unfold pJ;rw[List.flatMap_eq_nil_iff];intro e he;unfold oz;rw[g.lost hi he,g.broken hi he];rfl
theorem eP.kI (bi:hO b){z:Int}(h1:b.1<=z)(h2:z<b.1+Zr b.2.1)(h8:z%8=0):z∈Qy b:=by
 have:=bi.z;have a:=Z2 (n:=b.2.1) (by have:=bi.s;omega);refine zE.2 ⟨((z-b.1)/8).toNat,zg.2 ?_,O⟩;unfold sF;omega
theorem Ai (hi:HI H held s0)(ks:KS H.sp sp){l:Int×Bk}(hl:l∈H.live){w:Nat}(h1:l.1<=((8*w:Nat):Int))(h2:((8*w:Nat):Int)<l.1+l.2.2.1):QX sp ((8*w:Nat):Int)=QX H.sp ((8*w:Nat):Int)/\gf sp.st (w/32)≠0:=by
 have a:=G9 hi hl h1 h2;have:=ks.k _ a;rw[GB,GB,zC a,zC this.1,this.2 w rfl];exact⟨rfl,this.1⟩
def Kept (H:Hw)(x:Gu)(H':Hw)(x':Gu)(e:Int×B5):Prop:=e∈x'.kn/\∀z∈Qy e.2,QX H'.sp z=QX H.sp z
theorem PT (bi:hO b):∀z∈Zb b,0<=z/\z%8=0:=λz a=>by
 have:=U1 bi a;have:=bi.base;omega
theorem FZ (bi:hO b):∀z∈Qy b,0<=z/\z%8=0:=λz a=>by
 have:=AJ bi a;have:=bi.base;have:=bi.z;omega
theorem eP.fS (g:eP H x)(hi:HI H held s0)(gr:xG H x size align b H1)(o:gg H H1)(hi1:HI H1 held1 s1) :
 eP {H1 with sp:=lV H1.sp b} (x.fS b)/\(x.fS b).kn=x.kn++[(b.1,b)]/\(∀e∈x.kn,Kept H x {H1 with sp:=lV H1.sp b} (x.fS b) e)/\(∀z∈Qy b,QX (lV H1.sp b) z=0)/\eR (lV H1.sp b) b.1=0:=by
 have bi:=gr.bi;obtain⟨B,cl,A,_⟩:bW H.live b.2.2.1=none/\∃cl,H1.live=dB H.live b.2.2.1 (b.2.2.1,(G0 H.tb (zA align+Zr size+16) (zA align)).1,cl,XN H1.bX b.2.2.1)/\True:=by
  rcases gr.me with⟨h,_⟩|⟨_,F,_,cl,E,_⟩
  ·exact absurd rfl h
  ·exact⟨F,cl,E,trivial⟩
 have U:=gr.u;unfold Ki at U;rw[A,AZ]at U;have S:(G0 H.tb (zA align+Zr size+16) (zA align)).1=b.2.2.2.1:=Option.some.inj U;rw[S]at A;rw[EU B]at A;have L:∃l∈H1.live,l.1=b.2.2.1/\l.2.2.1=b.2.2.2.1:=⟨(b.2.2.1,(b.2.2.1,b.2.2.2.1,cl,XN H1.bX b.2.2.1)),by rw[A];simp,rfl,rfl⟩;obtain⟨ln,Q,W,ln2⟩:=L;have N:∀l∈H.live,l∈H1.live:=λl K=>by rw[A];exact kv _ K
 have G:∀e∈x.kn,∀z,e.2.2.2.1<=z->z<e.2.2.2.1+e.2.2.2.2.1->b.2.2.1<=z->z<b.2.2.1+b.2.2.2.1->False:=λe d z F E h3 h4=>by
  obtain⟨l,K,Z,a2⟩:=g.of d;have:=Cv hi1 (N l K) Q (z:=z) O O O O;subst this;have:=GK.1 B l K;exact this W
 have hb1:=bi.base;have hb2:=bi.z;have hb3:=bi.t;have hww:=Z2 (n:=b.2.1) (by have:=bi.s;omega);have M:bW x.kn b.1=none:=GK.2 λe d h=>by
  have y:=(g.i e d);have q0:=y.1;have q4:=y.2.s;have hbs:=bi.s;have q1:=y.2.base;have q2:=y.2.z;have q3:=y.2.t;have qw:=Z2 (n:=e.2.2.1) (by have:=y.2.s;omega);exact G e d b.1 O O O O
 have r:(x.fS b).kn=x.kn++[(b.1,b)]:=EU M b;have p:∀z,(z∈Zb b\/z∈Qy b)->∃w:Nat,z=((8*w:Nat):Int)/\gf H1.sp.st (w/32)≠0:=λz m=>by
  obtain⟨⟨w,rfl⟩,F,E⟩:=bi.word m;exact⟨w,rfl,G9 hi1 Q O O⟩
 have J:=PT bi;have D:=FZ bi;obtain⟨_,Y,_⟩:=xA jx (Zb b) H1.sp J;have P:∀w:Nat,((8*w:Nat):Int)∉Zb b->((8*w:Nat):Int)∉Qy b->QX (lV H1.sp b) ((8*w:Nat):Int)=QX H1.sp ((8*w:Nat):Int):=λw F E=>by
  unfold lV;rw[KY D,zB λh=>E h.1,KY J,zB λh=>F h.1]
 have C:∀e∈x.kn,∀z,(z∈Zb e.2\/z∈Qy e.2)->QX (lV H1.sp b) z=QX H.sp z:=λe d z m=>by
  obtain⟨l,K,Z,a2⟩:=g.of d;obtain⟨⟨w,rfl⟩,F,E⟩:=(g.i e d).2.word m;have:=Ai (H:=H) hi o.ks K (w:=w) O O;rw[P w (λm=>by have:=bi.word (.inl m);exact G e d _ F E this.2.1 this.2.2) (λm=>by have:=bi.word (.inr m);exact G e d _ F E this.2.1 this.2.2)];exact this.1
 refine⟨⟨?_,λe d z m=>?_,λj=>(o.ph j).trans (g.ph j),λe d=>?_,?_⟩,r,λe d=>⟨by rw[r];exact kv _ d,λz m=>C e d z (.inr m)⟩,λz m=>?_,?_⟩
 ·show H1.live.map _=_;rw[A,r,j9,j9,g.live];rfl
 ·show QX (lV H1.sp b) z=jx z;rw[r]at d;rcases zL.1 d with d|d
  ·rw[C e d z (.inl m)];exact g.can e d z m
  ·rw[zN]at d;subst d;obtain⟨w,rfl,R⟩:=p z (.inl m);unfold lV;rw[KY D,zB λh=>bi.nw m h.1,KY J,zC ⟨m,R⟩]
 ·rw[r]at d;rcases zL.1 d with d|d
  ·exact g.i e d
  ·rw[zN]at d;subst d;exact⟨rfl,bi⟩
 ·rw[r,j9,nE];refine⟨g.nd,by simp,λa ha c X=>?_⟩;simp only[zS,qh,zN]at X;subst X;obtain⟨e,d,rfl⟩:=zE.1 ha;exact GK.1 M e d
 ·obtain⟨w,rfl,R⟩:=p z (.inr m);unfold lV;rw[KY D,zC ⟨m,λh=>R ((Y _).1 h)⟩]
 ·have V:b.1∈Qy b:=eP.kI bi (sM _) (by have:=bi.s;omega) bi.z.2.2;obtain⟨w,hw,R⟩:=p b.1 (.inr V);obtain⟨_,k2,_⟩:=xA (λ_=>0) (Qy b) (j8 H1.sp (Zb b) jx) D;rw[hw];unfold lV;exact Ur.2 λh=>R ((Y _).1 ((k2 _).1 h))
theorem eP.same (g:eP H x)(hi:HI H held s0)(o:gg H H')(hl:H'.live=H.live):eP H' x/\∀e∈x.kn,Kept H x H' x e:=by
 have a:∀e∈x.kn,∀z,(z∈Zb e.2\/z∈Qy e.2)->QX H'.sp z=QX H.sp z:=λe b z d=>by
  obtain⟨l,hl,r,m⟩:=g.of b;obtain⟨⟨w,rfl⟩,p,s⟩:=(g.i e b).2.word d;exact(Ai (H:=H) hi o.ks hl (w:=w) O O).1
 exact⟨⟨by rw[hl];exact g.live,λe b z d=>by rw[a e b z (.inl d)];exact g.can e b z d,λj=>(o.ph j).trans (g.ph j),g.i,g.nd⟩,λe b=>⟨b,λz d=>a e b z (.inr d)⟩⟩
theorem eP.write (g:eP H x)(hi:HI H held s0){k:Int×B5}(hk:k∈x.kn){z v:Int}(hz:z∈Qy k.2):eP {H with sp:=ZV H.sp z v} x/\(∀e∈x.kn,e≠k->Kept H x {H with sp:=ZV H.sp z v} x e)/\(∀u∈Qy k.2,QX (ZV H.sp z v) u=if u=z then v else QX H.sp u):=by
 obtain⟨⟨a,rfl⟩,A,B⟩:=(g.i k hk).2.word (.inr hz);have p:=g.map hi hk A B;have m:∀w:Nat,QX (ZV H.sp ((8*a:Nat):Int) v) ((8*w:Nat):Int)=if w=a/\gf H.sp.st (w/32)≠0 then v else QX H.sp ((8*w:Nat):Int):=λw=>by
  have:=KY (f:=λ_=>v) (l:=[((8*a:Nat):Int)]) (sp:=H.sp) (λz hz=>by rw[zN]at hz;subst hz;omega) w;have e:j8 H.sp [((8*a:Nat):Int)] (λ_=>v)=ZV H.sp ((8*a:Nat):Int) v:=rfl;rw[e]at this;rw[this];by_cases hw:w=a
  ·subst hw;by_cases hm:gf H.sp.st (w/32)≠0
   ·rw[zC ⟨zN.2 rfl,hm⟩,zC ⟨rfl,hm⟩]
   ·rw[zB λh=>hm h.2,zB λh=>hm h.2]
  ·rw[zB λh=>hw (by have:=zN.1 h.1;omega),zB λh=>hw h.1]
 have j:∀e∈x.kn,∀u,(u∈Zb e.2\/u∈Qy e.2)->(e=k->u∈Zb e.2)->QX (ZV H.sp ((8*a:Nat):Int) v) u=QX H.sp u:=λe b u d r=>by
  obtain⟨⟨w,rfl⟩,C,y⟩:=(g.i e b).2.word d;rw[m,zB];rintro⟨rfl,_⟩;have:=g.apart hi b hk C y A B;subst this;exact(g.i e b).2.nw (r rfl) hz
 refine⟨⟨g.live,λe b u d=>?_,g.ph,g.i,g.nd⟩,λe b s=>⟨b,λu d=>j e b u (.inr d) λh=>absurd h s⟩,λu d=>?_⟩
 ·show QX (ZV H.sp ((8*a:Nat):Int) v) u=jx u;rw[j e b u (.inl d) λ_=>d];exact g.can e b u d
 ·obtain⟨⟨w,rfl⟩,C,y⟩:=(g.i k hk).2.word (.inr d);rw[m];by_cases hw:w=a
  ·subst hw;rw[zC ⟨rfl,p⟩,zC rfl]
  ·rw[zB λh=>hw h.1,zB λh=>hw O]
theorem eP.free (g:eP H x)(hi:HI H held s0){b:B5}(hk:bW x.kn addr=some b){e:Int}(hw:V8 (iB H b) thread 1 0 0 b.2.2.1 H1 0 e)(o:gg (iB H b) H1)(fe:oI (iB H b) thread b.2.2.1 H1 e)(hrd:Ke H thread=0)(hcf:H.cf.threads=H.bQ.length) :
 eP H1 (x.gone addr)/\∀k∈x.kn,k.1≠addr->Kept H x H1 (x.gone addr) k:=by
 have a:(addr,b)∈x.kn:=Vg hk;have C:=g.i _ a;have S:addr=b.1:=C.1;have L:hO b:=C.2;obtain⟨l,U,K,P⟩:=g.of a;simp only at K P;have F:(iB H b).live=H.live:=rfl;have E:bW H.live b.2.2.1=some l.2:=by rw[←K];exact QA hi.lk (show(l.1,l.2)∈H.live from U)
 have s:H1.live=cS H.live b.2.2.1:=by
  rcases fe with⟨_,_,h⟩|⟨_,h,_⟩|⟨_,_,_,_,h⟩
  ·exfalso;unfold Ke at hrd;rw[GQ]at hrd;split at hrd
   ·cases hrd
   ·rename_i hth;have p:=g.ph thread.toNat;unfold Kf at h;have D:thread.toNat<H.bQ.length:=by omega
    rw[zC (show 0<=thread/\thread<((iB H b).bQ.length:Int)from⟨O,by show thread<(H.bQ.length:Int);omega⟩)]at h;have R:(iB H b).bQ[thread.toNat]?=some H.bQ[thread.toNat]:=cU D;rw[R]at h;simp only at h;unfold fH at p;rw[cU D]at p;rw[zC (show H.bQ[thread.toNat].ph=none from p)]at h;unfold iI at h;rw[zB aB,zC rfl]at h;cases h
  ·rw[F,E]at h;cases h
  ·exact h
 have J:=FZ L;have r:∃s1,HI (iB H b) held s1:=HI.j8 _ _ hi;obtain⟨s1,r⟩:=r;have d:∀k∈x.kn,k.1≠addr->∀z,(z∈Zb k.2\/z∈Qy k.2)->QX H1.sp z=QX H.sp z:=λk hk m z A=>by
  obtain⟨M,G,W,V⟩:=g.of hk;obtain⟨⟨w,rfl⟩,Q,N⟩:=(g.i k hk).2.word A;rw[(Ai r o.ks (l:=M) G (w:=w) O O).1];show QX (j8 H.sp (Qy b) λ_=>Fi) _=_;rw[KY J,zB];rintro⟨hw,_⟩;have B:=L.word (.inr hw);have:=g.apart hi hk a Q N B.2.1 B.2.2;subst this;exact m rfl
 have u:∀k,k∈(x.gone addr).kn↔k∈x.kn/\k.1≠addr:=λk=>by
  show k∈cS x.kn addr↔_;unfold cS;rw[zI];simp
 refine⟨⟨?_,λk hk z A=>?_,λj=>(o.ph j).trans (g.ph j),λk hk=>g.i k ((u k).1 hk).1,?_⟩,λk hk m=>⟨(u k).2 ⟨hk,m⟩,λz A=>d k hk m z (.inr A)⟩⟩
 ·rw[s];show(cS H.live b.2.2.1).map _=(cS x.kn addr).map _;unfold cS;have e1:(H.live.filter λy=>!(y.1==b.2.2.1)).map (λe=>(e.1,e.2.2.1))=(H.live.map λe=>(e.1,e.2.2.1)).filter λq=>!(q.1==b.2.2.1):=by rw[vf];rfl
  rw[e1,g.live,vf]
  congr 1
  apply vO;intro k hk;simp only[Function.comp]
  congr 1
  rw[lZ,zT,zT];constructor
  ·intro h;have:=V9 (g.q8 hi) hk a h;rw[this]
  ·intro h;have:=V9 g.nd hk a h;rw[this]
 ·have:=(u k).1 hk;rw[d k this.1 this.2 z (.inl A)];exact g.can k this.1 z A
 ·show((cS x.kn addr).map _).Nodup;exact g.nd.sublist (List.filter_sublist.map _)
end Go.Ar
namespace Go.Ar
open Go Go.Vc Go.Proofs
open Go.Vc (bW dB cS)
variable {size align:Int}{U σ0 v w w':Hp}{F P Q X T:Rg}{L:dJ}{H H' H1:Hw}{held:List Pc}{s0 sp:Sp}{t n:Nat}{g:Th}{gb km fm m xb:Nat}{x y:Gu}{b:B5}
def uX (gb:Nat)(addrs ls:Sl):List Value:=[.pointer (some ⟨gb,0,none⟩),.slice addrs.a addrs.len addrs.cap,.slice ls.a ls.len ls.cap]
def pW (P:Rg)(gb km fm xb:Nat)(Qa Ql:Rg):Rg:=λb=>Mg P gb km fm b\/b=xb\/Qa b\/Ql b
structure kP (σ0 U:Hp) (xb:Nat) (L:dJ) (H:Hw) (held:List Pc) (s0:Sp) (P:Rg) (gb km fm:Nat) (x:Gu) (Qa Ql:Rg) (addrs:Sl) (ad:List Int) (ls:Sl) (la:List T3):Prop where
 p:GP σ0 U L H held s0 P gb km fm x
 b:bY U xb (uX gb addrs ls)
 ra:bR addrs 1 (Wo ad) U Qa
 rl:bR ls 3 (j4 la) U Ql
 vz:σ0.size<=xb/\¬Mg P gb km fm xb/\¬Qa xb/\¬Ql xb
 qa:∀b,Qa b->σ0.size<=b/\b<U.size/\¬Mg P gb km fm b
 ql:∀b,Ql b->σ0.size<=b/\b<U.size/\¬Mg P gb km fm b
 qq:∀b,Qa b->¬Ql b
variable {Qa Ql:Rg}{addrs ls:Sl}{ad:List Int}{la:List T3}
theorem kP.fr (o:kP σ0 U xb L H held s0 P gb km fm x Qa Ql addrs ad ls la)(e:bK U w):kP σ0 w xb L H held s0 P gb km fm x Qa Ql addrs ad ls la:=
 ⟨o.p.fr e,e.bT o.b id,aI.bO o.ra e,aI.bO o.rl e,o.vz,λb a=>by have h:=o.qa b a;have:=e.1;exact⟨h.1,O,h.2.2⟩,λb a=>by have h:=o.ql b a;have:=e.1;exact⟨h.1,O,h.2.2⟩,o.qq⟩
theorem wz {P':Rg}(hg:gb<n/\km<n/\fm<n)(hP:∀b,P' b->P b\/n<=b):∀b,Mg P' gb km fm b->Mg P gb km fm b\/n<=b:=by
 rintro b (h|h)
 ·exact(hP b h).imp .inl id
 ·exact .inl (.inr h)
theorem kP.fC (o:kP σ0 U xb L H held s0 P gb km fm x Qa Ql addrs ad ls la){L':dJ}{held':List Pc}{s0':Sp}{P':Rg}(e:Ext (Mg P gb km fm) U w)(p':GP σ0 w L' H' held' s0' P' gb km fm y)(hP:∀b,P' b->P b\/U.size<=b) :
 kP σ0 w xb L' H' held' s0' P' gb km fm y Qa Ql addrs ad ls la:=by
 have D:=e.1;have a:=o.b.lt;obtain⟨s,r,u,z⟩:=o.vz;have i:∀b,b<U.size->¬Mg P gb km fm b->¬Mg P' gb km fm b:=λb C B A=>by
  rcases wz ⟨o.p.b.lt,o.p.m.lt,o.p.f.lt⟩ hP b A with h4|h4
  ·exact B h4
  ·omega
 exact⟨p',e.bT o.b r,aI.bS o.ra e λb _ d j=>(o.qa b d).2.2 j,aI.bS o.rl e λb _ d j=>(o.ql b d).2.2 j,⟨s,i _ a r,u,z⟩,λb g=>by have h:=o.qa b g;exact⟨h.1,O,i b h.2.1 h.2.2⟩,λb g=>by have h:=o.ql b g;exact⟨h.1,O,i b h.2.1 h.2.2⟩,o.qq⟩
theorem Gg {c:Nat}(h:¬Mg P gb km fm c):¬P c/\c≠gb/\c≠km/\c≠fm:=⟨λa=>h (.inl a),λe=>h (.inr (.inl e)),λe=>h (.inr (.inr (.inl e))),λe=>h (.inr (.inr (.inr e)))⟩
theorem xz (p:GP σ0 U L H held s0 P gb km fm x){c:Nat}(h:Mg P gb km fm c):c<U.size:=by
 rcases h with h|rfl|rfl|rfl
 ·exact(p.pP c h).2
 ·exact p.b.lt
 ·exact p.m.lt
 ·exact p.f.lt
theorem kP.cC (o:kP σ0 U xb L H held s0 P gb km fm x Qa Ql addrs ad ls la){s':Sl}{ad':List Int}(e:Ext Qa U w)(hr:bR s' 1 (Wo ad') w λb=>Qa b\/U.size<=b/\b<w.size){K:aP}
 (hK:∀u,Ext (· = xb) w u->kP σ0 u xb L H held s0 P gb km fm x (λb=>Qa b\/U.size<=b/\b<w.size) Ql s' ad' ls la->K u):dS (Addr.add ⟨xb,0,none⟩ 1) (.slice s'.a s'.len s'.cap) w K:=by
 have J:=e.1;have D:=o.b.lt;obtain⟨y,B,r,z⟩:=o.vz;have G:=o.p.out e λb _ d=>by have h:=o.qa b d;have i:=Gg h.2.2;exact⟨i.1,i.2.1,i.2.2.1,i.2.2.2,h.1⟩
 have s:=aI.bS o.rl e λb _ j F=>o.qq b F j;refine(e.bT o.b r).s1 (by simp[uX]) λu A b=>?_;have m:=A.ext;have E:=A.1;have i:=Gg B;refine hK u m ⟨G.out m λb _ (d:b=xb)=>by subst d;exact⟨i.1,i.2.1,i.2.2.1,i.2.2.2,y⟩,b,aI.bS hr m λb _ g (d:b=xb)=>?_,aI.bS s m λb _ g (d:b=xb)=>z (d▸g),⟨y,B,?_,z⟩,λb d=>?_,λb d=>by have h:=o.ql b d;exact⟨h.1,O,h.2.2⟩,λb d j=>?_⟩
 ·subst d;rcases g with g|g
  ·exact r g
  ·omega
 ·rintro(g|g)
  ·exact r g
  ·omega
 ·rcases d with d|d
  ·have h:=o.qa b d;exact⟨h.1,O,h.2.2⟩
  ·have:=o.p.e.1;exact⟨O,O,λC=>by have:=xz o.p C;omega⟩
 ·rcases d with d|d
  ·exact o.qq b d j
  ·have:=(o.ql b j).2.1;omega
theorem kP.gO (o:kP σ0 U xb L H held s0 P gb km fm x Qa Ql addrs ad ls la){s':Sl}{la':List T3}{Ql':Rg}(e:Ext Ql U w)(hr:bR s' 3 (j4 la') w Ql')(hQ:∀b,Ql' b->Ql b\/U.size<=b/\b<w.size){K:aP}
 (hK:∀u,Ext (· = xb) w u->kP σ0 u xb L H held s0 P gb km fm x Qa Ql' addrs ad s' la'->K u):dS (Addr.add ⟨xb,0,none⟩ 2) (.slice s'.a s'.len s'.cap) w K:=by
 have M:=e.1;have E:=o.b.lt;obtain⟨s,C,z,A⟩:=o.vz;have J:=o.p.out e λb _ d=>by have h:=o.ql b d;have g:=Gg h.2.2;exact⟨g.1,g.2.1,g.2.2.1,g.2.2.2,h.1⟩
 have r:=aI.bS o.ra e λb _ G i=>o.qq b G i;refine(e.bT o.b A).s1 (by simp[uX]) λu B b=>?_;have j:=B.ext;have F:=B.1;have g:=Gg C;have y:¬Ql' xb:=λh=>by
  rcases hQ xb h with h|h
  ·exact A h
  ·omega
 refine hK u j ⟨J.out j λb _ (d:b=xb)=>by subst d;exact⟨g.1,g.2.1,g.2.2.1,g.2.2.2,s⟩,b,aI.bS r j λb _ m (d:b=xb)=>z (d▸m),aI.bS hr j λb _ m (d:b=xb)=>y (d▸m),⟨s,C,z,y⟩,λb d=>by have h:=o.qa b d;exact⟨h.1,O,h.2.2⟩,λb d=>?_,λb d i=>?_⟩
 ·rcases hQ b d with d|d
  ·have h:=o.ql b d;exact⟨h.1,O,h.2.2⟩
  ·have:=o.p.e.1;exact⟨O,O,λD=>by have:=xz o.p D;omega⟩
 ·rcases hQ b i with i|i
  ·exact o.qq b d i
  ·have:=(o.qa b d).2.1;omega
theorem wL {s:Sl}{l:List T3}(hs:cW s 3 (j4 l) U F){i:Nat}{r:T3}(hb:l[i]?=some r){K:Addr->Prop}(hK:∀bb o,(∀(j:Nat) v,(v3 r)[j]?=some v->cell U ⟨bb,o+j,none⟩=some v)->K ⟨bb,o,none⟩):Ix s.a s.len (i:Int) 3 K:=by
 have u:=(cV.1 hb).1;have x:s.len=l.length:=by have:=hs.1;rw[VK]at this;omega
 obtain⟨b,o,g,_⟩:=hs.cell (j:=i*3+0) (v:=.int .i64 r.1) ((HA hb O).trans rfl);rw[g];refine ix O O ?_;rw[add_lit];refine hK b _ λj v e=>?_;have p:j<3:=(cV.1 e).1;obtain⟨w,y,d,m⟩:=hs.cell ((HA hb p).trans e);rw[g]at d;cases d;rw[show o+(i:Int).toNat*3+j=o+(i*3+j) by omega];exact m
theorem I9 {S:aP}(hr:bR ls 3 (j4 la) U Q)(hl:la.length<=100000)(k:T3)(hS0:∀u,bK U u->S u){e t:Nat}{K:Sl->Hp->Prop}
 (hK:∀s' w,Ext Q U w->bR s' 3 (j4 (la++[k])) w (λb=>Q b\/U.size<=b/\b<w.size)->S w/\K s' w) :
 Nw (.cells #[.int .i64 k.1,.int .i64 k.2.1,.int .i64 k.2.2] t (0,0)) U λn v=>And (S v)<|App ls 3 24 e [.int .i64 0,.int .i64 0,.int .i64 0] ⟨some n,1,1⟩ v λs' w=>And (S w)<|K s' w:=by
 have m:ls.len=la.length:=by have:=hr.1;rw[VK]at this;omega
 refine nw (cs:=v3 k) λv y e1 a=>⟨hS0 v e1,?_⟩;have d:=aI.bO hr e1;refine d.app (ys:=v3 k) rfl (by simp[v3]) ?_ (by simp[v3,dP]) ?_ ?_ mN λs' h' i p g=>?_
 ·intro j u hu;rw[add_lit,zH,a.cell];exact hu
 ·simp only;omega
 ·simp only;omega
 ·have s:Ext Q U h':=e1.to.trans p;refine hK s' h' s ?_;rw[yS];refine aI.mono (aI.cut g) λb x r=>?_;rcases r.1 with h1|h1
  ·exact .inl h1
  ·exact .inr ⟨O,x⟩
inductive mj (H:Hw) (x:Gu) (d:fP) (a:Int):Hw->Gu->Int->Option Int->Bool->Prop where
 | same (e:Int):(e=0->d.kd≠20/\d.kd≠21/\d.kd≠22)->mj H x d a H x e none false
 | full {H':Hw} {e:Int}:d.kd=20->mT d.a d.b=true->e≠0->V8 H d.th 0 (zA d.b+Zr d.a+16) (zA d.b) 0 H' 0 e->gg H H'->H'.live=H.live->mj H x d a H' x e none false
 | fS {b:B5} {H1:Hw}:d.kd=20->xG H x d.a d.b b H1->V8 H d.th 0 (zA d.b+Zr d.a+16) (zA d.b) 0 H1 b.2.2.1 0->gg H H1->mj H x d a {H1 with sp:=lV H1.sp b} (x.fS b) 0 (some b.1) false
 | rE {b:B5} {H1:Hw} {e:Int}:(d.kd=21\/d.kd=22)->bW x.kn a=some b->mZ H x d.th a true=0->V8 (iB H b) d.th 1 0 0 b.2.2.1 H1 0 e->gg (iB H b) H1->oI (iB H b) d.th b.2.2.1 H1 e->mj H x d a H1 (x.gone a) 0 none true
 | wrote:d.kd=26->sW H x a 0->mj H x d a {H with sp:=ZV H.sp a d.va} x (eR H.sp a) none false
def Ck (d:fP)(add:Option Int)(del:Bool)(a:Int)(la:List T3):List T3:=match add with
 | some b=>la++[(b,d.a,d.b)]
 | none=>if del then la.filter λq=>!(q.1==a)else la
theorem ye {P' Qa' Ql':Rg}(hP:∀b,Mg P' gb km fm b->Mg P gb km fm b\/n<=b)(hA:∀b,Qa' b->Qa b\/n<=b)(hL:∀b,Ql' b->Ql b\/n<=b):∀b,pW P' gb km fm xb Qa' Ql' b->pW P gb km fm xb Qa Ql b\/n<=b:=by
 rintro b (h|h|h|h)
 ·exact(hP b h).imp .inl id
 ·exact .inl (.inr (.inl h))
 ·exact(hA b h).imp (λh=>.inr (.inr (.inl h))) id
 ·exact(hL b h).imp (λh=>.inr (.inr (.inr h))) id
set_option maxRecDepth 16000 in
theorem JW (o:kP σ0 U xb L H held s0 P gb km fm x Qa Ql addrs ad ls la)(gc:Gc σ0)(xi:∀e∈x.kn,e.1=e.2.1/\hO e.2)(x0:0<=x.no/\x.no<=100000)(hsw:(pJ H x).length<=1000000)(hal:ad.length<=100000)(hll:la.length<=100000)(d:fP)(di:lH d){R:aN}
 (hR:∀e w L' H' held' s0' P' x' Qa' Ql' addrs' ls' add del,kP σ0 w xb L' H' held' s0' P' gb km fm x' Qa' Ql' addrs' (ad++add.toList) ls' (Ck d add del (qR ad d) la)->L'.p=L.p->mj H x d (qR ad d) H' x' e add del->Qu H' H->Ext (pW P gb km fm xb Qa Ql) U w/\(∀b,pW P' gb km fm xb Qa' Ql' b->pW P gb km fm xb Qa Ql b\/U.size<=b)->R e w) :
 Xe.c (aW xb) d.kd d.th d.a d.b d.of d.pl d.va d.s U R:=by
 refine Xe.o ?_;unfold Xe.v;have tM:∀{u u':Hp},Ext (Mg P gb km fm) u u'->Ext (pW P gb km fm xb Qa Ql) u u':=λe=>e.sub λb g=>.inl g;have tX:∀{u u':Hp},Ext (· = xb) u u'->Ext (pW P gb km fm xb Qa Ql) u u':=λe=>e.sub λb g=>.inr (.inl g);have tA:∀{u u':Hp},Ext Qa u u'->Ext (pW P gb km fm xb Qa Ql) u u':=λe=>e.sub λb g=>.inr (.inr (.inl g));have tL:∀{u u':Hp},Ext Ql u u'->Ext (pW P gb km fm xb Qa Ql) u u':=λe=>e.sub λb g=>.inr (.inr (.inr g));have hxb:=o.b.lt;have h00:=o.p.e.1;have G:gb<U.size/\km<U.size/\fm<U.size:=⟨o.p.b.lt,o.p.m.lt,o.p.f.lt⟩;refine nw (cs:=qA d) λv hz e g=>aG ((o.fr e).b.rS rfl (g.rI rfl (g.rI rfl (g.rI rfl (g.rI rfl (g.rI rfl (g.rI rfl (g.rI rfl (g.rT rfl ?_)))))))));have o1:=o.fr e;refine O2 (bR.gF o1.ra) d λv1 e1=>?_;have o2:=o1.fr e1;have D:=e.trans e1;have zv:U.size<=v1.size:=D.1;have C:=e1.bT g id;have hat:=LA (ad:=ad) di;generalize hx:qR ad d=ax at hat hR;have hnM:¬Mg P gb km fm U.size:=λN=>by have:=xz o.p N;omega
 have same:∀e w,(e=0->d.kd≠20/\d.kd≠21/\d.kd≠22)->bK v1 w->R e w:=λe w he z=>by
  have oo:=o.fr (D.trans z);refine hR e w L H held s0 P x Qa Ql addrs ls none false ?_ rfl (.same e he) (Qu.refl _) ⟨bK.to (D.trans z),λ_=>.inl⟩;rw[show ad++(none:Option Int).toList=ad by simp];exact oo
 refine C.rI rfl (cO (λhk=>?_) λhk0=>?_)
 ·have B:d.kd=20:=by simpa using hk
  refine⟨λm=>bK v1 m,Ext.refl _ _,aG (gV (c:=.p) (y:=some ⟨gb,0,none⟩) (λm e=>e.bT o2.b id) rfl (gV (c:=bN) (y:=d.th) (λm e=>e.bT C id) rfl (gV (c:=bN) (y:=d.a) (λm e=>e.bT C id) rfl (gV (c:=bN) (y:=d.b) (λm e=>e.bT C id) rfl ?_))))⟩;refine CX o2.p gc x0 d.th d.a d.b (λw hgk z=>?_) (λe w ts H' held' s0' P' hgk A hw op V E X j=>?_) λb w ts H1 held' s0' P' gr hw op E X j=>?_
  ·exact cB aB (same 1 w (λh=>by cases h) z)
  ·refine cB (by simpa using A) ?_;have o3:=o2.fC (E.sub λc hc=>.inl hc) X j;refine hR e w {L with ts:=ts} H' held' s0' P' x Qa Ql addrs ls none false ?_ rfl (.full B hgk A hw op V) op.kp ⟨(bK.to D).trans (tM (E.sub λc hc=>.inl hc)),ye (wz G λb h=>(j b h).imp id λh=>zh zv h) (λ_=>.inl) (λ_=>.inl)⟩;rw[show ad++(none:Option Int).toList=ad by simp];exact o3
  ·refine cE rfl ?_;have o3:=o2.fC E X j;have hb3:=E.bT C hnM;refine aG (o3.b.rS rfl (Cw o3.ra O b.1 λs' u1 e4 hr4=>aG (o3.cC e4 hr4 λu2 e5 o5=>?_)));have Z:bY u2 U.size (qA d):=e5.bT (e4.bT hb3 λhq=>by have:=(o.qa _ hq).2.1;omega) λ(hx:U.size=xb)=>by omega
   refine⟨λm=>bY m xb (uX gb s' ls)/\bY m U.size (qA d),⟨o5.b,Z⟩,aG (gV (c:=.s) (y:=ls) (λm N=>N.1) rfl (gV (c:=bN) (y:=d.a) (λm N=>N.2) rfl (gV (c:=bN) (y:=d.b) (λm N=>N.2) rfl ?_)))⟩;refine I9 o5.rl hll (b.1,d.a,d.b) (λu W=>⟨W.bT o5.b id,W.bT Z id⟩) λs2 u3 e6 hr6=>⟨⟨e6.bT o5.b o5.vz.2.2.2,e6.bT Z λhq=>?_⟩,aG (o5.gO e6 hr6 (λ_ h=>h) λu4 e7 o7=>?_)⟩
   ·have:=(o.ql _ hq).2.1;omega
   have z3:=E.1;have z4:=e4.1;have z5:=e5.1;exact hR 0 u4 _ _ held' s0' P' _ _ _ s' s2 (some b.1) false o7 rfl (.fS B gr hw op) op.kp ⟨((((((bK.to D).trans (tM E)).trans (tA e4)).trans (tX e5)).trans (tL e6)).trans (tX e7)),ye (wz G λb h=>(j b h).imp id λh=>zh zv h) (λb h=>h.imp id λh=>zh (zh zv z3) h.1) (λb h=>h.imp id λh=>zh (zh (zh (zh zv z3) z4) z5) h.1)⟩
 have k0:d.kd≠20:=by simpa using hk0
 have jn:(d.kd=21\/d.kd=22)\/¬(d.kd=21\/d.kd=22):=Decidable.em _;refine wa (λr u=>u=v1/\r=decide (d.kd=21\/d.kd=22)) (λr u ⟨hu,hr⟩=>?_) λJ hJ=>cO (λh=>hJ _ _ ⟨rfl,?_⟩) λh=>hJ _ _ ⟨rfl,?_⟩
 ·rw[hu];rcases jn with B|B
  ·refine cE (by rw[hr];exact zJ B) (aG (o2.b.rP rfl (C.rI rfl (Gr (Gs o2.p gc xi d.th ax true (λw A z=>?_) λb w ts H1 held' s0' P' e N hf hw op fe E X j=>?_)))))
   ·exact cB (by simpa using A) (same _ w (λh=>absurd h A) z)
   ·refine cE rfl ?_;have o3:=o2.fC E X j;have hb3:=E.bT C hnM;have hll3:ls.len=la.length:=by have:=o3.rl.1;rw[VK]at this;omega
    have z3:=E.1;refine Uw (a:=.s) (bb:=bN) (λ(l:Sl) (i:Int) u=>∃k:Nat,i=k/\k<=la.length/\Ext (λb=>w.size<=b) w u/\bR l 3 (j4 ((la.take k).filter λq=>!(q.1==ax))) u (λb=>w.size<=b)) (λ_ i _=>la.length-i.toNat) ⟨0,rfl,O,Ext.refl _ _,⟨rfl,.inl ⟨rfl,rfl⟩⟩⟩ ?_;rintro(l:Sl) (i:Int) u ⟨k,rfl,hk,W,V⟩;have eu0:bK w u:=⟨W.1,λb g _=>W.2 b g O⟩;have ou:=o3.fr eu0;have hlk:l.len<=k:=by
     have h1:((la.take k).filter λq:T3=>!(q.1==ax)).length*3=l.len*3:=by have:=V.1;rw[VK]at this;exact this
     have h2:=rZ (λq:T3=>!(q.1==ax)) (la.take k);rw[zZ,po hk]at h2;omega
    refine aG (ou.b.rS rfl (cQ (λhlt=>?_) λhge=>?_))
    ·have hk':k<la.length:=by simp only at hlt;omega
     have hg:la[k]?=some la[k]:=cU _;generalize la[k]=q at hg;have htk:la.take (k+1)=la.take k++[q]:=by rw[k9,hg];rfl
     refine aG (ou.b.rS rfl (wL (bR.gF ou.rl) hg λbb o' K=>fU (K 0 _ rfl) (cO (λA=>?_) λY=>?_)))
     ·have A:¬q.1=ax:=by simpa using A
      refine aG (ou.b.rS rfl (wL (bR.gF ou.rl) hg λbb o' K=>fU (K 0 _ rfl) (fU (K 1 _ rfl) (fU (K 2 _ rfl) ?_))));have hl1:=V.1;rw[VK]at hl1;refine V.push (F:=λb=>w.size<=b) (vs:=v3 q) (λb g=>by have:=W.1;omega) rfl rfl (by simp[v3,dP]) O O λs' w' hsl' ew' hr'=>?_;refine cP (m:=k+1) O O ⟨⟨k+1,rfl,O,W.trans ew',?_⟩,O⟩;rw[htk,uC,uc (by simpa using A),List.filter_nil,yS];exact hr'
     ·have Y:q.1=ax:=by simpa using Y
      refine cP (m:=k+1) O O ⟨⟨k+1,rfl,O,W,?_⟩,O⟩;rw[htk,uC,uj (by simp[Y]),List.filter_nil,kV];exact V
    ·have hkk:k=la.length:=by simp only at hge;omega
     subst hkk;rw[mS]at V;refine aG (o3.gO (Ql':=λb=>w.size<=b/\b<u.size) eu0.to (aI.mono (aI.cut V) λb _ g=>g) (λb g=>.inr g) λu2 e7 o7=>?_);refine hR 0 u2 {L with ts:=ts} H1 held' s0' P' _ Qa (λb=>w.size<=b/\b<u.size) addrs l none true ?_ rfl (.rE B N hf hw op fe) op.kp ⟨(((bK.to D).trans (tM E)).trans (bK.to eu0)).trans (tX e7),ye (wz G λb h=>(j b h).imp id λh=>zh zv h) (λ_=>.inl) (λb h=>.inr (zh (zh zv z3) h.1))⟩;rw[show ad++(none:Option Int).toList=ad by simp];exact o7
  ·have h3:d.kd≠20/\d.kd≠21/\d.kd≠22:=⟨k0,λh=>B (.inl h),λh=>B (.inr h)⟩;refine cB (by rw[hr];exact zK B) (cO (λ_=>aG (o2.b.rP rfl (Du o2.p xi ax λs w Q z _ _=>same _ w (λ_=>h3) z))) λ_=>?_);refine cO (λ_=>aG (o2.b.rP rfl (Ry o2.p xi hsw λs w z _=>same 0 w (λ_=>h3) z))) λ_=>?_;refine cO (λ_=>aG (o2.b.rP rfl (Ri o2.p xi ax hat.2 (λe w _ z _=>same e w (λ_=>h3) z) λw z _=>same _ w (λ_=>h3) z))) λ_=>?_;refine cO (λh26=>aG (o2.b.rP rfl (C.rI rfl (Ca o2.p gc xi ax d.va hat.2 (λe w _ z _=>same e w (λ_=>h3) z) λw s0' P' wd E X j=>?_)))) λ_=>?_
   ·have o3:=o2.fC (E.sub λc hc=>.inl hc) X j;refine hR _ w L _ held s0' P' x Qa Ql addrs ls none false ?_ rfl (.wrote (by simpa using h26) wd) (Qu.refl _) ⟨(bK.to D).trans (tM (E.sub λc hc=>.inl hc)),ye (wz G λb h=>(j b h).imp id λh=>zh zv h) (λ_=>.inl) (λ_=>.inl)⟩;rw[show ad++(none:Option Int).toList=ad by simp];exact o3
   refine cO (λ_=>aG (o2.b.rP rfl ?_)) λ_=>same 0 v1 (λ_=>h3) (Ext.refl _ _);have S:∀{e w:_} {a b c f:Int},bK v1 w->Nw (.cells #[.int .i64 0,.int .i64 0,.int .i64 0,.int .i64 0] 52 (0,0)) w λM v20=>dS (M.add 0) (.int .i64 a) v20 λv21=>dS (M.add 1) (.int .i64 b) v21 λv22=>dS (M.add 2) (.int .i64 c) v22 λv23=>dS (M.add 3) (.int .i64 f) v23 λv24=>R e v24:=λ{e w a b c f} z=>
    nw (cs:=[.int .i64 0,.int .i64 0,.int .i64 0,.int .i64 0]) λv20 hz20 e20 b20=>b20.s1 aA λv21 o21 b21=>b21.s1 aA λv22 o22 b22=>b22.s1 aA λv23 o23 b23=>b23.s1 aA λv24 o24 b24=>
     same e v24 (λ_=>h3) (z.trans (Ext.fresh e20 (((o21.ext.trans o22.ext).trans o23.ext).trans o24.ext) λi (hi:i=w.size)=>O))
   exact ID o2.p xi ax (λw z _=>S z) λk w z _ _=>S z
 ·rw[h,zJ (Or.inl (by simpa using h))]
 ·have h21:¬d.kd=21:=by simpa using h
  rw[lZ,zT,decide_eq_true_iff];exact⟨.inr,λh=>h.resolve_left h21⟩
end Go.Ar
namespace Go.Ar
open Go Go.Vc Go.Proofs
open Go.Vc (bW dB cS)
open Go.Bu (eX K0 UG)
variable {size align a:Int}{U σ0 v w w':Hp}{F P Q X T:Rg}{L:dJ}{H H' H1:Hw}{held held' held1:List Pc}{s0 s0' s1 sp:Sp}{t n:Nat}{gb km fm m xb:Nat}{x x' y:Gu}{b:B5}{ad:List Int}{la:List T3}{d:fP}{add:Option Int}{del:Bool}{e:Int}{l:Sl}{ds:List fP}
theorem Dx {s c al:Int}{i:Int}(h1:256%al=0)(h2:c%al=0):(s*256+i*c)%al=0:=by
 obtain⟨b,e1⟩:=yp h1;obtain⟨a,e2⟩:=yp h2;refine Int.emod_eq_zero_of_dvd ⟨s*b+i*a,?_⟩;rw[e1,e2,Int.mul_add,Int.mul_left_comm s,Int.mul_left_comm i]
theorem Su (hi1:HI H1 held1 s1)(hp:HI H held s0)(ht:H1.tb=H.tb){al base:Int}(h256:256%al=0)(me:qc H size al H1 base 0):base%al=0:=by
 rcases me with⟨h,_⟩|⟨_,hm,_,cl,hl,hcl⟩
 ·exact absurd rfl h
 have B:(base,((base,(G0 H.tb size al).1,cl,XN H1.bX base):Bk))∈H1.live:=by rw[hl];exact Vg (AZ _)
 obtain⟨_,p,m,_,D,y,_,_⟩:=hi1.lv _ B;obtain⟨A,C,hd⟩:=hi1.wi.hf p m;simp only at D y;rcases hd with⟨q1,_,r,_,q2,_⟩|⟨j,c,q1,q2,_,q3,_⟩
 ·rw[←y,q2];have:((r.1*256:Nat):Int)=(r.1:Int)*256+0*0:=by omega
  rw[this];exact Dx h256 aA
 ·rcases hcl with⟨k,rfl,hk⟩|⟨rfl,_⟩
  ·have u:j=k:=by omega
   subst u;obtain⟨F,d,_,e⟩:=F5 hk;have g:A.tb=H1.tb:=hi1.wi.tb _ A C;rw[g,ht,d]at q2;cases q2;obtain⟨w,G,a,z⟩:=q3;have b:=(hi1.wi.ga _ A C).cD _ _ _ a;have x:w=c:=by
    have:=a.1;rw[g,ht,d]at this;exact(Option.some.inj this).symm
   subst x;obtain⟨_,s,i,_,_,E,_⟩:=(Vu b).1 z;rw[←y,E];have:((at_ w s i:Nat):Int)=(s.st:Int)*256+(i:Int)*(w.size:Int):=by unfold at_;simp
   rw[this];exact Dx h256 e
  ·omega
theorem Pw {al:Int}(h1:1<=al)(h2:al<=256)(hp:eX al=true):256%al=0/\(al<16->16%al=0):=by
 obtain⟨al,rfl⟩:=zc (show 0<=al by omega);rw[K0]at hp;have key:∀a:Nat,a<=256->1<=a->(a &&& (a-1)=0)->256%a=0/\(a<16->16%a=0):=by decide +kernel
 have:=key al O O (by have:=UG (a:=al) O O;rw[hp]at this;simpa using this);exact⟨by rw[show(256:Int)=((256:Nat):Int)from rfl,←Int.natCast_emod,this.1];rfl,λh=>by rw[show(16:Int)=((16:Nat):Int)from rfl,←Int.natCast_emod,this.2 O];rfl⟩
theorem Ot {al:Int}(h1:1<=al)(h2:al<=256)(hp:eX al=true):256%zA al=0/\zA al%al=0:=by
 have:=Pw h1 h2 hp;unfold zA;split
 ·exact⟨by decide,this.2 O⟩
 ·exact⟨this.1,by simp⟩
structure AL (H:Hw) (x:Gu) (ad:List Int) (la:List T3):Prop where
 g:eP H x
 n0:0<=x.no
 nl:(x.kn.length:Int)<=x.no/\(ad.length:Int)<=x.no
 lq:la.map (λa=>(a.1,a.2.1,zA a.2.2))=x.kn.map (λe=>(e.1,e.2.2.1,e.1-e.2.2.2.1))
 ok:∀a∈la,mT a.2.1 a.2.2=true/\a.1%a.2.2=0
 dq:∀a∈ad,(bW x.kn a).isSome=true\/bW x.fr a=some true
 th:1<=H.cf.threads
theorem AL.out (al:AL H x ad la)(hi:HI H held s0)(cf:lu H)(o:mj H x d a H' x' e add del):AL H' x' (ad++add.toList) (Ck d add del a la)/\x'.no<=x.no+1/\∀k∈x.kn,¬(k.1<=a/\a<k.1+Zr k.2.2.1)->Kept H x H' x' k:=by
 have g:=al.g;have F:ad++(none:Option Int).toList=ad:=by simp
 cases o with
 | same e R=>rw[F];exact⟨al,O,λk j _=>⟨j,λ_ _=>rfl⟩⟩
 | full j A r E op hl=>
  rw[F];obtain⟨w,B⟩:=g.same hi op hl;exact⟨⟨w,al.n0,al.nl,al.lq,al.ok,al.dq,by rw[op.kp.2.1];exact al.th⟩,O,λk j _=>B k j⟩
 | fS j gr E op=>
  rename_i b H1;obtain⟨G,s1,C⟩:=op.hi;obtain⟨w,U,X,_,_⟩:=g.fS hi gr op C;have y:=gr.ok;unfold mT at y;rw[zF,zU]at y;obtain⟨⟨_,_,Y,Z⟩,kp⟩:=y;obtain⟨J,Q⟩:=Ot Y Z kp;have P:=Su C hi op.kp.1 J gr.me;have D:(x.fS b).no=x.no+1:=rfl;have M:(x.fS b).fr=x.fr:=rfl;refine⟨⟨w,by have:=al.n0;omega,⟨?_,?_⟩,?_,λq u=>?_,λz p=>?_,by show 1<=H1.cf.threads;rw[op.kp.2.1];exact al.th⟩,O,λk j _=>X k j⟩
  ·rw[U,D,zO];have:=al.nl.1;simp;omega
  ·rw[D,zO];have:=al.nl.2;simp;omega
  ·show(la++[(b.1,d.a,d.b)]).map _=_;rw[U,j9,j9,al.lq]
   congr 1
   simp only[zS,qh,gr.s];have:=gr.a
   congr 3
   omega
  ·rcases zL.1 (show q∈la++[(b.1,d.a,d.b)]from u)with u|u
   ·exact al.ok q u
   ·rw[zN]at u;subst u;refine⟨gr.ok,?_⟩;show b.1%d.b=0;obtain⟨q1,e1⟩:=yp P;obtain⟨W,e2⟩:=yp Q;refine Int.emod_eq_zero_of_dvd ⟨W*q1+W,?_⟩;rw[gr.a,e1,Int.mul_add,←Int.mul_assoc,←e2]
  ·have L:(x.fS b).kn=dB x.kn b.1 b:=rfl;rw[L,M,VY];rcases zL.1 p with p|p
   ·split
    ·exact .inl rfl
    ·exact al.dq z p
   ·simp only[Bq,zN]at p;subst p;rw[zC rfl];exact .inl rfl
 | rE j hm hf E op fe=>
  rename_i b e;rw[F];have N:Ke H d.th=0:=by
   by_cases h:Ke H d.th=0
   ·exact h
   ·unfold mZ at hf;rw[zC h]at hf;exact absurd hf h
  obtain⟨w,B⟩:=g.free hi hm E op fe N cf.2.1;have A:(x.gone a).kn=cS x.kn a:=rfl;have K:(x.gone a).fr=dB x.fr a true:=rfl;refine⟨⟨w,al.n0,⟨?_,al.nl.2⟩,?_,λq u=>al.ok q (zI.1 u).1,λz p=>?_,by rw[op.kp.2.1];exact al.th⟩,by show x.no<=_;omega,λk j r=>B k j λh=>r ?_⟩
  ·rw[A];have h1:=rZ (λq:Int×B5=>!(q.1==a)) x.kn;have h2:=al.nl.1;show((x.kn.filter _).length:Int)<=x.no;omega
  ·show(la.filter λq=>!(q.1==a)).map _=(x.kn.filter λq=>!(q.1==a)).map _;have e1:(la.filter λq=>!(q.1==a)).map (λa=>(a.1,a.2.1,zA a.2.2))=(la.map λa=>(a.1,a.2.1,zA a.2.2)).filter λq=>!(q.1==a):=by rw[vf];rfl
   have e2:(x.kn.filter λq=>!(q.1==a)).map (λe=>(e.1,e.2.2.1,e.1-e.2.2.2.1))=(x.kn.map λe=>(e.1,e.2.2.1,e.1-e.2.2.2.1)).filter λq=>!(q.1==a):=by rw[vf];rfl
   rw[e1,e2,al.lq]
  ·rw[A,K,GW,VY];by_cases h:z=a
   ·rw[zC h,zC h];exact .inr rfl
   ·rw[zB h,zB h];exact al.dq z p
  ·have m:=g.i k j;have hs:=m.2.s;have E:=Z2 (n:=k.2.2.1) O;omega
 | wrote j wd=>
  rw[F];rcases wd with⟨h,_⟩|⟨k,j,hin,h8,_⟩
  ·cases h
  ·have m:=g.i k j;obtain⟨S,V⟩:=hin;have p:a∈Qy k.2:=eP.kI m.2 S V h8;obtain⟨w,B,_⟩:=g.write hi j p (v:=d.va);refine⟨⟨w,al.n0,al.nl,al.lq,al.ok,al.dq,al.th⟩,O,λe R r=>B e R λh=>r ?_⟩;subst h;exact⟨by rw[m.1];exact S,by rw[m.1];exact V⟩
variable {Qa Ql:Rg}{addrs ls:Sl}
theorem kP.sq (o:kP σ0 U xb L H held s0 P gb km fm x Qa Ql addrs ad ls la)(al:AL H x ad la):(la.length:Int)<=x.no:=by
 have:=congrArg List.length al.lq;rw[zl,zl]at this;rw[this];exact al.nl.1
set_option maxRecDepth 8000 in
theorem PS (gl:Gl U)(gc:Gc U)(b b1 b2 b3 b4 b5:Int)(hd:jq U l ds)(most:Int)(hmost:most<=60){R:Option Addr->Hp->Prop}(h0:∀σ',bK U σ'->R none σ')
 (h1:∀σ' xb L H held s0 P gb km fm x Qa Ql addrs ad ls la,kP U σ' xb L H held s0 P gb km fm x Qa Ql addrs ad ls la->AL H x ad la->x.no<=60->R (some ⟨xb,0,none⟩) σ'):XI.c b b1 b2 b3 b4 b5 l most U R:=by
 refine XI.o ?_;unfold XI.v;have hl:=hd.len;have hbig:=hd.xp;refine nw (cs:=[.int .i64 b,.int .i64 b1,.int .i64 b2,.int .i64 b3,.int .i64 b4,.int .i64 b5]) λv hz e A=>A.rI rfl (A.rI rfl (A.rI rfl (A.rI rfl (A.rI rfl (A.rI rfl (WH.o ?_))))));unfold WH.v;refine nw (cs:=[.int .i64 b,.int .i64 b1,.int .i64 b2,.int .i64 b3,.int .i64 b4,.int .i64 b5]) λv1 W e1 M=>M.eZ rfl ?_;have G:=e.trans e1;have B:=e1.bT A id;refine QZ (λr w=>v1=w/\(r=false->b1<=128/\(ds.length:Int)<=most)) (λr w ⟨hw,hr⟩=>?_) λJ hJ=>cQ (λh=>hJ _ _ ⟨rfl,λh=>by cases h⟩) λh=>Rt (hJ _ _ ⟨rfl,λh'=>by have:=wg h';exact⟨O,O⟩⟩);subst hw;refine cO (λht=>h0 v1 G) λhf=>?_;obtain⟨hpg,hlm⟩:=hr hf;refine B.rI rfl (B.rI rfl (B.rI rfl (B.rI rfl (B.rI rfl (B.rI rfl (Xs.o ?_))))));unfold Xs.v;refine nw (cs:=[.int .i64 b,.int .i64 b1,.int .i64 b2,.int .i64 b3,.int .i64 b4,.int .i64 b5]) λv1' hz1' Y s=>?_;have y:=G.trans Y;refine s.rI rfl (s.rI rfl (s.rI rfl (s.rI rfl (s.rI rfl (s.rI rfl ?_)))));refine JD (gl.bO y) (gc.bO y).gd b b1 b2 b3 b4 b5 (λv2 e2=>cE rfl (cE rfl (h0 v2 (y.trans e2)))) λv2 L0 N H0 e2 hsN hNv hh F=>cB rfl ?_;have aa:=y.trans e2;refine F9 aa hh.cut F.hi F.cf (by have:=F.pg;omega) (λb A=>⟨by have:=y.1;have:N<=b:=A.1;omega,A.2⟩) (AN gl gc.gd) λw gb km fm e3 hm p=>bV.intro (cB rfl (cB rfl ?_));refine nw (cs:=uX gb ⟨none,0,0⟩ ⟨none,0,0⟩) λw1 W e4 Q=>cB rfl ?_;have p4:=p.fr e4;have o4:kP U w1 w.size L0 H0 [] (Va H0.cf.aF) _ gb km fm nD (λ_=>False) (λ_=>False) ⟨none,0,0⟩ [] ⟨none,0,0⟩ []:=
  ⟨p4,Q,⟨rfl,.inl ⟨rfl,rfl⟩⟩,⟨rfl,.inl ⟨rfl,rfl⟩⟩,⟨p.e.1,λhM=>by have:=xz p hM;omega,id,id⟩,λb A=>A.elim,λb A=>A.elim,λb A=>A.elim⟩
 have X:AL H0 nD [] []:=⟨⟨by rw[F.live];rfl,λe K=>by simp[nD]at K,λj=>by
  unfold fH;cases hj:H0.bQ[j]? with
  | none=>rfl
  | some g=>exact F.ph g (zG hj),λe K=>by simp[nD]at K,by simp[nD]⟩,by simp[nD],by simp[nD],rfl,λa ha=>by simp at ha,λa ha=>by simp at ha,F.th⟩
 refine ZX (a:=bN) (λ(z:Int) u=>∃(i:Nat) (L:dJ) (H:Hw) (held:List Pc) (s0:Sp) (P:Rg) (x:Gu) (Qa Ql:Rg) (addrs:Sl) (ad:List Int) (ls:Sl) (la:List T3),z=i/\i<=ds.length/\kP U u w.size L H held s0 P gb km fm x Qa Ql addrs ad ls la/\AL H x ad la/\x.no<=i) (λz _=>ds.length-z.toNat)
  ⟨0,L0,H0,_,_,_,nD,_,_,_,[],_,[],rfl,O,o4,X,by simp[nD]⟩ ?_
 rintro(z:Int) u ⟨i,L,H,held,s0,P,x,Qa,Ql,addrs,ad,ls,la,rfl,hi,o,al,hno⟩;refine cQ (λhlt=>?_) λhge=>?_
 ·have hx:ds[i]?=some (ds[i]' O):=cU _;generalize (ds[i]' O)=d at hx;have ab:=hd.i _ (zG hx);refine hd.rd o.p.e hx λba oa D=>fU (D _ o.p.e 0 _ rfl) (fU (D _ o.p.e 1 _ rfl) (fU (D _ o.p.e 2 _ rfl) (fU (D _ o.p.e 3 _ rfl) (fU (D _ o.p.e 4 _ rfl) (fU (D _ o.p.e 5 _ rfl) (fU (D _ o.p.e 6 _ rfl) (yM (D _ o.p.e 7 _ rfl) ?_)))))));have n0:=al.n0;have nl:=al.nl;have hla:=o.sq al;refine JW o gc al.g.i ⟨n0,O⟩ (by rw[al.g.cG o.p.hi];simp) O O d ab λer u2 L' H' E V P' x' Qa' Ql' C S add del o' hLp out kp _=>?_;obtain⟨Z,hno',_⟩:=al.out o.p.hi o.p.cf out;exact cP (m:=i+1) O O ⟨⟨i+1,L',H',E,V,P',x',Qa',Ql',C,_,S,_,rfl,O,o',Z,O⟩,O⟩
 ·exact h1 u w.size L H held s0 P gb km fm x Qa Ql addrs ad ls la o al O
end Go.Ar
namespace Go.Ar
open Go Go.Vc Go.Proofs Go.RowKit Go.Maps Go.Sort Go.Shelf
open Go.Vc (bW dB cS)
open Go.Bu (lY UT VC Hc KR yl)
variable {U σ0 v w w':Hp}{F P Q X T:Rg}{L:dJ}{H H' H1:Hw}{held:List Pc}{s0 sp:Sp}{t n:Nat}{gb km fm m:Nat}{x y:Gu}{b:B5}
def HC:Nat:=Tryz.gZ.f 10
def yJ:Nat:=Tryz.gZ.t 23
theorem Sk (m:Option Nat){R:Fv->Hp->Prop}(hR:R ⟨HC,#[],#[.pointer (some ⟨U.size,0,none⟩)]⟩ (U.push (.cells #[.map m] yJ (0,0)))) :
 Ze.c m U R:=by
 rintro w rfl;refine(callsIn_wide.1 (AnyZI.keys_in Tryz.kY Fence.wide 5 trivial rfl m w)).mono ?_;rintro e a ⟨rfl,rfl⟩;exact⟨⟨rfl,rfl,rfl,rG (by show _<(w.heap.push _).size;simp)⟩,[.func (.func HC) #[] #[.pointer (some ⟨w.heap.size,0,none⟩)]],rfl,⟨HC,#[],#[.pointer (some ⟨w.heap.size,0,none⟩)]⟩,rfl,hR⟩
theorem Pd {w:World}{c m:Nat}{B:List (Int×B5)}(hc:cell w.heap ⟨c,0,none⟩=some (.map (some m)))(hm:dH w.heap m .i64 (.ag 5) B)(hb:∀x∈B,Go.Bu.k6 x.1)(hs:B.length<=1000000)(n:Nat)(hn:1<=n) :
 SeqGives Fence.wide n Tryz.prog HC #[.pointer (some ⟨c,0,none⟩)] encZ (λss=>ss.Perm (B.map (·.1))) B.length w:=by
 obtain⟨D,i,j,b⟩:=KR (P:=Tryz.prog) Tryz.kY.t26 hm hb hs;have a:c<w.heap.size:=by
  unfold cell at hc;split at hc
  ·rename_i h;exact(zt.1 h).1
  ·cases hc
 have:=AnyZI.keys_gives (ρ:=Tryz.gZ) {Tryz.kY with} Fence.wide n trivial rfl hn c m B.length D w a hc i;intro l J W hW hJ hY h0;rw[b]at this;refine(this l J W hW hJ hY h0).mono ?_;rintro e W' ⟨d,ss,g,p⟩;exact⟨d,ss,g.trans j,p⟩
theorem MW {c m:Nat}{B:List (Int×B5)}(hc:cell U ⟨c,0,none⟩=some (.map (some m)))(hm:dH U m .i64 (.ag 5) B)(hb:∀x∈B,Go.Bu.k6 x.1)(hs:B.length<=1000000){R:Sl->Hp->Prop}
 (hR:∀(s:Sl) (σ':Hp) (ss:List Int),bK U σ'->ss.Perm (B.map (·.1))->ss.Pairwise (· <= ·)->lY U.size σ' s (ss.map (Value.int .i64))->R s σ') :
 Vs.c ⟨HC,#[],#[.pointer (some ⟨c,0,none⟩)]⟩ U R:=by
 rintro w rfl;have i:=Pd hc hm hb hs 2 O;have j:B.length<=maxLen:=by unfold maxLen;omega
 have z:=AnyZI.sorted_in Tryz.qD Fence.wide 5 trivial trivial trivial trivial rfl O (yl _) (Tryz.lK.f5.enters rfl) HC #[.pointer (some ⟨c,0,none⟩)] trivial (Tryz.kY.f10.enters rfl) _ _ j O _ i;refine(callsIn_wide.1 z).mono ?_;rintro e D ⟨v,ss,rfl,u,g,r,d⟩;obtain⟨s,rfl,p⟩:=UT g;refine⟨Hc d,[.slice s.a s.len s.cap],rfl,s,rfl,?_⟩;refine hR s _ (ss.mergeSort λx y=>decide (x<=y)) (VC d) ((List.mergeSort_perm _ _).trans u) ?_ p;have:=List.pairwise_mergeSort (le:=λx y:Int=>decide (x<=y)) (λa b c C A=>by simp at *;omega) (λa b=>by simp;omega) ss;exact this.imp (λh=>by simpa using h)
structure vF (x:Gu) (es:List (Int×B5)):Prop where
 p:es.Perm x.kn
 s:es.Pairwise λa b=>a.1<b.1
def b4 (e:Int×B5):Bk:=(e.2.1,e.2.2.1,e.2.2.2.1,e.2.2.2.2.1)
theorem O4 (p:GP σ0 U L H held s0 P gb km fm x)(xi:∀e∈x.kn,e.1=e.2.1/\hO e.2)(hl:x.kn.length<=1000000){R:Sl->Hp->Prop}(hR:∀s σ' es,bK U σ'->vF x es->bR s 4 (jD (es.map b4)) σ' (λb=>U.size<=b)->R s σ'):YI.c (aW gb) U R:=by
 refine YI.o ?_;unfold YI.v;have A:∀e∈x.kn,Go.Bu.k6 e.1:=λe g=>by
  have h:=xi e g;have J:=h.1;have G:=h.2.z;have h3:=h.2.base;have h4:=h.2.t;have h5:=h.2.m;have h6:=h.2.s;have V:=Z2 (n:=e.2.2.1) O;unfold Go.Bu.k6;omega
 have r:=p.m.nodup;refine Vi p (cB rfl (aG (p.b.rM rfl (Sk _ ?_))));have e1:bK U (U.push (.cells #[.map (some km)] yJ (0,0))):=Ext.push _ _ _;have p1:=p.fr e1;refine MW (by unfold cell;simp) p1.m A hl λs u d e2 Q M hs=>?_;have Y:=e1.trans e2;have N:=cW.sY hs;have K:d.Nodup:=Q.nodup_iff.2 r;have S:d.length=x.kn.length:=by rw[Q.length_eq];simp
 have hsl:s.len=d.length:=by have:=N.1;simp at this;omega
 let f:Int->Int×B5:=λk=>(k,(bW x.kn k).getD (0,0,0,0,0))
 have B:∀e∈x.kn,f e.1=e:=λe g=>by
  show(e.1,(bW x.kn e.1).getD (0,0,0,0,0))=e;rw[QA r (show(e.1,e.2)∈x.kn from g)];rfl
 have hz1:U.size<u.size:=by
  have J:=e2.1;have G:(U.push (.cells #[.map (some km)] yJ (0,0))).size=U.size+1:=by simp
  omega
 refine Uw (a:=.s) (bb:=bN) (λ(out:Sl) (z:Int) w=>∃i:Nat,z=i/\i<=d.length/\bK u w/\bR out 4 (jD (((d.take i).map f).map b4)) w (λb=>u.size<=b)) (λ_ z _=>d.length-z.toNat) ⟨0,rfl,O,Ext.refl _ _,⟨by simp[jD],.inl ⟨rfl,rfl⟩⟩⟩ ?_;rintro(out:Sl) (z:Int) w ⟨i,rfl,hil,ew,hr⟩;have V:=p1.fr (e2.trans ew);refine cQ (λhlt=>?_) λhge=>?_
 ·have hx:d[i]?=some (d[i]' O):=cU _;have hol:out.len=i:=by have:=hr.1;rw[BR]at this;simp at this;omega
  have D:(d[i]' O)∈x.kn.map (·.1):=Q.mem_iff.1 (j3 _);obtain⟨e,g,y⟩:=zE.1 D;have Z:f (d[i]' O)=e:=by rw[←y];exact B e g
  refine(aH.bO (aH.cut N) ew).np hx (aG (V.b.rM rfl ⟨x.kn,V.m,?_⟩));have C:bW x.kn (d[i]' O)=some e.2:=by rw[←y];exact QA r (show(e.1,e.2)∈x.kn from g)
  rw[C];refine hr.push (F:=λb=>u.size<=b) (vs:=mf (b4 e)) (λb E=>by have:=ew.1;omega) rfl rfl (by simp[mf,dP]) O O λs' w' hsl' X aa=>?_;have e3:bK u w':=Ext.fresh ew X λb E=>E;refine cP (m:=i+1) O O ⟨⟨i+1,rfl,O,e3,?_⟩,O⟩;have:jD (((d.take (i+1)).map f).map b4)=jD (((d.take i).map f).map b4)++mf (b4 e):=by
   unfold jD;rw[k9,hx,j9,j9,List.flatMap_append];simp only[Bq,zS,qh,oy,List.flatMap_nil,kV,Z]
  rw[this];exact aa
 ·have W:i=d.length:=by omega
  subst W;rw[mS]at hr;have j:(d.map f).Perm x.kn:=by
   have J:=Q.map f;rw[lb]at J;have G:x.kn.map (f∘λe=>e.1)=x.kn:=by
    conv=>rhs;rw[←uQ x.kn]
    exact j2 λe g=>B e g
   rwa [G]at J
  refine hR out w (d.map f) (Y.trans ew) ⟨j,?_⟩ (aI.mono hr λb _ E=>by
   show U.size<=b;have E:u.size<=b:=E;omega)
  rw[r5];exact(M.and K).imp λ{a b} ⟨J,G⟩=>by
   have h3:a≠b:=G;show a<b;omega
end Go.Ar
namespace Go.Proofs
open Go.Vc
set_option maxRecDepth 100000
end Go.Proofs
namespace Go.Ar
open Go Go.Vc Go.Proofs
open Go.Vc (bW dB cS)
variable {U σ0 v w w':Hp}{F P Q X T:Rg}{L:dJ}{H H' H1:Hw}{held:List Pc}{s0 sp:Sp}{t n:Nat}{gb km fm m xb:Nat}{x y:Gu}{b:B5}{l:Sl}{ds:List fP}{ad:List Int}{la:List T3}{Qa Ql:Rg}{addrs ls:Sl}
theorem RB (z:Int)(h0:0<=z)(h1:z<=1000000){R:aN}(hR:R (Zr z) U):YK.c z U R:=by
 refine YK.o ?_;unfold YK.v;refine ar O O (ar O O (nz aB (ar (by rw[XO O];omega) (by rw[XO O];omega) ?_)));rw[XO O];refine ar O O ?_;have:(z+8-1)/8*8=Zr z:=by unfold Zr;omega
 rw[this];exact hR
theorem AV {a b c d:Int}{K:Addr->Hp->Prop}(hK:∀w',bK U w'->bY w' U.size (mf (a,b,c,d))->K ⟨U.size,0,none⟩ w'):Nw (.cells #[.int .i64 0,.int .i64 0,.int .i64 0,.int .i64 0] 52 (0,0)) U λn v20=>dS (n.add 0) (.int .i64 a) v20 λv21=>dS (n.add 1) (.int .i64 b) v21 λv22=>dS (n.add 2) (.int .i64 c) v22 λv23=>dS (n.add 3) (.int .i64 d) v23 λv24=>K n v24:=
 nw (cs:=[.int .i64 0,.int .i64 0,.int .i64 0,.int .i64 0]) λv20 y x g=>g.s1 aA λv21 p s=>s.s1 aA λv22 e u=>u.s1 aA λv23 j m=>m.s1 aA λv24 r w=>
  hK v24 (Ext.fresh x (((p.ext.trans e.ext).trans j.ext).trans r.ext) λi (z:i=U.size)=>O) w
end Go.Ar
namespace Go.Proofs
open Go.Vc
set_option maxRecDepth 100000
def WN.h:Hn:=.q .o2 (.q .o4 (.q (.q .o2 .aJ) (.q .o6 (.q (.q .o8 .aK) (.q (.q .o1 (.k (.loop [(7,.I)] (.q (.q .o4 (.c .l .l)) (.q (.k (.q .o7 (.q (.q .o1 (.k (.loop [(9,.one .b),(10,.I)] (.q (.q .o7 (.c .l .l)) (.q (.k (.cR (.quiet [.op,.op,.cX false 38 [.op,.op,.op,.op,.op,.op,.op,.op,.op,.op,.op,.op,.cX true 11 (RI.ops 11),.op,.cX true 12 (RI.ops 12)],.op]))) .o3))))) (.q (.cR (.held true [] (.tk [0,1,2,3,5,6] (.all [(4,.all [(7,.tk [8,9,10,11,12] (.done))])])))) (.q (.q (.cR (.gL true [] [(138,.one .b)] (.tk [0,1,2] (.split 106 (.tk [3,4,5,6,7,8,9,10,11,12,13,14,15,16,17,18,19,20,21,22,23,24,25,26,27,28,29,30,31,32,33,34] (.done)) (.tk [3,4,5,6] (.split 110 (.tk [7,8,9,10,11,12,13,14,15,16,17,18,19,20,21,22,23,24,25,26,27,28,29,30,31,32,33,34] (.done)) (.tk [7,8,9,10,11,12] (.split 116 (.tk [13,14,15,16,17,18,19,20,21,22,23,24,25,26,27,28,29,30,31,32,33,34] (.done)) (.tk [13,14,15,16,17,18,19,20] (.split 124 (.tk [21,22,23,24,25,26,27,28,29,30,31,32,33,34] (.done)) (.tk [21,22,23,24,25,26,27,28,29,30] (.all [(31,.tk [32,33,34] (.done))])))))))))))) .aK) (.q .o1 (.k (.loop [(13,.I)] (.q (.q .o3 (.c .l .l)) (.q (.k (.q (.cR (.quiet [.op,.op,.op,.op,.op,.op,.op,.op,.op,.op,.op,.op,.cX true 14 (RI.ops 14),.op,.cX false 8 (RI.ops 8)])) .aK)) .o3)))))))))) .o3))))) .aL)))))
def WN.v (a b c d e f:Int)(g:Sl)(h:Hp)(i:aO):Prop:=aV #[.I a,.I b,.I c,.I d,.I e,.I f] 25 h λj k=>aQ j 0 k λl=>aQ j 1 k λm=>aQ j 2 k λn=>aQ j 3 k λo=>aQ j 4 k λp=>aQ j 5 k λq=>XI.c l m n o p q g 60 k λr s=>If r.isNone (Xc.c s λt u=>i t u) (bF r 0 s λw=>YI.c w s λx y=>bE r 2 y λaa=>If (((x.len:Nat):Int) != ((aa.len:Nat):Int)) (i false y) (X9 [bN] (λab=>ab 0 y) λac (ad:Int) ae=>If (ad<((x.len:Nat):Int)) (Ix x.a x.len ad 4 λaf=>aQ af 0 ae λag=>aQ af 1 ae λah=>aQ af 2 ae λai=>aQ af 3 ae λaj=>aV #[.I 0,.I 0,.I 0,.I 0] 52 ae λak al=>aR ak 0 (.I ag) al λam=>aR ak 1 (.I ah) am λan=>aR ak 2 (.I ai) an λao=>aR ak 3 (.I aj) ao λap=>X9 [.b,bN] (λaq=>aq false 0 ap) λar (au:Bool) (av:Int) aw=>bE r 2 aw λay=>If (av<((ay.len:Nat):Int)) (bV (λaz a0=>bL (av+1) λa1=>ar az a1 a0) λa2=>If au (a2 true aw) (bE r 2 aw λa4=>Ix a4.a a4.len av 3 λa5=>aQ a5 0 aw λa6=>aQ ak 0 aw λa7=>bV (λa8 a9=>bV (λba bb=>a2 ba bb) λbc=>If a8 (aQ ak 0 a9 λbd=>bE r 2 a9 λbf=>Ix bf.a bf.len av 3 λbg=>aQ bg 2 a9 λbh=>Nz bh <| bc ((bd.tmod bh)==0) a9) (bc false a9)) λbi=>If (a6==a7) (bE r 2 aw λbk=>Ix bk.a bk.len av 3 λbl=>
 aQ bl 1 aw λbm=>aQ ak 1 aw λbn=>bi (bm==bn) aw) (bi false aw))) (eI aw λbo=>bU r λbp=>aU bo bp 0 λbq=>aS bo ak 2 λbr=>YB.c bq aw λbs bt=>And (bo bt) <| Xf.c bs br bt λbu bv bw=>And (bo bw) <| Jn [.b] (λ(bx:Bool) bz=>If bx (i false bz) (X9 [bN] (λb0=>b0 0 bz) λb1 (b2:Int) b3=>If (b2<ad) (Ix x.a x.len b2 4 λb4=>aQ b4 2 b3 λb5=>aQ ak 2 b3 λb6=>aQ ak 3 b3 λb7=>bL (b6+b7) λb8=>bV (λb9 ca=>bV (λcb cc=>If cb (i false cc) (bL (b2+1) λcd=>b1 cd cc)) λce=>If b9 (ce true ca) (Ix x.a x.len b2 4 λcf=>aQ cf 0 ca λcg=>aQ ak 0 ca λch=>ce (decide (cg≥ch)) ca)) λci=>If (b5<b8) (aQ ak 2 b3 λcj=>Ix x.a x.len b2 4 λck=>aQ ck 2 b3 λcl=>Ix x.a x.len b2 4 λcm=>aQ cm 3 b3 λcn=>bL (cl+cn) λco=>ci (decide (cj<co)) b3) (ci false b3)) (bL (ad+1) λcp=>ac cp b3))) λcq=>eI bw λcr=>If (!au) (cq true bw) (If (bv != 0) (cq true bw) (aS cr ak 3 λcs=>If (bu != cs) (cq true bw) (aS cr ak 0 λct=>aS cr ak 2 λcu=>bL (ct-cu) λcv=>If (cv<16) (cq true bw) (aS cr ak 2 λcw=>aS cr ak 3 λcx=>bL (cw+cx) λcy=>aS cr ak 0 λcz=>bL (cy-cz) λc0=>aS cr ak 1 λc1=>YK.c c1 bw λc2 c3=>And (cr c3) <| bL (c0-c2) λc4=>
 cq (decide (c4<16)) c3)))))) (Xc.c ae λc5 c6=>i c5 c6)))
theorem WN.o {a b c d e f g h i}(j:WN.v a b c d e f g h i):WN.c a b c d e f g h i:=Wa Tryz.func6 (x:=WN.h) (R0 j)
end Go.Proofs