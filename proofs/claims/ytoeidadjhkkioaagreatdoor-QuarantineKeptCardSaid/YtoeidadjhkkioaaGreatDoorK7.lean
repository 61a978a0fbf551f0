/- Texts joined. -/
import Derived.Shelf.SlSortCmp.NoneTotal
import Derived.Ground.SlsfProg
import Derived.Test.YtoeidadjhkkioaaGreatDoorProg
import Derived.Shelf.SlIterI.Nil
import Derived.Ground.GgzProg
import Derived.Test.YtoeidadjhkkioaaGreatDoorK6
set_option linter.unusedVariables false
set_option linter.unusedSimpArgs false
namespace Go.Ar
open Go Go.Vc Go.Proofs
variable {U w:Hp}
def mX:Nat->Int->Int->List T3
 | 0,_,_=>[]
 | n+1,s,w=>if s<512 then lx s w::mX n (s+yq s w) w else[]
def allM (w:Int):List T3:=mX 64 8 w++[lx 512 w]
def qx (l:List T3)(i:Nat):Bool:=i==l.length-1||(match l[i]?,l[i+1]? with
 | some x,some y=>x.2.1 != y.2.1||m6 x != m6 y
 | _,_=>false)
def mn (l:List T3)(n:Nat):List T3:=(List.range n).filterMap λi=>if qx l i then l[i]? else none
def rE (w:Int):List T3:=mn (allM w) (allM w).length
def uq (x:T3):Prop:=8<=x.1/\x.1<=512/\1<=x.2.1/\x.2.1<=4
theorem Ib (s w:Int)(h1:8<=s)(h2:s<=512):uq (lx s w):=⟨h1,h2,RR s w 4⟩
theorem uF {Q:Rg}{s:Sl}{l:List T3}{e1 e2:Nat}(ho:Go.Vc.Own Q U s 3 (lM l))(hQ:∀b,U.size<=b->Q b)(hl:l.length<=1000)(x:T3){K:Sl->Hp->Prop}(hK:∀s' σ',Ext Q U σ'->Go.Vc.Own Q σ' s' 3 (lM (l++[x]))->K s' σ') :
 Nw (.cells #[.int .i64 x.1,.int .i64 x.2.1,.int .i64 x.2.2] e1 (0,0)) U λn20 v3=>App s 3 24 e2 [.int .i64 0,.int .i64 0,.int .i64 0] ⟨some n20,1,1⟩ v3 K:=by
 have d:s.len=l.length:=by have:=ho.1;rw[CU]at this;omega
 refine nw (cs:=v3 x) λv p e a=>?_;refine(ho.bP e).app (ys:=v3 x) (λb a=>hQ b O) rfl rfl ?_ (by simp[v3,dY]) ?_ ?_ nc λs' g _ m i _=>hK s' g ?_ ?_
 .intro j u hu;rw[add_lit,zH,a.cell];exact hu
 .simp only;have:(s.len+1)*24<=1001*24:=mC O O;omega
 .simp only;omega
 .exact(aF.to e).trans (m.sub λb a=>((ho.bP e).jq a).1)
 .rw[τ];exact i
theorem Wjw (w:Int)(h:w<2\/16<w){R:Sl->Int->Hp->Prop}(hR:R ⟨none,0,0⟩ 1 U):Xi.c w U R:=by
 refine Xi.o ?_;unfold Xi.v;exact bX.intro (cN (λa=>cF rfl hR) λa=>cF (zI O) hR)
theorem J9 (w:Int)(hw1:2<=w)(hw2:w<=16){R:Sl->Int->Hp->Prop}(hR:∀s' σ',aF U σ'->iu σ' s' (rE w)->R s' 0 σ'):Xi.c w U R:=by
 refine Xi.o ?_;unfold Xi.v;refine bX.intro (gA O (cD (zL O) ?_));refine UJ (a:=.s) (bb:=bO) (λ(all:Sl) (s:Int) u=>∃(n:Nat) (done:List T3),8<=s/\s<=768/\aF U u/\Go.Vc.Own (λb=>U.size<=b) u all 3 (lM done)/\done++mX n s w=mX 64 8 w/\512<=s+8*(n:Int)/\(∀x∈done,uq x)/\done.length+n=64) (λ_ s _=>1000-s.toNat) ⟨64,[],O,O,Ext.refl _ _,Own.nil _ _ _,rfl,O,by simp,by simp⟩ ?_;rintro(all:Sl) (s:Int) u ⟨n,done,hs1,hs2,eu,ho,hdone,hn,hok,hlen⟩;refine cN (λS=>?_) λV=>?_
 .obtain⟨n,rfl⟩:∃m,n=m+1:=⟨n-1,O⟩;refine EL s w O O hw1 hw2 λv2 e2=>?_;refine uF (ho.bP e2) (λb F=>by have:=eu.1;have:=e2.1;omega) O (lx s w) λall1 v4 e4 h4=>?_;have e04:aF U v4:=Ext.dX (eu.trans e2) e4 λb F=>.inr F;refine Nu s w O O hw1 λd1 d2=>ar O O ⟨⟨n,done++[lx s w],O,O,e04,h4,?_,O,λx C=>?_,by simp;omega⟩,O⟩
  .rw[←hdone,zl]
   congr 1
   conv=>rhs;rw[mX,zC S]
   rfl
  .rcases zJ.1 C with h1|h1
   .exact hok x h1
   .rw[zN]at h1;subst h1;exact Ib s w O O
 .have Q:mX n s w=[]:=by
   cases n with
   | zero=>rfl
   | succ n=>rw[mX,zB V]
  rw[Q,kG]at hdone;refine EL 512 w O O hw1 hw2 λv6 e6=>?_;refine uF (ho.bP e6) (λb F=>by have:=eu.1;have:=e6.1;omega) O (lx 512 w) λg v8 e8 L=>?_;have e08:aF U v8:=Ext.dX (eu.trans e6) e8 λb F=>.inr F;rw[hdone]at L;have p:∀x∈allM w,uq x:=λx C=>by
   rcases zJ.1 C with h1|h1
   .rw[←hdone]at h1;exact hok x h1
   .rw[zN]at h1;subst h1;exact Ib 512 w O O
  have hml:(allM w).length<=65:=by unfold allM;rw[←hdone];simp;omega
  have L:Go.Vc.Own (λb=>U.size<=b) v8 g 3 (lM (allM w)):=L;generalize hall:allM w=l at L p hml;have hmk:rE w=mn l l.length:=by unfold rE;rw[hall]
  have hl2:g.len=l.length:=by have:=L.1;rw[CU]at this;omega
  refine UJ (a:=.s) (bb:=bO) (λ(out:Sl) (z:Int) u=>∃i:Nat,z=(i:Int)/\i<=l.length/\aF v8 u/\Go.Vc.Own (λb=>v8.size<=b) u out 3 (lM (mn l i))/\(mn l i).length<=i) (λ_ z _=>l.length-z.toNat) ⟨0,rfl,O,Ext.refl _ _,Own.nil _ _ _,by simp[mn]⟩ ?_;rintro(out:Sl) (z:Int) u ⟨i,rfl,hi,eu8,hout,hol⟩;refine cN (λS=>?_) λV=>?_
  .have hi':i<l.length:=O
   have C:l[i]?=some l[i]:=cW hi';generalize l[i]=x at C;have D:=p x (zG C);have j:mn l (i+1)=mn l i++(if qx l i then[x]else[]):=by
    unfold mn;rw[qN,xD]
    congr 1
    by_cases hk:qx l i=true
    .simp[hk,C]
    .simp[hk]
   have hA:∀m,aF u m->iu m g l:=λm d=>FH (L.bP (eu8.trans d));refine AY (λr u'=>aF u u'/\r=qx l i) (λr u' ⟨B,hr⟩=>?_) λJ3 J=>?_
   .have M:=hout.bP B;cases hk:qx l i with
    | true=>
     rw[hk]at hr j;refine cF hr (Ax (hA u' B) C ?_);refine uF M (λb F=>by have:=eu8.1;have:=B.1;omega) O x λout1 v12 e12 h12=>?_;refine cT (m:=i+1) O O ⟨⟨i+1,rfl,O,Ext.dX (eu8.trans B) e12 λb F=>.inr F,?_,?_⟩,O⟩
     .rw[j];exact h12
     .rw[j];simp;omega
    | false=>
     rw[hk]at hr j;refine cD hr (cT (m:=i+1) O O ⟨⟨i+1,rfl,O,eu8.trans B,?_,?_⟩,O⟩)
     .rw[j];simpa using M
     .rw[j];simp;omega
   .refine⟨λm=>aF u m,Ext.refl _ _,ar O O ?_⟩;refine cP (λH=>J _ _ ⟨Ext.refl _ _,?_⟩) λhnl=>?_
    .have:i=l.length-1:=by simp only[zU]at H;omega
     unfold qx;rw[this];simp
    .have hi2:i+1<l.length:=by simp only[mV]at hnl;omega
     have hy:l[i+1]?=some l[i+1]:=cW hi2;generalize l[i+1]=y at hy;have E:=p y (zG hy);have N:qx l i=(x.2.1 != y.2.1||m6 x != m6 y):=by
      unfold qx;rw[C,hy];have:(i==l.length-1)=false:=by simp only[mV];omega
      rw[this];rfl
     have X:=λ(m:Hp) (d:aF u m)=>(hA m d).2 i x.1 x.2.1 x.2.2 C;have hcy:=λ(m:Hp) (d:aF u m)=>(hA m d).2 (i+1) y.1 y.2.1 y.2.2 hy;obtain⟨b,o,ha,_,_⟩:=X u (Ext.refl _ _);have rx:∀m,aF u m->cell m ⟨b,o+i*3,none⟩=some (.int .i64 x.1)/\cell m ⟨b,o+i*3+1,none⟩=some (.int .i64 x.2.1)/\cell m ⟨b,o+i*3+2,none⟩=some (.int .i64 x.2.2):=λm d=>by
      obtain⟨b',o',A,_,h⟩:=X m d;rw[ha]at A;cases A;exact h
     have Z:∀m,aF u m->cell m ⟨b,o+(i+1)*3,none⟩=some (.int .i64 y.1)/\cell m ⟨b,o+(i+1)*3+1,none⟩=some (.int .i64 y.2.1)/\cell m ⟨b,o+(i+1)*3+2,none⟩=some (.int .i64 y.2.2):=λm d=>by
      obtain⟨b',o',A,_,h⟩:=hcy m d;rw[ha]at A;cases A;exact h
     have Y:∀{K:Addr->Prop},K ⟨b,o+i*3,none⟩->Ix g.a g.len (i:Int) 3 K:=λhK=>by
      rw[ha];exact ix O O (by rw[add_lit,dH];exact hK)
     have P:∀{K:Addr->Prop},K ⟨b,o+(i+1)*3,none⟩->Ix g.a g.len ((i+1:Nat):Int) 3 K:=λhK=>by
      rw[ha];exact ix O O (by rw[add_lit,dH];exact hK)
     refine Y ⟨x.2.1,λm d=>by rw[add_lit];exact(rx m d).2.1,cT (m:=i+1) O O (P ⟨y.2.1,λm d=>by rw[add_lit];exact(Z m d).2.1,?_⟩)⟩;refine cP (λhp=>J _ _ ⟨Ext.refl _ _,by rw[N,hp];rfl⟩) λhp=>?_;refine Y ⟨x.1,λm d=>by rw[add_lit];exact(rx m d).1,⟨x.2.1,λm d=>by rw[add_lit];exact(rx m d).2.1,⟨x.2.2,λm d=>by rw[add_lit];exact(rx m d).2.2,?_⟩⟩⟩;refine cT (m:=i+1) O O (P ⟨y.1,λm d=>by rw[add_lit];exact(Z m d).1,⟨y.2.1,λm d=>by rw[add_lit];exact(Z m d).2.1,⟨y.2.2,λm d=>by rw[add_lit];exact(Z m d).2.2,?_⟩⟩⟩);refine Fy x D.1 D.2.1 D.2.2.1 D.2.2.2 λv13 G=>⟨G,Fy y E.1 E.2.1 E.2.2.1 E.2.2.2 λv14 W=>⟨G.trans W,J _ _ ⟨G.trans W,by rw[N,hp];rfl⟩⟩⟩
  .have hil:i=l.length:=O
   subst hil;refine hR out u (e08.trans eu8) ?_;rw[hmk];exact FH hout
theorem Gm:∀w:Nat,2<=w->w<=16->QX (rE (w:Int))=true:=by
 have h:((List.range 17).all λw=>decide (w<2)||QX (rE (w:Int)))=true:=by decide +kernel
 intro w h1 h2;have:=kF.1 h w (zg.2 O);simp only[nS,zV]at this;exact this.resolve_left O
end Go.Ar
namespace Go.Proofs
open Go.Shelf
def Tryz.eY:Go.Shelf.Ren:=⟨fun|6=>297|15=>160|14=>323|28=>224|29=>225|20=>344|21=>345|22=>346|23=>347|24=>348|25=>349|26=>350|27=>351|46=>357|47=>276|48=>277|49=>358|50=>359|57=>361|n=>n,fun|22=>141|24=>147|25=>369|3=>3|39=>230|0=>0|53=>311|55=>313|4=>4|46=>304|45=>303|50=>171|5=>5|9=>9|66=>353|70=>357|76=>383|77=>384|n=>n,fun|n=>n⟩
theorem Tryz.pz:Go.Proofs.SlLaysF0.n6 Tryz.prog Tryz.eY:={
 mixed:=by kernel_rfl
 f6:=⟨Tryz.f297.name,by decide,Tryz.func297.trans (congrArg some (by kernel_rfl))⟩
 f14:=⟨Tryz.f323.name,by decide,Tryz.func323.trans (congrArg some (by kernel_rfl))⟩
 f15:=Tryz.func160.trans (congrArg some (by kernel_rfl))
 f20:=⟨Tryz.f344.name,by decide,Tryz.func344.trans (congrArg some (by kernel_rfl))⟩
 f21:=⟨Tryz.f345.name,by decide,Tryz.func345.trans (congrArg some (by kernel_rfl))⟩
 f22:=⟨Tryz.f346.name,by decide,Tryz.func346.trans (congrArg some (by kernel_rfl))⟩
 f23:=⟨Tryz.f347.name,by decide,Tryz.func347.trans (congrArg some (by kernel_rfl))⟩
 f24:=⟨Tryz.f348.name,by decide,Tryz.func348.trans (congrArg some (by kernel_rfl))⟩
 f25:=⟨Tryz.f349.name,by decide,Tryz.func349.trans (congrArg some (by kernel_rfl))⟩
 f26:=⟨Tryz.f350.name,by decide,Tryz.func350.trans (congrArg some (by kernel_rfl))⟩
 f27:=⟨Tryz.f351.name,by decide,Tryz.func351.trans (congrArg some (by kernel_rfl))⟩
 f28:=Tryz.func224.trans (congrArg some (by kernel_rfl))
 f29:=Tryz.func225.trans (congrArg some (by kernel_rfl))
 f46:=⟨Tryz.f357.name,by decide,Tryz.func357.trans (congrArg some (by kernel_rfl))⟩
 f47:=Tryz.func276.trans (congrArg some (by kernel_rfl))
 f48:=Tryz.func277.trans (congrArg some (by kernel_rfl))
 f49:=⟨Tryz.f358.name,by decide,Tryz.func358.trans (congrArg some (by kernel_rfl))⟩
 f50:=⟨Tryz.f359.name,by decide,Tryz.func359.trans (congrArg some (by kernel_rfl))⟩
 f57:=⟨Tryz.f361.name,by decide,Tryz.func361.trans (congrArg some (by kernel_rfl))⟩
 t0:=Tryz.underlying0
 a0:=Tryz.isAgg0
 z0:=Tryz.sizeOf0
 v0:=Tryz.zeroValue0
 t3:=Tryz.underlying3
 a3:=Tryz.isAgg3
 z3:=Tryz.sizeOf3
 v3:=Tryz.zeroValue3
 t4:=Tryz.underlying4
 a4:=Tryz.isAgg4
 z4:=Tryz.sizeOf4
 v4:=Tryz.zeroValue4
 t5:=Tryz.underlying5
 a5:=Tryz.isAgg5
 z5:=Tryz.sizeOf5
 v5:=Tryz.zeroValue5
 t9:=Tryz.underlying9
 a9:=Tryz.isAgg9
 z9:=Tryz.sizeOf9
 v9:=Tryz.zeroValue9
 t22:=Tryz.underlying141
 a22:=Tryz.isAgg141
 z22:=Tryz.sizeOf141
 v22:=Tryz.zeroValue141
 t25:=Tryz.underlying369
 a25:=Tryz.isAgg369
 z25:=Tryz.sizeOf369
 v25:=Tryz.zeroValue369
 t39:=Tryz.underlying230
 a39:=Tryz.isAgg230
 z39:=Tryz.sizeOf230
 v39:=Tryz.zeroValue230
 t45:=Tryz.underlying303
 a45:=Tryz.isAgg303
 z45:=Tryz.sizeOf303
 v45:=Tryz.zeroValue303
 t46:=Tryz.underlying304
 a46:=Tryz.isAgg304
 z46:=Tryz.sizeOf304
 v46:=Tryz.zeroValue304
 t50:=Tryz.underlying171
 a50:=Tryz.isAgg171
 z50:=Tryz.sizeOf171
 v50:=Tryz.zeroValue171
 t53:=Tryz.underlying311
 a53:=Tryz.isAgg311
 z53:=Tryz.sizeOf311
 v53:=Tryz.zeroValue311
 t55:=Tryz.underlying313
 a55:=Tryz.isAgg313
 z55:=Tryz.sizeOf313
 v55:=Tryz.zeroValue313
 t66:=Tryz.underlying353
 a66:=Tryz.isAgg353
 z66:=Tryz.sizeOf353
 v66:=Tryz.zeroValue353
 t70:=Tryz.underlying357
 a70:=Tryz.isAgg357
 z70:=Tryz.sizeOf357
 v70:=Tryz.zeroValue357
 t76:=Tryz.underlying383
 a76:=Tryz.isAgg383
 z76:=Tryz.sizeOf383
 v76:=Tryz.zeroValue383
 t77:=Tryz.underlying384
 a77:=Tryz.isAgg384
 z77:=Tryz.sizeOf384
 v77:=Tryz.zeroValue384}
end Go.Proofs
namespace Go.Ar
open Go Go.Vc Go.Proofs Go.RowKit Go.Sort Go.Shelf Go.Lib
abbrev uf:=Fin 64×Sl
instance:Inhabited uf:=⟨(0,⟨none,0,0⟩)⟩
def kI (x:uf):List Value:=[.int .i64 (x.1.val:Int),.slice x.2.a x.2.len x.2.cap]
def qg (x y:uf):Int:=(x.1.val:Int)-(y.1.val:Int)
theorem Ej (x y:uf)(W:World):Calls Tryz.prog 298 #[.agg #[.int .i64 (x.1.val:Int),.slice x.2.a x.2.len x.2.cap],.agg #[.int .i64 (y.1.val:Int),.slice y.2.a y.2.len y.2.cap]] W λe w'=>e=.returned (.int .i64 (qg x y))/\∃q os',w'=grow (W.drewN q) os':=by
 have d:IntKind.i64.wrap ((x.1.val:Int)-(y.1.val:Int))=qg x y:=by
  have b:=x.1.isLt;have g:=y.1.isLt;unfold qg;exact UA O O
 go_enter Tryz.func298,Tryz.ntmps298
 go_wp2
 go_ret
 exact⟨rfl,0,_,by rw[alloc_eq_grow,alloc_eq_grow,grow_grow];rfl⟩
theorem Ed:SWO (ltOf qg) where
 irrefl x:=by simp[ltOf,qg]
 trans x y z a h2:=by
  have a:=sG a;have h2:=sG h2;unfold qg at a h2;exact zI (by unfold qg;omega)
 ntrans x y z a h2:=by
  have a:=AV a;have h2:=AV h2;unfold qg at a h2;exact zL (by unfold qg;omega)
def tV (x:uf):Nat×Sl:=(x.1.val,x.2)
theorem FX (l:List uf)(j:Nat)(hj:j<l.length*2):(fK (l.map tV))[j]?=some (flatK kI 2 l.toArray)[j]! := by
 rw[get_flatK _ _ _ _ (by simpa using hj)];have hi:j/2<l.length:=O
 have e1:l.toArray[j/2]! = l[j/2]:=by rw[getElem!_pos _ _ (by simpa using hi)];simp
 have a:(l.map tV)[j/2]?=some (tV l[j/2]):=by simp[hi]
 have:=MC a (d:=j%2) O;rw[show 2*(j/2)+j%2=j by omega]at this;rw[this,e1];have hd:j%2=0\/j%2=1:=O
 rcases hd with h|h<;>rw[h]<;>rfl
theorem Co:ot:=by
 intro U F s xs hrow hk hlen R hR;rintro w rfl;have hsl:s.len=xs.length:=by have:=hrow.1;rw[Vp]at this;omega
 rcases hrow.2 with⟨h0,hc0⟩|⟨b,cs,hF,ha,hb,hle,hcl,ht⟩
 .have N:xs=[]:=CZ.1 O;have:=AnyF.slices_SortFunc_none Tryz.pz s.a s.cap (.func (.func 298) #[] #[]) w;show Calls _ _ #[.slice s.a s.len s.cap,.func (.func 298) #[] #[]] w _;rw[h0];refine this.mono ?_;rintro e W ⟨rfl,rfl⟩;subst N;exact⟨.refl _,[],rfl,hR [] _ (.refl _) List.Pairwise.nil (Ext.refl _ _) hrow⟩
 .have G:∀x∈xs,x.1<64:=hk
  let toK:Nat×Sl->uf:=λx=>(Fin.ofNat 64 x.1,x.2)
  have u:(xs.map toK).map tV=xs:=by
   rw[lQ]
   conv=>rhs;rw[←vJ xs]
   apply kh;intro x hx;simp only[Function.comp,toK,tV,Fin.ofNat,id];rw[vI (G x hx)]
  have M:(xs.map toK).length=xs.length:=by simp
  generalize xs.map toK=l at u M;have B:=hb.lt;have V:HoldsK kI 2 w b 0 l.toArray:=by
   intro j hj;simp only[size_flatK,AP]at hj;have Z:Vc.cell w.heap ⟨b,0+j,none⟩=some (flatK kI 2 l.toArray)[j]! := by
    rw[hb.cell,zH,←FX l j hj,u];rw[←ht,zm,zC (by rw[Vp];omega)]
   exact⟨Z,hb.oE⟩
  have Y:∀args w,(callFunc 298 args).run Tryz.prog w=.ok (.enter 298 args) w:=enters_of Tryz.func298 (by kernel_rfl) rfl;have A:∀w,(isAgg (Tryz.eY.t 24)).run Tryz.prog w=.ok true w:=λw=>by
   have h:=Vu (P:=Tryz.prog) (t:=Tryz.eY.t 24) (d:=(Tryz.prog.underlying (Tryz.eY.t 24)).getD .bool) (by kernel_rfl) w
   rwa [show UW ((Tryz.prog.underlying (Tryz.eY.t 24)).getD .bool)=true by kernel_rfl]at h
  have E:∀w,(Go.sizeOf (Tryz.eY.t 24)).run Tryz.prog w=.ok 2 w:=λw=>by
   have h:=Kt (P:=Tryz.prog) (t:=Tryz.eY.t 24) (by kernel_rfl) w
   rwa [show Tryz.prog.cellsOf (Tryz.eY.t 24)=2 by kernel_rfl]at h
  have C:=AnyQ.slices_SortFunc Tryz.pz 2 A E kI (λ_=>rfl) (λx v S=>by simp only[kI,zW,yR,or_false]at S;rcases S with rfl|rfl<;>rfl) qg Ed 298 #[] b 0 s.cap l.toArray w Y (λ_ _ _ _ x y=>Ej x y _) V B (by simp only[AP];omega)
  show Calls _ _ #[.slice s.a s.len s.cap,.func (.func 298) #[] #[]] w _;rw[ha,show s.len=l.toArray.size by simp only[AP];omega];refine C.mono ?_;rintro e W ⟨rfl,d',n,os,Q,J,rfl⟩;have g:d'.size=l.length:=by simpa using Q.1
  have r:d'.toList.Perm l:=by
   have L:=Q.2.2;rw[show l.toArray.size=d'.size by simp[g]]at L;have e1:(d'.extract 0 d'.size)=d':=by simp
   have e2:(l.toArray.extract 0 d'.size)=l.toArray:=by rw[g];simp
   rw[e1,e2]at L;simpa using L
  obtain⟨ty,K⟩:=hb;have m:(sortWorldK kI 2 w b 0 n d' os).heap=(w.heap.modify b (onCells (putCells id 0 (flatK kI 2 d'))))++os:=rfl;have p:(w.heap.modify b (onCells (putCells id 0 (flatK kI 2 d')))).size=w.heap.size:=by simp
  refine⟨⟨rfl,rfl,rfl,by rw[m,Array.size_append,p];omega⟩,[],rfl,?_⟩;rw[m];have z:Ext F w.heap ((w.heap.modify b (onCells (putCells id 0 (flatK kI 2 d'))))++os):=by
   refine⟨by rw[Array.size_append,p];omega,λq hq X=>?_⟩;rw[xq (by rw[p];exact hq),y5,zB λ(e:b=q)=>X (by rw[←e];exact hF)]
  refine hR (d'.toList.map tV) _ ?_ ?_ z ⟨?_,.inr ⟨b,(putCells id 0 (flatK kI 2 d') cs.toArray).toList,hF,ha,⟨ty,?_⟩,hle,?_,?_⟩⟩
  .rw[←u];exact r.map _
  .rw[td];rw[mB];intro i j hi hj hij;have D:=J i j O hij (by simp only[xd]at hj;simp only[AP];omega);rw[getElem!_pos d' i (by simpa using hi),getElem!_pos d' j (by simpa using hj)]at D;have D:=AV D;unfold qg at D;simp only[tV,Array.getElem_toList];omega
  .rw[Vp,zk,xd,g];omega
  .rw[xq (by rw[p];exact B),y5,zC rfl,K];simp[onCells]
  .simp[putCells,hcl]
  .rw[Vp,zk,xd,g];apply zt;intro j;rw[zm];by_cases hj:j<l.length*2
   .rw[zC hj,FX d'.toList j (by simpa[g]using hj)];have H:j<cs.length:=by
     have:l.length*2<=s.cap*2:=mD _ O;omega
    simp only[putCells,Az,Array.getElem?_mapIdx,List.getElem?_toArray,cW H,ze];rw[zC ⟨O,by rw[size_flatK,g];omega⟩];simp
   .rw[zB hj,zX (by rw[Vp,zk,xd,g];omega)]
end Go.Ar
namespace Go.Proofs
open Go.Vc
set_option maxRecDepth 100000
def XK.h:Hn:=.q .o1 (.q .o5 .l)
def XK.v (a:Sl)(b:Int)(c:Hp)(d:aO):Prop:=d (decide (((a.len:Nat):Int)>b)) c
theorem XK.o {a b c d}(e:XK.v a b c d):XK.c a b c d:=Wa Tryz.func14 (x:=XK.h) (R0 e)
def Zi.h:Hn:=.q .o2 (.q (.q (.cU (.seq [.op,.op,.op,.op,.cZ false 3 (RI.ops 3)])) (.c (.q .o3 .l) .l)) (.q (.oq 12) .l))
def Zi.v (a:Sl)(b c d e f g h:Int)(i:ByteArray)(j:Hp)(k:aN):Prop:=aV #[.I b,.I c,.I d,.I e,.I f,.I g,.I h,.string i] 40 j λl m=>aQ l 4 m λn=>bX (λo p=>If o (aQ l 5 p λq=>k q p) (aQ l 4 p λr=>Nz ((a.len:Nat):Int) <| Ix a.a a.len (r.tmod ((a.len:Nat):Int)) 1 λs=>bN s p λt=>aQ l 5 p λu=>bM (t+u) λv=>k v p)) λw=>If (n<0) (w true m) (w (((a.len:Nat):Int)==0) m)
theorem Zi.o {a b c d e f g h i j k}(l:Zi.v a b c d e f g h i j k):Zi.c a b c d e f g h i j k:=Wa Tryz.func25 (x:=Zi.h) (R0 l)
def XP.h:Hn:=.q .o1 (.q .o4 .l)
def XP.v (a:Hp)(b:Option Addr->Hp->Prop):Prop:=WN.c 8 64 1 1 1024 2 a λc d=>b c d
theorem XP.o {a b}(c:XP.v a b):XP.c a b:=Wa Tryz.func39 (x:=XP.h) (R0 c)
def Xb.h:Hn:=.q .o2 (.q .o5 .l)
def Xb.v (a b c d e f:Int)(g:Hp)(h:aO):Prop:=aV #[.I a,.I b,.I c,.I d,.I e,.I f] 25 g λi j=>bN ((i.add 1).add 0) j λk=>h (decide (k>128)) j
theorem Xb.o {a b c d e f g h}(i:Xb.v a b c d e f g h):Xb.c a b c d e f g h:=Wa Tryz.func52 (x:=Xb.h) (R0 i)
def WN.h:Hn:=.q .o2 (.q .o8 (.q .o9 (.q (.q .o2 .aK) .aL)))
def WN.v (a b c d e f:Int)(g:Hp)(h:Option Addr->Hp->Prop):Prop:=aV #[.I a,.I b,.I c,.I d,.I e,.I f] 25 g λi j=>aQ i 0 j λk=>Xi.c k j λl m n=>bN ((i.add 1).add 0) n λo=>bN ((i.add 1).add 1) n λp=>bN ((i.add 1).add 2) n λq=>bN ((i.add 1).add 3) n λr=>bN ((i.add 1).add 4) n λs=>Vi.c l o p q r s n λt u v=>If (u != 0) (h none v) (h t v)
theorem WN.o {a b c d e f g h}(i:WN.v a b c d e f g h):WN.c a b c d e f g h:=Wa Tryz.func53 (x:=WN.h) (R0 i)
end Go.Proofs
namespace Go.Ar
open Go Go.Vc Go.Proofs
variable {U w w':Hp}{F P Q:Rg}{L:dE}{H H':Hw}{held:List Pc}{s0:Sp}{t n:Nat}{g:Th}
structure eZ where
 kd:Int
 th:Int
 a:Int
 b:Int
 of:Int
 pl:Int
 va:Int
 s:ByteArray
def uU (d:eZ):List Value:=[.int .i64 d.kd,.int .i64 d.th,.int .i64 d.a,.int .i64 d.b,.int .i64 d.of,.int .i64 d.pl,.int .i64 d.va,.string d.s]
def jB (x:Int):Prop:=-9223372036854775808<=x/\x<=9223372036854775807
structure kY (d:eZ):Prop where
 a:jB d.a
 b:jB d.b
 pl:jB d.pl
 va:jB d.va
structure jg (U:Hp) (sl:Sl) (ds:List eZ):Prop where
 len:sl.len=ds.length
 at_:∀(i:Nat) (d:eZ),ds[i]?=some d->∃b o,sl.a=some ⟨b,o,none⟩/\b<U.size/\∀(j:Nat) v,(uU d)[j]?=some v->cell U ⟨b,o+i*8+j,none⟩=some v
 i:∀d∈ds,kY d
 ya:ds.length<=9223372036854775807
theorem jg.bP {sl:Sl}{ds:List eZ}(h:jg U sl ds)(e:aF U w):jg w sl ds:=⟨h.len,λi d p=>by
 obtain⟨b,o,r,m,g⟩:=h.at_ i d p;exact⟨b,o,r,by have:=e.1;omega,λj v a=>by rw[KE e m id];exact g j v a⟩,h.i,h.ya⟩
theorem jg.rd {sl:Sl}{ds:List eZ}(h:jg U sl ds)(e:aF U w){i:Nat}{d:eZ}(hx:ds[i]?=some d){K:Addr->Prop}(hK:∀b o,(∀w',aF U w'->∀(j:Nat) v,(uU d)[j]?=some v->cell w' ⟨b,o+j,none⟩=some v)->K ⟨b,o,none⟩):Ix sl.a sl.len (i:Int) 8 K:=by
 obtain⟨b,o,u,r,p⟩:=h.at_ i d hx;have x:=(cY.1 hx).1;have g:=h.len;rw[u];refine ix O O ?_;rw[add_lit,dH];exact hK b _ λw' s j v m=>by rw[KE s r id];exact p j v m
theorem Ci {b o i:Nat}{h:Hp}{x:ByteArray}{K:ByteArray->Prop}(hc:cell h ⟨b,o+i,none⟩=some (.string x))(hK:K x):yk (Addr.add ⟨b,o,none⟩ i) h K:=⟨x,by rw[add_lit];exact hc,hK⟩
theorem _root_.Go.Vc.bY.rT {b o i:Nat}{cs:List Value}(hb:bY U b cs){x:ByteArray}{K:ByteArray->Prop}(hc:cs[o+i]?=some (.string x))(hK:K x):yk (Addr.add ⟨b,o,none⟩ i) U K:=⟨x,by rw[add_lit,hb.cell];exact hc,hK⟩
def sJ (ad:List Int)(d:eZ):Int:=if d.of<0\/ad=[]then d.pl else IntKind.i64.wrap (ad.getD (d.of.toNat%ad.length) 0+d.pl)
theorem N8 {ad:List Int}{d:eZ}(h:kY d):jB (sJ ad d):=by
 unfold sJ;split
 .exact h.pl
 .exact WkO _
theorem RA {addrs:Sl}{ad:List Int}(hs:cV addrs 1 (Wu ad) U F)(d:eZ){R:aN}(hR:∀σ',aF U σ'->R (sJ ad d) σ'):Zi.c addrs d.kd d.th d.a d.b d.of d.pl d.va d.s U R:=by
 refine Zi.o ?_;unfold Zi.v;have A:addrs.len=ad.length:=by have:=hs.1;simp[Wu]at this;omega
 refine nw (cs:=uU d) λv D e j=>j.rI rfl (KC (λr w=>w=v/\r=decide (d.of<0\/ad=[])) (λr w ⟨B,y⟩=>?_) λJ z=>cN (λp=>z _ _ ⟨rfl,by rw[zI (.inl p)]⟩) λp=>z _ _ ⟨rfl,?_⟩)
 .subst B;have g:=hR w e;by_cases hc:d.of<0\/ad=[]
  .refine cF (by rw[y];exact zI hc) (j.rI rfl ?_);unfold sJ at g;rw[zC hc]at g;exact g
  .have i:0<ad.length:=pB.2 λh=>hc (.inr h);refine cD (by rw[y];exact zL hc) (j.rI rfl (nz O ?_));have u:0<=d.of:=O
   have C:d.of.tmod (addrs.len:Int)=((d.of.toNat%ad.length:Nat):Int):=by
    rw[Ki u,A,Int.natCast_emod,Int.toNat_of_nonneg u]
   rw[C];have m:d.of.toNat%ad.length<ad.length:=vz _ i;have x:ad[d.of.toNat%ad.length]?=some ad[d.of.toNat%ad.length]:=cW m;refine(cV.loc _ _ _ |>.bP (aH.cut hs) e).mf x (j.rI rfl (vO ?_));unfold sJ at g;rw[zB hc,zQ,x]at g;exact g
 .rw[A];rw[kZ];simp only[zU,zV];constructor
  .intro h;exact .inr (CZ.1 O)
  .rintro(h|h)
   .exact(p h).elim
   .rw[h];rfl
theorem IN {l:Sl}{most:Int}{R:aO}(hR:R (decide ((l.len:Int)>most)) U):XK.c l most U R:=by
 refine XK.o ?_;unfold XK.v;exact hR
theorem M0 {xs:List (Int×Int×Int)}(h:QX xs=true):(xs.map QG).map mU=xs:=by
 rw[lQ]
 conv=>rhs;rw[←vJ xs]
 apply kh;intro t ht;obtain⟨i,hi⟩:=zP ht;have:=((QT xs).1 h).2.2.1 i t hi;obtain⟨c,_,a,b,d,g⟩:=Bf this;simp only[Function.comp,id];rw[show QG t=c from a];unfold mU;rw[←b,←d,←g]
theorem N5 {xs:List (Int×Int×Int)}(h:QX xs=true):(xs.map QG).length<=40/\∀c∈xs.map QG,c.ok:=by
 refine⟨by have:=((QT xs).1 h).2.1;simpa using this,λc d=>?_⟩;obtain⟨t,g,rfl⟩:=zE.1 d;obtain⟨i,hi⟩:=zP g;have:=((QT xs).1 h).2.2.1 i t hi;obtain⟨c,a,b,_⟩:=Bf this;rw[show QG t=c from b];exact a
structure uQ (H:Hw) (aG:Int):Prop where
 hi:HI H [] (V7 H.cf.aG)
 cf:iQ H
 pg:(H.cf.aG:Int)=aG
 live:H.live=[]
 ph:∀g∈H.bR,g.ph=none
 th:1<=H.cf.threads
theorem FB {xs:List (Int×Int×Int)}{p a t b r:Int}(h:QX xs=true)(hc:tB p a t b r=true):uQ (Ux (xs.map QG) ⟨p.toNat,a.toNat,t.toNat,b.toNat,r.toNat⟩) p:=by
 obtain⟨⟨q1,q2,q3⟩,⟨q4,m⟩,⟨s,u⟩,_⟩:=(ET p a t b r).1 hc;obtain⟨i,d⟩:=N5 h;refine⟨Wom (cf:=⟨p.toNat,a.toNat,t.toNat,b.toNat,r.toNat⟩) aC aC aC aC i d,⟨by simp only[Ux];omega,by simp[Ux],?_⟩,by simp only[Ux];omega,rfl,λg j=>by rw[Da j],by simp only[Ux];omega⟩;show QX ((xs.map QG).map mU)=true;rw[M0 h];exact h
theorem Tl (g:Gl U)(gd:Gd U)(b b1 b2 b3 b4 b5:Int){R:Option Addr->Hp->Prop}(h0:∀σ',aF U σ'->R none σ')
 (h1:∀σ' L N H,aF U σ'->U.size<=N->N<=σ'.size->HH σ' (λb=>N<=b) L H->uQ H b1->R (some ⟨L.p,0,none⟩) σ'):WN.c b b1 b2 b3 b4 b5 U R:=by
 refine WN.o ?_;unfold WN.v;refine nw (cs:=[.int .i64 b,.int .i64 b1,.int .i64 b2,.int .i64 b3,.int .i64 b4,.int .i64 b5]) λv E e j=>j.rI rfl ?_;by_cases hw:2<=b/\b<=16
 .refine J9 b hw.1 hw.2 λs B e1 w=>?_;have d:=e1.bV j id;have a:=e.trans e1;have m:QX (rE b)=true:=by
   have:=Gm b.toNat O O;rw[show((b.toNat:Nat):Int)=b by omega]at this;exact this
  refine d.fE rfl (d.fE rfl (d.fE rfl (d.fE rfl (d.fE rfl ?_))));refine En w (g.bP a) (gd.bP a) b1 b2 b3 b4 b5 (λu=>by rw[m]at u;cases u) (λ_ A r e2=>?_) λ_ A r L e2 D=>?_
  .exact cF rfl (h0 r (a.trans e2))
  .exact cD rfl (h1 r L B.size _ (a.trans e2) a.1 e2.1 D (FB m A))
 .refine Wjw b O (j.fE rfl (j.fE rfl (j.fE rfl (j.fE rfl (j.fE rfl ?_)))));have w:iu v ⟨none,0,0⟩ []:=⟨rfl,λi x y z C=>by simp at C⟩;refine En w (g.bP e) (gd.bP e) b1 b2 b3 b4 b5 (λ_ r e2=>cF rfl (h0 r (e.trans e2))) (λm=>?_) λm=>?_
  .exact absurd m aB
  .exact absurd m aB
def Safe (H:Hw)(d:eZ)(x:Int)(e:Int×Bk):Prop:=(∀j,fG H j≠some (.find e.1))/\¬((d.kd=3\/d.kd=1\/d.kd=6)/\e.1<=x/\x<e.1+e.2.2.1)
structure og (H:Hw) (d:eZ) (x:Int) (H':Hw):Prop where
 hi:∃held s0,HI H' held s0
 kp:QY H' H
 fx:∀e∈H.live,Safe H d x e->e∈H'.live/\(∀w:Nat,e.1<=((8*w:Nat):Int)->((8*w:Nat):Int)<e.1+e.2.2.1->H'.sp.wd w=H.sp.wd w)/\∀j,fG H' j≠some (.find e.1)
theorem og.same (h:HI H held s0)(d:eZ)(x:Int):og H d x H:=⟨⟨_,_,h⟩,QY.refl _,λe a b=>⟨a,λ_ _ _=>rfl,b.1⟩⟩
theorem og.op (h:HI H held s0){d:eZ}{x:Int}(o:fV H H')(hl:∀e∈H.live,Safe H d x e->e∈H'.live):og H d x H':=
 ⟨o.hi,o.kp,λe a b=>⟨hl e a b,h.kl o.ks e a,λj=>by rw[o.ph];exact b.1 j⟩⟩
theorem og.ar {d:eZ}{x:Int}(o:m8 H H'):og H d x H':=
 ⟨o.hi,o.kp,λe a b=>⟨by rw[o.live];exact a,o.kl e a,λj=>by unfold fG;rw[o.bR];exact b.1 j⟩⟩
theorem HI.ny (h:HI H held s0){e:Int×Bk}(he:e∈H.live):8<=e.2.2.1/\0<=e.1/\e.1%8=0/\e.2.2.1%8=0/\e.1+e.2.2.1<=270000:=by
 obtain⟨_,p,g,z,C,D,J,_⟩:=h.lv e he;have G:=h.Bl.size_pos g;have B:=h.Bl.jW g;obtain⟨A,u,hd⟩:=h.Bl.hf p g;have F:p.addr%8=0:=by
  rcases hd with⟨_,_,r,hr,c2,c3⟩|⟨j,c,c1,c2,c3,c4,_⟩
  .omega
  .obtain⟨a,y,b,x⟩:=c4;have:a=c:=Option.some.inj (b.1.symm.trans c2);subst this;have m:=(h.Bl.ga _ A u).cG j a y b;obtain⟨l,s,i,E,hi,e,_⟩:=(Ue m).1 x;have d:=m.ok;unfold cA.ok at d;unfold at_ at e;have w:a.size=8*(a.size/8):=O
   have:i*a.size=8*(i*(a.size/8)):=by rw[Nat.mul_left_comm,←w]
   omega
 omega
theorem og.write (h:HI H held s0){d:eZ}{x:Int}(hd:d.kd=3)(v:Int):og H d x {H with sp:=ZJ H.sp x v}:=by
 refine⟨⟨_,_,h.write x v⟩,⟨rfl,rfl,rfl,rfl⟩,λe a b=>⟨a,λw g i=>?_,b.1⟩⟩;have m:=h.ny a;rw[(BK H.sp x v).2.2,zB];rintro⟨h0,hw⟩;have j:=I8 h0;exact b.2 ⟨.inl hd,O,O⟩
theorem C0 {size align a e:Int}(h:nN H size align H' a e):∀x∈H.live,x∈H'.live:=λx b=>by
 rcases h with⟨_,_,h3⟩|⟨_,h2,_,cl,h3,_⟩
 .rw[h3];exact b
 .rw[h3];exact(HW h2).2 (.inl b)
theorem og.free (h:HI H held s0){d:eZ}{x thread e:Int}(hd:d.kd=1)(o:fV H H')(hf:nG H thread x H' e):og H d x H':=by
 refine og.op h o λm a g=>?_;have j:=h.ny a;rcases hf with⟨_,h2,_⟩|⟨_,_,_,h4⟩|⟨_,b,_,_,h4⟩
 .rw[h2];exact a
 .rw[h4];exact a
 .rw[h4];refine yM.2 ⟨a,λi=>g.2 ⟨.inr (.inl hd),O,O⟩⟩
theorem og.step (h:HI H held s0){d:eZ}{x:Int}(hg:H.bR[t]?=some g){p:Ph}(hp:g.ph=some p):og H d x (Kd H t p):=by
 have G:=(cY.1 hg).1;have s:=h.PX hg hp;have E:fG H t=some p:=by unfold fG;rw[hg];exact hp
 have live:∀e∈H.live,p≠.find e.1->e∈(Kd H t p).live:=λe i A=>by
  by_cases hf:lL p
  .obtain⟨_,_,_,K,m⟩:=sg h hg hp hf;by_cases u:∃y,p=.find y
   .obtain⟨y,rfl⟩:=u;cases hm:bS H.live y with
    | none=>rw[((m y rfl).1 hm).2.2];exact i
    | some b=>
     rw[((m y rfl).2 b hm).2];exact yM.2 ⟨i,λa=>A (by rw[a])⟩
   .rw[(K λy a=>u ⟨y,a⟩).2];exact i
  .obtain⟨cl,J,D⟩:=Cp h hg hp hf;obtain⟨_,r⟩:=r7 h hg hp D;rcases r with⟨_,_,_,e2,_⟩|⟨_,_,_,e4⟩|⟨_,_,e3,e4⟩
   .rw[e2];exact i
   .rw[e4];exact i
   .rw[e4];exact(HW e3).2 (.inl i)
 have B:∀y,(WH H t p).2.1≠some (.find y):=λy a=>by
  by_cases hf:lL p
  .obtain⟨_,_,r,_⟩:=sg h hg hp hf;rcases r with⟨p',w,e1,_,e3,_⟩|e1
   .rw[e1]at a;exact e3 y (Option.some.inj a)
   .rw[e1]at a;cases a
  .obtain⟨cl,J,D⟩:=Cp h hg hp hf;obtain⟨_,r⟩:=r7 h hg hp D;rcases r with⟨p',w,e1,_,_,e4,_⟩|⟨e1,_⟩|⟨e1,_⟩
   .rw[e1]at a;cases a;exact e4.elim
   .rw[e1]at a;cases a
   .rw[e1]at a;cases a
 refine⟨s.hi,Ha H t p,λe i F=>⟨live e i λu=>F.1 t (by rw[E,u]),h.kl s.ks e i,λj=>?_⟩⟩;by_cases hj:j=t
 .subst hj;obtain⟨w,C,z⟩:=Gi (p:=p) G;unfold fG;rw[C];show w.ph≠_;rw[z];exact B _
 .unfold fG;rw[UU p hj];exact F.1 j
end Go.Ar
namespace Go.Ar
open Go Go.Vc Go.Proofs
variable {U w w':Hp}{F P Q X:Rg}{L:dE}{H H':Hw}{held:List Pc}{s0:Sp}{t n:Nat}{g:Th}
structure gg (σ0 U:Hp) (L:dE) (H:Hw) (held:List Pc) (s0:Sp) (P Q:Rg) (addrs:Sl) (ad:List Int):Prop where
 e:aF σ0 U
 h:HH U P L H
 hi:HI H held s0
 cf:iQ H
 pg:H.cf.aG<=128
 pP:∀b,P b->σ0.size<=b/\b<U.size
 pQ:∀b,Q b->σ0.size<=b/\b<U.size/\¬P b
 row:bU addrs 1 (Wu ad) U Q
 al:ad.length<=60
 g0:jh (λb=>σ0.size<=b)/\¬σ0.size<=1
variable {σ0:Hp}{addrs:Sl}{ad:List Int}
theorem gg.step (p:gg σ0 U L H held s0 P Q addrs ad){ts':List eU}(e:Ext P U w)(h':HH w (Grow P U) {L with ts:=ts'} H'){held':List Pc}{s0':Sp}(hi':HI H' held' s0')(k:QY H' H) :
 gg σ0 w {L with ts:=ts'} H' held' s0' (Cut (Grow P U) w) Q addrs ad:=by
 have j:=e.1;refine⟨Ext.dX p.e e λb a=>.inr (p.pP b a).1,h'.cut,hi',p.cf.bT k,by rw[k.2.1];exact p.pg,λb a=>⟨?_,a.2⟩,λb a=>?_,aI.bT p.row e λb _ d i=>(p.pQ b d).2.2 i,p.al,p.g0⟩
 .have:=p.e.1;rcases a.1 with h1|h1
  .exact(p.pP b h1).1
  .omega
 .obtain⟨q1,q2,q3⟩:=p.pQ b a;exact⟨q1,O,λg=>by
   rcases g.1 with h1|h1
   .exact q3 h1
   .omega⟩
theorem gg.fr (p:gg σ0 U L H held s0 P Q addrs ad)(e:aF U w):gg σ0 w L H held s0 P Q addrs ad:=
 ⟨p.e.trans e,p.h.bP e,p.hi,p.cf,p.pg,λb a=>⟨(p.pP b a).1,by have:=(p.pP b a).2;have:=e.1;omega⟩,λb a=>⟨(p.pQ b a).1,by have:=(p.pQ b a).2.1;have:=e.1;omega,(p.pQ b a).2.2⟩,aI.bP p.row e,p.al,p.g0⟩
theorem gg.out (p:gg σ0 U L H held s0 P Q addrs ad){T:Rg}(e:Ext T U w)(hT:∀b,b<U.size->T b->¬P b/\¬Q b/\σ0.size<=b):gg σ0 w L H held s0 P Q addrs ad:=by
 have r:=e.1;have g:Ext (λb=>T b/\b<U.size) U w:=⟨e.1,λb a i=>e.2 b a λd=>i ⟨d,a⟩⟩;refine⟨Ext.dX p.e g λb a=>.inr (hT b a.2 a.1).2.2,p.h.bT g (λb a m d=>(hT b a d.1).1 m) (λb a=>?_) (λa=>?_),p.hi,p.cf,p.pg,λb a=>⟨(p.pP b a).1,by have:=(p.pP b a).2;omega⟩,λb a=>⟨(p.pQ b a).1,by have:=(p.pQ b a).2.1;omega,(p.pQ b a).2.2⟩,aI.bT p.row g λb a j d=>(hT b a d.1).2.1 j,p.al,p.g0⟩
 .exact p.g0.1 b (hT b a.2 a.1).2.2
 .exact p.g0.2 (hT _ a.2 a.1).2.2
theorem xW (hr:bU addrs 1 (Wu ad) U Q)(hl:ad.length<=1000000)(x:Int){e t:Nat}{K:Sl->Hp->Prop}(hK:∀s' w,Ext Q U w->bU s' 1 (Wu (ad++[x])) w (λb=>Q b\/U.size<=b/\b<w.size)->K s' w) :
 Nw (.cells #[.int .i64 x] t (0,0)) U λn v=>App addrs 1 8 e [.int .i64 0] ⟨some n,1,1⟩ v K:=by
 have m:addrs.len=ad.length:=by have:=hr.1;simp[Wu]at this;omega
 refine bU.push (F:=λb=>Q b\/U.size<=b) (vs:=[.int .i64 x]) (aI.mono hr λb _ a=>.inl a) (λb a=>.inr a) rfl rfl (by simp[dY]) O O λs' w i g j=>hK s' w ⟨g.1,λb a p=>g.2 b a λd=>d.elim p λd=>O⟩ ?_;have:Wu (ad++[x])=Wu ad++[.int .i64 x]:=by simp[Wu]
 rw[this];refine aI.mono (aI.cut j) λb a d=>?_;rcases d.1 with h1|h1
 .exact .inl h1
 .exact .inr ⟨h1,a⟩
end Go.Ar
namespace Go.Ar
open Go.Vc (bS cX cO)
def i63 (x:Int):Bool:=decide (x<=9223372036854775807)
def qz (H:Hw)(t:Nat):Ph->Bool
 | .take k=>decide (k<H.tb.length)&&(match KM (H.cls k) ((H.jZ t).li k)with
  | (some y,_)=>i63 y
  | (none,_)=>true)
 | .cJ k _=>decide (k<H.tb.length)&&(QD (H.eL t) (k:Int) != 0 || !(YR (H.eL t) (k:Int)).isEmpty)
 | .cL _ _=>true
 | .grow _ _=>true
 | .fill=>match (H.jZ t).bQ with
  | (k,x::xs)::_=>decide (k<H.tb.length)&&(i63 x&&decide (((H.jZ t).li k).os.length+xs.length<=256))
  | _=>false
 | .eT m=>decide (QC (H.eL t) H.sp (m:Int) 1<=1000000)
 | .find x=>i63 x&&((bS H.live x).isSome&&decide (0<=x))
 | .put k _=>decide (k<H.tb.length) && !(H.jZ t).bQ.isEmpty
 | .back=>match (H.jZ t).bQ with
  | (_,xs)::_=>(xs.all λx=>i63 x&&decide (0<=XS H.bZ x))&&decide (xs.length<=1000000)
  | _=>false
 | .dF _ a=>decide (0<=a)&&(decide (a.toNat<H.bZ.length)&&H.bZ.all λA=>A.runs.all λr=>decide (r.1<=1000000))
 | .drain=>true
theorem Ae {x:Int}(h:i63 x=true):iN x:=by
 unfold i63 at h;unfold iN;exact sG h
theorem Py {H:Hw}{t:Nat}{p:Ph}(h:qz H t p=true):vL H t p:=by
 cases p with
 | take k=>
  simp only[qz,zF,zV]at h;refine⟨h.1,λy l u=>?_⟩;have g:=h.2;rw[u]at g;exact Ae g
 | cJ k w=>
  simp only[qz,zF,zV,nS]at h;refine⟨h.1,λz d=>?_⟩;rw[z,d]at h;simp at h
 | cL k w=>trivial
 | grow k w=>trivial
 | fill=>
  simp only[qz]at h;split at h
  .rename_i k x xs r hh;simp only[zF,zV]at h;exact⟨k,x,xs,r,hh,h.1,Ae h.2.1,h.2.2⟩
  .cases h
 | eT m=>
  simp only[qz,zV]at h;exact h
 | find x=>
  simp only[qz,zF,zV]at h;exact⟨Ae h.1,λj=>by rw[j]at h;simp at h,λb _=>h.2.2⟩
 | put k x=>
  simp only[qz,zF,zV]at h;exact⟨h.1,λd=>by rw[d]at h;simp at h⟩
 | back=>
  simp only[qz]at h;split at h
  .rename_i k xs r hh;simp only[zF,zV,kF]at h;exact⟨k,xs,r,hh,λx i=>⟨Ae (h.1 x i).1,(h.1 x i).2⟩,h.2⟩
  .cases h
 | dF s a=>
  simp only[qz,zF,zV,kF]at h;exact⟨h.1,h.2.1,h.2.2⟩
 | drain=>trivial
def pX:Nat->Hw->Nat->Ph->Option (Hw×Int×Int)
 | 0,_,_,_=>none
 | n+1,H,t,p=>if qz H t p&&decide ((H.jZ t).bQ.length<=900)then(match (WH H t p).2.1 with
  | none=>some (Kd H t p,(WH H t p).2.2.1,(WH H t p).2.2.2)
  | some p'=>pX n (Kd H t p) t p')else none
theorem LR:∀{n:Nat} {H:Hw} {t:Nat} {p:Ph} {r:Hw×Int×Int},pX n H t p=some r->∃m,iJ m H t p r.1 r.2.1 r.2.2
 | 0,_,_,_,_,h=>by simp[pX]at h
 | n+1,H,t,p,r,h=>by
  rw[pX]at h;split at h
  .rename_i hc;simp only[zF,zV]at hc;have hok:wm H t p:=⟨Py hc.1,λg a=>by rw[←tD a];exact hc.2⟩;split at h
   .rename_i hn;cases h;exact⟨1,.done hok hn⟩
   .rename_i p' hs;obtain⟨m,b⟩:=LR h;exact⟨m+1,.next hok hs b⟩
  .cases h
def UN (H:Hw)(thread kind size align addr:Int):Option (Hw×Int×Int):=match Vb H thread kind size align addr with
 | .inl e=>if e=0 then none else some (H,0,e)
 | .inr (t,p)=>pX 40 (fo H t (some p)) t p
theorem FF {H:Hw}{thread kind size align addr:Int}{r:Hw×Int×Int}(h:UN H thread kind size align addr=some r):KO H thread kind size align addr r.1 r.2.1 r.2.2:=by
 unfold UN at h;split at h
 .rename_i e he;split at h
  .cases h
  .rename_i hne;cases h;exact .inl ⟨he,hne,rfl,rfl⟩
 .rename_i t p he;obtain⟨m,a⟩:=LR h;exact .inr ⟨t,p,m,he,a⟩
def JU:List cA:=(rE 8).map QG
def w0:Hw:=Ux JU ⟨64,1,1,1024,2⟩
theorem yh:Ux ((rE 8).map QG) ⟨(64:Int).toNat,(1:Int).toNat,(1:Int).toNat,(1024:Int).toNat,(2:Int).toNat⟩=w0:=rfl
end Go.Ar
namespace Go.Ar
open Go Go.Vc Go.Proofs
variable {U u u':Hp}{F:Rg}{L:dE}{H H':Hw}{N:Nat}
attribute [local irreducible] w0 JU
theorem Tm (g:Gl U)(gd:Gd U){R:Option Addr->Hp->Prop}(hR:∀σ' L N,aF U σ'->U.size<=N->N<=σ'.size->HH σ' (λb=>N<=b) L w0->R (some ⟨L.p,0,none⟩) σ'):XP.c U R:=by
 refine XP.o ?_;unfold XP.v;refine WN.o ?_;unfold WN.v;refine nw (cs:=[.int .i64 8,.int .i64 64,.int .i64 1,.int .i64 1,.int .i64 1024,.int .i64 2]) λv y e m=>m.rI rfl ?_;refine J9 8 aB aB λs u e1 r=>?_;have a:=e1.bV m id;have d:=e.trans e1;refine a.fE rfl (a.fE rfl (a.fE rfl (a.fE rfl (a.fE rfl ?_))));refine En r (g.bP d) (gd.bP d) 64 1 1 1024 2 (λj=>?_) (λ_ x=>?_) λ_ _ w L e2 i=>?_
 .have:=Gm 8 aB aB;rw[show((8:Nat):Int)=8 from rfl]at this;rw[this]at j;cases j
 .exact absurd x aB
 .rw[yh]at i;exact cD rfl (hR w L u.size (d.trans e2) d.1 e2.1 i)
end Go.Ar
namespace Go.Proofs
open Go.Vc
set_option maxRecDepth 100000
def Xa.h:Hn:=.q .o2 (.q (.q .o3 (.c (.q .o3 .l) .l)) (.q .o9 (.q (.q .o2 (.c (.q .o3 .l) .l)) (.q .o4 .l))))
def Xa.v (a:R2)(b:Int)(c:Hp)(d:Int->Int->Int->Int->Int->Hp->Prop):Prop:=aV #[.I 0,.I 0,.I 0,.I 0] 48 c λe f=>W9.c a f λg h=>If (!g) (aR e 0 (.I 0) h λi=>aR e 1 (.I 0) i λj=>aR e 2 (.I 0) j λk=>aR e 3 (.I 0) k λl=>aQ e 0 l λm=>aQ e 1 l λn=>aQ e 2 l λo=>aQ e 3 l λp=>d m n o p 5 l) (Zy.c a b ⟨60,#[],#[]⟩ h λq r s t u v w=>aV #[.I 0,.I 0,.I 0,.I 0,.I 0] 106 w λx y=>aR x 0 (.I q) y λz=>aR x 1 (.I r) z λaa=>aR x 2 (.I s) aa λab=>aR x 3 (.I t) ab λac=>aR x 4 (.I u) ac λad=>If (!v) (aR e 0 (.I 0) ad λae=>aR e 1 (.I 0) ae λaf=>aR e 2 (.I 0) af λag=>aR e 3 (.I 0) ag λah=>aQ e 0 ah λai=>aQ e 1 ah λaj=>aQ e 2 ah λak=>aQ e 3 ah λal=>d ai aj ak al 8 ah) (bN ((x.add 0).add 0) ad λam=>bN ((x.add 0).add 1) ad λan=>bN ((x.add 0).add 2) ad λao=>bN ((x.add 0).add 3) ad λap=>aR e 0 (.I am) ad λaq=>aR e 1 (.I an) aq λar=>aR e 2 (.I ao) ar λau=>aR e 3 (.I ap) au λav=>aQ e 0 av λaw=>aQ e 1 av λax=>aQ e 2 av λay=>aQ e 3 av λaz=>d aw ax ay az 0 av))
theorem Xa.o {a b c d}(e:Xa.v a b c d):Xa.c a b c d:=Wa Tryz.func24 (x:=Xa.h) (R0 e)
def Zg.h:Hn:=.q .o1 (.q (.q .o3 .aK) (.q .o1 (.q (.q .o8 (.k (.loop [(3,.one .s),(16,.I)] (.q .o1 (.q (.c .l .l) (.q (.k (.q .o3 (.o 11))) .o2)))))) .aL)))
def Zg.v (a:R2)(b:Hp)(c:Sl->Hp->Prop):Prop:=W9.c a b λd e=>If (!d) (c ⟨none,0,0⟩ e) (bJ a 1 e λg=>ZG.c g e λh i=>Ub.c h i λj k=>X9 [.s,bO] (λl=>l ⟨none,0,0⟩ 0 k) λm (n:Sl) (o:Int) p=>If (o<((j.len:Nat):Int)) (Ix j.a j.len o 1 λq=>bN q p λr=>bW a λs=>bC s 1 p λt=>Lk .i64 (.ag 5) t r p λu=>aV #[.I ((u.getD (0,0,0,0,0)).1),.I ((u.getD (0,0,0,0,0)).2.1),.I ((u.getD (0,0,0,0,0)).2.2.1),.I ((u.getD (0,0,0,0,0)).2.2.2.1)] 48 p λv w=>App n 4 32 48 [.I 0,.I 0,.I 0,.I 0] ⟨some v,1,1⟩ w λx y=>bM (o+1) λz=>m x z y) (c n p))
theorem Zg.o {a b c}(d:Zg.v a b c):Zg.c a b c:=Wa Tryz.func33 (x:=Zg.h) (R0 d)
def Kf.h:Hn:=.q .o2 (.q (.q .o3 .aJ) (.q .o7 .l))
def Kf.v (a:R2)(b:Hp)(c:Option Addr->Int->Hp->Prop):Prop:=Q8.c a b λd e=>If (!d) (c none 1 e) (Nw (.map #[] 0) e λf g=>Nw (.map #[] 0) g λh i=>aV #[.pointer a,.map (some f.block),.map (some h.block),.I 0] 75 i λj k=>c (some j) 0 k)
theorem Kf.o {a b c}(d:Kf.v a b c):Kf.c a b c:=Wa Tryz.func38 (x:=Kf.h) (R0 d)
def XG.h:Hn:=.q .o1 (.q (.q .o3 .aK) (.q .o5 .l))
def XG.v (a:R2)(b:Hp)(c:Option Addr->Hp->Prop):Prop:=W9.c a b λd e=>If (!d) (c none e) (bG a 0 e λg=>c g e)
theorem XG.o {a b c}(d:XG.v a b c):XG.c a b c:=Wa Tryz.func43 (x:=XG.h) (R0 d)
def Ye.h:TX:=.nx (.o 3) (.nx (.seq (.o 3) (.cond (.seq (.o 2) (.leaf)) (.leaf))) (.nx (.seq (.cU (.seq [.op,.op,.op,.cZ false 2 [.op,.op],.op,.cZ false 2 [.op,.op],.op,.cZ false 2 [.op,.op],.op,.cZ false 5 [.op,.op,.op,.op,.op]])) (.cond (.seq (.o 2) (.leaf)) (.leaf))) (.nx (.o 3) (.nx (.o 5) (.nx (.cU (.held true [] (.take 0 (.take 1 (.take 2 (.take 3 (.take 4 (.take 5 (.take 6 (.take 10 (.all [(7,.take 8 (.take 9 (.all [(11,.take 12 (.take 13 (.take 14 (.take 15 (.take 16 (.done))))))])))]))))))))))) (.nx (.seq (.o 2) (.cond (.seq (.o 3) (.leaf)) (.leaf))) (.nx (.o 8) (.nx (.o 16) (.nx (.o 12) (.r1 (.o 2) bO (.block (.cU (.held true [] (.take 0 (.take 1 (.take 2 (.take 3 (.take 4 (.take 5 (.all [(6,.all [(7,.done)])])))))))))) (.seq (.o 3) (.seq (.cU (.held true [8] (.take 0 (.take 1 (.take 2 (.take 3 (.take 4 (.take 5 (.take 6 (.take 7 (.all [(8,.done)]))))))))))) (.seq (.o 5) (.leaf))))))))))))))
def Ye.v (a:R2)(b c d:Int)(e:Hp)(f:Int->Int->Hp->Prop):Prop:=aV #[.pointer a] 50 e λg h=>fZ g h λi=>W9.c i h λj k=>If (!j) (f 0 5 k) (bX (λl m=>bX (λn o=>bX (λp q=>bX (λr s=>If r (f 0 1 s) (aV #[.I 0,.I 0,.I 0,.I 0,.I 0] 106 s λt u=>aR t 0 (.I 0) u λv=>aR t 1 (.I c) v λw=>aR t 2 (.I 0) w λx=>aR t 3 (.I 0) x λy=>aR t 4 (.I 0) y λz=>dT z λaa=>gF aa .p g λ(ab:R2)=>bW ab λac=>aU aa ac 0 λad=>aS aa t 0 λae=>aS aa t 1 λaf=>aS aa t 2 λag=>aS aa t 3 λah=>aS aa t 4 λai=>XH.c ae af ag ah ai z λaj ak=>And (aa ak) <| bM ((if 16>d then 16 else d)+aj) λal=>bM (al+16) λam=>Yn.c ad b am (if 16>d then 16 else d) ak λan ao ap=>And (aa ap) <| If (ao != 0) (f 0 ao ap) (fZ g ap λaq=>bE aq 3 ap λau=>bM (au+1) λav=>bW aq λaw=>aR aw 3 (.I av) ap λax=>fZ g ax λay=>bE ay 3 ax λa0=>bM (an+(if 16>d then 16 else d)) λa1=>aR t 4 (.I a0) ax λa2=>dG ((t.add 0).add 2) (.I an) a2 λa3=>dG ((t.add 0).add 0) (.I a1) a3 λa4=>fZ g a4 λa5=>bG a5 0 a4 λa7=>XT.c a7 an a4 λa8 a9 ba=>dG ((t.add 0).add 3) (.I a8) ba λbb=>aQ t 0 bb λbc=>aQ t 1 bb λbd=>aQ t 2 bb λbe=>aQ t 3 bb λbf=>aQ t 4 bb λbg=>
 X8.c bc bd be bf bg bb λbh bi=>Cb Tryz.prog (e1 bO) bh bi (λ(bj:Int) bk bl=>dT bl λbm=>gF bm .p g λ(bn:Option Addr)=>bW bn λbo=>aU bm bo 0 λbp=>Z6.c bj bl λbq br=>And (bm br) <| Xy.c bp bj bq br λbs bt=>And (bm bt) <| bk bt) λbu=>fZ g bu λbv=>aQ t 0 bu λbw=>aQ t 1 bu λbx=>aQ t 2 bu λbz=>aQ t 3 bu λb0=>aQ t 4 bu λb1=>Yu.c bv bw bx bz b0 b1 0 bu λb2=>dT b2 λb3=>gF b3 .p g λ(b4:Option Addr)=>bW b4 λb5=>gF b3 .m (b5.add 1) λ(b6:Option Nat)=>gF b3 bO ((t.add 0).add 0) λ(b7:Int)=>aS b3 t 0 λb8=>aS b3 t 1 λb9=>aS b3 t 2 λca=>aS b3 t 3 λcb=>aS b3 t 4 λcc=>kS .i64 (.ag 5) b6 b7 (b8,b9,ca,cb,cc) b2 λcd=>bN ((t.add 0).add 0) cd λce=>vq bi.size cd λcf=>f ce 0 cf))) λcg=>If p (cg true q) (bM (d-1) λch=>cg ((bits .and .i64 d ch) != 0) q)) λci=>If n (ci true o) (ci (decide (d>256)) o)) λcj=>If l (cj true m) (cj (decide (d<1)) m)) λck=>If (c<1) (ck true k) (ck (decide (c>1024)) k))
theorem Ye.o {a b c d e f}(g:Ye.v a b c d e f):Ye.c a b c d e f:=JV Tryz.func56 (x:=Ye.h) (R0 g)
def W9.h:Hn:=.q .o1 (.q (.cU (.seq [.op,.op,.op,.cZ true 5 (RI.ops 5),.op])) .l)
def W9.v (a:R2)(b:Hp)(c:aO):Prop:=bX (λd e=>c d e) λf=>If (!a.isNone) (bG a 0 b λh=>f (!h.isNone) b) (f false b)
theorem W9.o {a b c}(d:W9.v a b c):W9.c a b c:=Wa Tryz.func58 (x:=W9.h) (R0 d)
def Zy.h:Hn:=.q .o2 (.q .o1 (.q .o2 (.q (.q .o5 (.k (.loop [(9,.one .b),(10,.one .b)] (.q (.cU (.seq [.it .i64 (.ag 5),.op])) (.q (.c .l .l) (.k (.q (.cU (.seq [.it .i64 (.ag 5),.op,.op,.op])) (.q (.q (.cU (.gM true [] [(38,.one .b)] (.tk [0,1,2,3,4,5] (.split 28 (.tk [6,7,8,9,10,11,12,13,14,15] (.done)) (.tk [6,7,8,9,10,11] (.all [(12,.tk [13,14,15] (.done))])))))) (.c .l .l)) (.q .o5 (.q (.cU (.seq [.op,.op,.op,.cZ false 5 [.op,.op,.cZ true 2 [.op,.op]],.op,.cZ false 10 [.op,.op,.op,.op,.cZ true 5 (RI.ops 5)]])) (.c .o5 .l))))))))))) (.q .o4 .l))))
def Zy.v (a:R2)(b:Int)(c:Fv)(d:Hp)(e:Int->Int->Int->Int->Int->Bool->Hp->Prop):Prop:=aV #[.I 0,.I 0,.I 0,.I 0,.I 0] 106 d λf g=>aV #[.I 0,.I 0,.I 0,.I 0,.I 0] 106 g λh i=>bJ a 1 i λk=>pF .i64 (.ag 5) k i λl m=>X9 [.b,.b] (λn=>n false false m) λo (p:Bool) (q:Bool) r=>pE .i64 (.ag 5) l r (aQ h 0 r λs=>aQ h 1 r λt=>aQ h 2 r λu=>aQ h 3 r λv=>aQ h 4 r λw=>aR f 0 (.I s) r λx=>aR f 1 (.I t) x λy=>aR f 2 (.I u) y λz=>aR f 3 (.I v) z λaa=>aR f 4 (.I w) aa λab=>aQ f 0 ab λac=>aQ f 1 ab λad=>aQ f 2 ab λae=>aQ f 3 ab λaf=>aQ f 4 ab λag=>e ac ad ae af ag p ab) (λah ai aj=>po .i64 (.ag 5) l aj λak al=>aV #[.I 0,.I 0,.I 0,.I 0,.I 0] 106 aj λam an=>aR am 0 (.I al.1) an λao=>aR am 1 (.I al.2.1) ao λap=>aR am 2 (.I al.2.2.1) ap λaq=>aR am 3 (.I al.2.2.2.1) aq λar=>aR am 4 (.I al.2.2.2.2) ar λau=>Jn [.b] (λ(av:Bool) aw=>If av (o p q aw) (aQ am 0 aw λax=>aQ am 1 aw λay=>aQ am 2 aw λaz=>aQ am 3 aw λa0=>aQ am 4 aw λa1=>XF.c a ax ay az a0 a1 aw λa2 a3=>bX (λa4 a5=>bX (λa6 a7=>If a6 (aQ am 0 a7 λa8=>aQ am 1 a7 λa9=>aQ am 2 a7 λba=>aQ am 3 a7 λbb=>aQ am 4 a7 λbc=>aR h 0 (.I a8) a7 λbd=>
 aR h 1 (.I a9) bd λbe=>aR h 2 (.I ba) be λbf=>aR h 3 (.I bb) bf λbg=>aR h 4 (.I bc) bg λbh=>o true (!a2) bh) (o p q a7)) λbi=>If a4 (bi true a5) (bX (λbj bk=>bi bj bk) λbl=>If ((!a2)==q) (aQ am 4 a5 λbm=>aQ h 4 a5 λbn=>bl (decide (bm>bn)) a5) (bl false a5))) λbo=>If (!p) (bo true a3) (bX (λbp bq=>bo bp bq) λbr=>If (!a2) (br (!q) a3) (br false a3)))) λbs=>dT au λbt=>gF bt bO ((am.add 0).add 0) λ(bu:Int)=>If (b<bu) (bs true au) (gF bt bO ((am.add 0).add 0) λ(bv:Int)=>aS bt am 0 λbw=>aS bt am 1 λbx=>aS bt am 2 λbz=>aS bt am 3 λb0=>aS bt am 4 λb1=>VP Tryz.prog c [.agg #[.I bw,.I bx,.I bz,.I b0,.I b1]] [.I] au λb2 b3=>And (bt b3) <| bM (bv+b2) λb4=>bs (decide (b≥b4)) b3))
theorem Zy.o {a b c d e}(f:Zy.v a b c d e):Zy.c a b c d e:=Wa Tryz.func59 (x:=Zy.h) (R0 f)
def Y4.h:Hn:=.q .o2 (.q .o4 .l)
def Y4.v (a b c d e:Int)(f:Hp)(g:aN):Prop:=aV #[.I a,.I b,.I c,.I d,.I e] 106 f λh i=>bN ((h.add 0).add 1) i λj=>g j i
theorem Y4.o {a b c d e f g}(h:Y4.v a b c d e f g):Y4.c a b c d e f g:=Wa Tryz.func60 (x:=Y4.h) (R0 h)
def Zf.h:Hn:=.q .o1 (.q .o5 .l)
def Zf.v (a:R2)(b c:Int)(d:Hp)(e:aN):Prop:=XU.c a b c true d λf g=>e f g
theorem Zf.o {a b c d e}(f:Zf.v a b c d e):Zf.c a b c d e:=Wa Tryz.func70 (x:=Zf.h) (R0 f)
def X7.h:Hn:=.q .o2 (.q (.q .o3 .aJ) (.q (.o 12) (.q (.q .o2 .aJ) (.q (.q .o3 .aJ) (.q .o5 .l)))))
def X7.v (a:R2)(b:Int)(c:Hp)(d:Sl->Int->Hp->Prop):Prop:=W9.c a c λe f=>If (!e) (d ⟨none,0,0⟩ 5 f) (bJ a 1 f λh=>Lk .i64 (.ag 5) h b f λi=>aV #[.I 0,.I 0,.I 0,.I 0,.I 0] 106 f λj k=>aR j 0 (.I ((i.getD (0,0,0,0,0)).1)) k λl=>aR j 1 (.I ((i.getD (0,0,0,0,0)).2.1)) l λm=>aR j 2 (.I ((i.getD (0,0,0,0,0)).2.2.1)) m λn=>aR j 3 (.I ((i.getD (0,0,0,0,0)).2.2.2.1)) n λo=>aR j 4 (.I ((i.getD (0,0,0,0,0)).2.2.2.2)) o λp=>If (!i.isSome) (d ⟨none,0,0⟩ 8 p) (aQ j 0 p λq=>aQ j 1 p λr=>aQ j 2 p λs=>aQ j 3 p λt=>aQ j 4 p λu=>XF.c a q r s t u p λv w=>If v (d ⟨none,0,0⟩ 5 w) (aQ j 0 w λx=>aQ j 1 w λy=>aQ j 2 w λz=>aQ j 3 w λaa=>aQ j 4 w λab=>XO.c a x y z aa ab w λac ad=>d ac 0 ad)))
theorem X7.o {a b c d}(e:X7.v a b c d):X7.c a b c d:=Wa Tryz.func71 (x:=X7.h) (R0 e)
def Zj.h:Hn:=.q .o2 (.q (.q .o4 (.q .o2 (.c (.q .o3 .l) .l))) (.q .gE .l))
def Zj.v (a:R2)(b:Int)(c:Hp)(d:Int->Int->Hp->Prop):Prop:=Yo.c a b c λe f=>If (e != 0) (d 0 e f) (bG a 0 f λh=>YK.c h b f λi j k=>d i j k)
theorem Zj.o {a b c d}(e:Zj.v a b c d):Zj.c a b c d:=Wa Tryz.func76 (x:=Zj.h) (R0 e)
def Q8.h:Hn:=.q .o1 (.q (.cU (.seq [.op,.op,.op,.cZ true 4 (RI.ops 4),.op])) .l)
def Q8.v (a:R2)(b:Hp)(c:aO):Prop:=bX (λd e=>c d e) λf=>If (!a.isNone) (XY.c a b λg h i j k l=>f (decide (g>0)) l) (f false b)
theorem Q8.o {a b c}(d:Q8.v a b c):Q8.c a b c:=Wa Tryz.func77 (x:=Q8.h) (R0 d)
def YI.h:Hn:=.q .o1 (.q (.q .o4 (.q .o2 .aJ)) (.q .o8 .l))
def YI.v (a:R2)(b c:Int)(d:Hp)(e:aN):Prop:=Yo.c a b d λf g=>If (f != 0) (e f g) (bG a 0 g λi=>Xy.c i b c g λj k=>e j k)
theorem YI.o {a b c d e}(f:YI.v a b c d e):YI.c a b c d e:=Wa Tryz.func78 (x:=YI.h) (R0 f)
def XH.h:Hn:=.q .o2 (.q .o8 .l)
def XH.v (a b c d e:Int)(f:Hp)(g:aN):Prop:=aV #[.I a,.I b,.I c,.I d,.I e] 106 f λh i=>bN ((h.add 0).add 1) i λj=>bM (j+8) λk=>bM (k-1) λl=>Nz 8<|bM (l.tdiv 8) λm=>bM (m*8) λn=>g n i
theorem XH.o {a b c d e f g}(h:XH.v a b c d e f g):XH.c a b c d e f g:=Wa Tryz.func98 (x:=XH.h) (R0 h)
def X8.h:Hn:=.q .o2 .aL
def X8.v (a b c d e:Int)(f:Hp)(g:Fv->Hp->Prop):Prop:=aV #[.I a,.I b,.I c,.I d,.I e] 106 f λh i=>g ⟨156,#[],#[.pointer (some h)]⟩ i
theorem X8.o {a b c d e f g}(h:X8.v a b c d e f g):X8.c a b c d e f g:=Wa Tryz.func100 (x:=X8.h) (R0 h)
def Z6.h:Hn:=.q .o1 (.q .o4 .l)
def Z6.v (a:Int)(b:Hp)(c:aN):Prop:=bM (0-a) λd=>bM (d-1) λe=>c e b
theorem Z6.o {a b c}(d:Z6.v a b c):Z6.c a b c:=Wa Tryz.func101 (x:=Z6.h) (R0 d)
def Yu.h:Hn:=.q .o1 (.q .o1 (.k (.loop [(6,.I)] (.q (.q .o4 (.c .l .l)) (.q (.k (.cU (.tail 10 (RI.ops 10) [.op]))) .o3)))))
def Yu.v (a:R2)(b c d e f g:Int)(h:Hp)(i:aP):Prop:=aV #[.I b,.I c,.I d,.I e,.I f] 106 h λj k=>X9 [bO] (λl=>l 0 k) λm (n:Int) o=>aQ j 0 o λp=>aQ j 1 o λq=>aQ j 2 o λr=>aQ j 3 o λs=>aQ j 4 o λt=>XH.c p q r s t o λu v=>If (n<u) (bG a 0 v λx=>bN ((j.add 0).add 0) v λy=>bM (y+n) λz=>Xy.c x z g v λaa ab=>bM (n+8) λac=>m ac ab) (i v)
theorem Yu.o {a b c d e f g h i}(j:Yu.v a b c d e f g h i):Yu.c a b c d e f g h i:=Wa Tryz.func102 (x:=Yu.h) (R0 j)
def XF.h:Hn:=.q .o2 (.q (.cU (.held true [7] (.tk [0,1,2,3,4,5,6] (.all [(7,.tk [8,9,10,11,12] (.done))])))) (.q (.cU (.seq [.op,.op,.op,.cZ false 5 (RI.ops 5),.op])) .l))
def XF.v (a:R2)(b c d e f:Int)(g:Hp)(h:aO):Prop:=aV #[.I b,.I c,.I d,.I e,.I f] 106 g λi j=>dT j λk=>bW a λl=>aU k l 0 λm=>gF k bO ((i.add 0).add 2) λ(n:Int)=>XT.c m n j λo p q=>bX (λr s=>h r s) λt=>If (p != 0) (t true q) (bN ((i.add 0).add 3) q λu=>t (o != u) q)
theorem XF.o {a b c d e f g h}(i:XF.v a b c d e f g h):XF.c a b c d e f g h:=Wa Tryz.func103 (x:=XF.h) (R0 i)
def Zl.h:Hn:=.q .o1 (.q .o5 .l)
def Zl.v (a:R2)(b c:Int)(d:Hp)(e:aN):Prop:=XU.c a b c false d λf g=>e f g
theorem Zl.o {a b c d e}(f:Zl.v a b c d e):Zl.c a b c d e:=Wa Tryz.func109 (x:=Zl.h) (R0 f)
def XU.h:Hn:=.q .o1 (.q (.q .o3 .aK) (.q (.q .o4 (.q .o2 .aJ)) (.q (.o 12) (.q (.k (.q (.cU (.seq [.op,.op,.op,.cZ true 6 (RI.ops 6),.op])) (.c .aM (.q .o3 (.c .aM (.q .o4 (.c .aM (.q (.cU (.seq [.op,.op,.cZ true 5 (RI.ops 5),.op])) .aK)))))))) (.q .o3 (.q .o6 (.q .o6 (.q (.cU (.tail 8 (RI.ops 8) [.op])) .aM))))))))
def XU.v (a:R2)(b c:Int)(d:Bool)(e:Hp)(f:aN):Prop:=W9.c a e λg h=>If (!g) (f 5 h) (YF.c a b h λi j=>If (i != 0) (f i j) (bJ a 1 j λl=>Lk .i64 (.ag 5) l c j λm=>aV #[.I 0,.I 0,.I 0,.I 0,.I 0] 106 j λn o=>aR n 0 (.I ((m.getD (0,0,0,0,0)).1)) o λp=>aR n 1 (.I ((m.getD (0,0,0,0,0)).2.1)) p λq=>aR n 2 (.I ((m.getD (0,0,0,0,0)).2.2.1)) q λr=>aR n 3 (.I ((m.getD (0,0,0,0,0)).2.2.2.1)) r λs=>aR n 4 (.I ((m.getD (0,0,0,0,0)).2.2.2.2)) s λt=>bX (λu v=>If u (f 9 v) (If (!m.isSome) (f 8 v) (aQ n 0 v λw=>aQ n 1 v λx=>aQ n 2 v λy=>aQ n 3 v λz=>aQ n 4 v λaa=>XF.c a w x y z aa v λab ac=>If ab (f 5 ac) (bX (λad ae=>If ad (f 10 ae) (aQ n 0 ae λaf=>aQ n 1 ae λag=>aQ n 2 ae λah=>aQ n 3 ae λai=>aQ n 4 ae λaj=>Yu.c a af ag ah ai aj (-1234567) ae λak=>bJ a 1 ak λam=>l5 .i64 (.ag 5) am c ak λan=>bJ a 2 an λap=>kS .i64 .b ap c true an λaq=>bG a 0 aq λau=>bN ((n.add 0).add 2) aq λav=>ZR.c au b av aq λaw ax=>f 0 ax)) λay=>If d (aQ n 0 ac λaz=>aQ n 1 ac λa0=>aQ n 2 ac λa1=>aQ n 3 ac λa2=>aQ n 4 ac λa3=>XO.c a az a0 a1 a2 a3 ac λa4 a5=>ay (decide (((a4.len:Nat):Int)>0)) a5) (ay false ac))))) λa6=>If (!m.isSome) (bJ a 2 t λa8=>
 Lk .i64 .b a8 c t λa9=>a6 (a9.getD false) t) (a6 false t)))
theorem XU.o {a b c d e f}(g:XU.v a b c d e f):XU.c a b c d e f:=Wa Tryz.func118 (x:=XU.h) (R0 g)
def XO.h:TX:=.nx (.o 3) (.nx (.o 1) (.r1 (.o 2) bO (.block (.seq (.o 11) (.seq (.cU (.seq [.op,.op,.op,.cZ false 4 [.op,.op,.op,.op]])) (.cond (.o 5) (.leaf))))) (.seq (.o 2) (.leaf))))
def XO.v (a:R2)(b c d e f:Int)(g:Hp)(h:Sl->Hp->Prop):Prop:=aV #[.pointer a] 50 g λi j=>aV #[.I b,.I c,.I d,.I e,.I f] 106 j λk l=>aV #[.slice none 0 0] 31 l λm n=>aQ k 0 n λo=>aQ k 1 n λp=>aQ k 2 n λq=>aQ k 3 n λr=>aQ k 4 n λs=>X8.c o p q r s n λt u=>Cb Tryz.prog (e1 bO) t u (λ(v:Int) w x=>fZ i x λy=>bG y 0 x λaa=>YK.c aa v x λab ac ad=>bX (λae af=>If ae (jF m af λag=>aV #[.I v] 3 af λah ai=>App ag 1 8 3 [.I 0] ⟨some ah,1,1⟩ ai λaj ak=>dG m (.slice aj.a aj.len aj.cap) ak λal=>w al) (w af)) λam=>If (ac != 0) (am true ad) (Z6.c v ad λan ao=>am (ab != an) ao)) λap=>jF m ap λaq=>vq u.size ap λar=>h aq ar
theorem XO.o {a b c d e f g h}(i:XO.v a b c d e f g h):XO.c a b c d e f g h:=JV Tryz.func119 (x:=XO.h) (R0 i)
def Yo.h:Hn:=.q .o1 (.q (.q .o3 .aK) (.q .o9 (.q (.k (.q (.cU (.seq [.op,.op,.op,.cZ false 3 (RI.ops 3),.op])) (.c .aM (.q .o4 .aK)))) .aM)))
def Yo.v (a:R2)(b:Int)(c:Hp)(d:aN):Prop:=W9.c a c λe f=>If (!e) (d 5 f) (Zy.c a b ⟨98,#[],#[]⟩ f λg h i j k l m=>aV #[.I 0,.I 0,.I 0,.I 0,.I 0] 106 m λn o=>aR n 0 (.I g) o λp=>aR n 1 (.I h) p λq=>aR n 2 (.I i) q λr=>aR n 3 (.I j) r λs=>aR n 4 (.I k) s λt=>bX (λu v=>If u (d 7 v) (aQ n 0 v λw=>aQ n 1 v λx=>aQ n 2 v λy=>aQ n 3 v λz=>aQ n 4 v λaa=>XF.c a w x y z aa v λab ac=>If ab (d 5 ac) (d 0 ac))) λad=>If (!l) (ad true t) (Nz 8 <| ad ((b.tmod 8) != 0) t))
theorem Yo.o {a b c d}(e:Yo.v a b c d):Yo.c a b c d:=Wa Tryz.func123 (x:=Yo.h) (R0 e)
def cI.sD (l:Nat)(cap0:Addr)(U:Hp)(R:aP):Prop:=Dg Tryz.prog 156 #[.func (.yield l) #[] #[],.pointer (some cap0)] U R
def cI.yv:Hn:=.seq (.seq (.o 4) (.block (.loop [(3,.one bO)] (.seq (.seq (.o 5) (.cond (.leaf) (.leaf))) (.seq (.block (.seq (.leaf) (.cond (.leaf) (.leaf)))) (.o 3)))))) (.seq (.cU (.held true [] (.tk [0,1,2,3] (.all [(4,.take 5 (.take 6 (.done)))])))) (.block (.loop [(4,.one bO)] (.seq (.seq (.o 10) (.cond (.leaf) (.leaf))) (.seq (.block (.seq (.leaf) (.cond (.leaf) (.leaf)))) (.o 3))))))
def cI.xY (l:Nat)(cap0:Addr)(U:Hp)(R:aP):Prop:=
 gL .i64 ((cap0.add 0).add 2) U λvw=>
 X9 [bO] (λI=>I vw U) λJ (vw1:Int) v=>
 gL .i64 ((cap0.add 0).add 0) v λt11=>
 If (decide (vw1<t11)) (HJ Tryz.prog l [.int .i64 vw1] v λmore v1=>
  If (!more) (R v1)
   (Ar .i64 (vw1+8) λvw2=>
   J vw2 v1))
  (dT v λS=>
  gF S bO ((cap0.add 0).add 0) λ(t21:Int)=>
  gF S bO (cap0.add 0) λ(t22:Int)=>
  gF S bO (cap0.add 1) λ(t221:Int)=>
  gF S bO (cap0.add 2) λ(t222:Int)=>
  gF S bO (cap0.add 3) λ(t223:Int)=>
  gF S bO (cap0.add 4) λ(t224:Int)=>
  XH.c t22 t221 t222 t223 t224 v λt23 v2=>
  And (S v2) <|
  Ar .i64 (t21+t23) λvw3=>
  X9 [bO] (λI1=>I1 vw3 v2) λJ1 (vw4:Int) v3=>
  Ar .i64 (vw4+8) λt26=>
  gL .i64 ((cap0.add 0).add 2) v3 λt29=>
  gL .i64 ((cap0.add 0).add 3) v3 λt32=>
  Ar .i64 (t29+t32) λt33=>
  If (decide (t26<=t33)) (HJ Tryz.prog l [.int .i64 vw4] v3 λmore1 v4=>
   If (!more1) (R v4)
    (Ar .i64 (vw4+8) λvw5=>
    J1 vw5 v4))
   (R v3))
theorem cI.uY {l:Nat}{cap0:Addr}{U:Hp}{R:aP}(hv:cI.xY l cap0 U R):cI.sD l cap0 U R:=
 O7 Tryz.func156 (x:=cI.yv) (args:=[.func (.yield l) #[] #[],.pointer (some cap0)]) (R:=R) (R0 hv)
def YF.h:Hn:=.q .o1 (.q (.q (.cU (.seq [.op,.op,.op,.cZ false 8 (RI.ops 8)])) .aK) (.q (.q .o7 .aK) .aM))
def YF.v (a:R2)(b:Int)(c:Hp)(d:aN):Prop:=bX (λe f=>If e (d 1 f) (bG a 0 f λh=>YX.c h b f λi j=>If (!(i.toList==(ByteArray.mk #[]).toList)) (d 5 j) (d 0 j))) λk=>If (b<0) (k true c) (bG a 0 c λm=>XY.c m c λn o p q r s=>k (decide (b≥p)) s)
theorem YF.o {a b c d}(e:YF.v a b c d):YF.c a b c d:=Wa Tryz.func162 (x:=YF.h) (R0 e)
end Go.Proofs
namespace Go.Ar
open Go Go.Vc Go.Proofs
open Go.Vc (bS cX cO)
variable {U σ0 v w w':Hp}{F P Q X T:Rg}{L:dE}{H H':Hw}{held:List Pc}{s0 sp:Sp}{t n:Nat}{g:Th}{gb km fm m:Nat}
theorem gN {S:aP}{b i:Nat}{cs:List Value}{c:CK}{y:c.T}(hS:∀m,S m->bY m b cs)(hc:cs[i]?=some (c.v y)){K:c.T->Prop}(hK:K y):gF S c (Addr.add ⟨b,0,none⟩ i) K:=
 ⟨y,λm a=>by rw[add_lit,(hS m a).cell,zH];exact hc,hK⟩
theorem rj {S:aP}{b:Nat}{cs:List Value}{c:CK}{y:c.T}(hS:∀m,S m->bY m b cs)(hc:cs[0]?=some (c.v y)){K:c.T->Prop}(hK:K y):gF S c ⟨b,0,none⟩ K:=
 ⟨y,λm a=>by rw[(hS m a).cell];exact hc,hK⟩
theorem qn {S:aP}{b i j:Nat}{cs:List Value}{c:CK}{y:c.T}(hS:∀m,S m->bY m b cs)(hc:cs[i+j]?=some (c.v y)){K:c.T->Prop}(hK:K y):gF S c (Addr.add (Addr.add ⟨b,0,none⟩ i) j) K:=
 ⟨y,λm a=>by rw[add_lit,add_lit,(hS m a).cell,zH];exact hc,hK⟩
abbrev B5:=Int×Int×Int×Int×Int
def fD (b:B5):List Value:=[.int .i64 b.1,.int .i64 b.2.1,.int .i64 b.2.2.1,.int .i64 b.2.2.2.1,.int .i64 b.2.2.2.2]
def ZC (n:Int):Int:=(n+7)/8*8
structure gJ (b:B5):Prop where
 s:1<=b.2.1/\b.2.1<=1024
 base:0<=b.2.2.1/\b.2.2.1%8=0
 z:16<=b.1-b.2.2.1/\b.1-b.2.2.1<=256/\b.1%8=0
 t:b.1+ZC b.2.1+16<=b.2.2.1+b.2.2.2.1/\b.2.2.2.1%8=0
 m:b.2.2.1+b.2.2.2.1<=270000
theorem YA {n:Int}(h:0<=n):n<=ZC n/\ZC n<=n+7/\ZC n%8=0:=by unfold ZC;omega
structure Gu where
 kn:List (Int×B5)
 fr:List (Int×Bool)
 no:Int
def pn:Gu:=⟨[],[],0⟩
def VL (b:B5):Nat:=(b.1-b.2.2.1).toNat/8
def oz (b:B5):Nat:=(b.2.2.1+b.2.2.2.1-b.1-ZC b.2.1).toNat/8
def Zk (b:B5):List Int:=((List.range (VL b)).map λ(i:Nat)=>b.2.2.1+8*(i:Int))++(List.range (oz b)).map λ(i:Nat)=>b.1+ZC b.2.1+8*(i:Int)
theorem G0 (b:B5):(Zk b).length=VL b+oz b:=by unfold Zk;simp
theorem Te {b:B5}{i:Nat}(h:i<VL b):(Zk b)[i]?=some (b.2.2.1+8*(i:Int)):=by
 unfold Zk;rw[zd (by simpa using h)];simp[h]
theorem SD {b:B5}{i:Nat}(h:i<oz b):(Zk b)[VL b+i]?=some (b.1+ZC b.2.1+8*(i:Int)):=by
 unfold Zk;rw[zp aA];simp[h]
theorem Gh {b:B5}(bi:gJ b){z:Int}(hz:z∈Zk b):b.2.2.1<=z/\z%8=0/\z+8<=b.2.2.1+b.2.2.2.1/\(z+8<=b.1\/b.1+ZC b.2.1<=z):=by
 obtain⟨s,⟨a,d⟩,⟨j,r,u⟩,⟨t,p⟩,m⟩:=bi;have g:=YA (n:=b.2.1) O;unfold Zk at hz;rcases zJ.1 hz with h|h
 .obtain⟨i,hi,rfl⟩:=zE.1 h;have:=zg.1 hi;unfold VL at this;exact⟨O,O,O,.inl O⟩
 .obtain⟨i,hi,rfl⟩:=zE.1 h;have:=zg.1 hi;unfold oz at this;exact⟨O,O,O,.inr O⟩
def jA (z:Int):Int:=-z-1
def sU (hp km fm:Nat)(x:Gu):List Value:=[.pointer (some ⟨hp,0,none⟩),.map (some km),.map (some fm),.int .i64 x.no]
structure GP (σ0 U:Hp) (L:dE) (H:Hw) (held:List Pc) (s0:Sp) (P:Rg) (gb km fm:Nat) (x:Gu):Prop where
 e:aF σ0 U
 h:HH U P L H
 hi:HI H held s0
 cf:iQ H
 pg:H.cf.aG<=128
 pP:∀b,P b->σ0.size<=b/\b<U.size
 rF:σ0.size<=gb/\¬P gb
 tz:σ0.size<=km/\¬P km
 tf:σ0.size<=fm/\¬P fm
 n1:gb≠km
 n2:gb≠fm
 n3:km≠fm
 b:bY U gb (sU L.p km fm x)
 m:dM U km .i64 (.ag 5) x.kn
 f:dM U fm .i64 .b x.fr
 g0:jh (λb=>σ0.size<=b)/\¬σ0.size<=1
variable {x y:Gu}
theorem GP.fr (p:GP σ0 U L H held s0 P gb km fm x)(e:aF U w):GP σ0 w L H held s0 P gb km fm x:=
 ⟨p.e.trans e,p.h.bP e,p.hi,p.cf,p.pg,λb a=>⟨(p.pP b a).1,by have:=(p.pP b a).2;have:=e.1;omega⟩,p.rF,p.tz,p.tf,p.n1,p.n2,p.n3,e.bV p.b id,e.fX p.m id,e.fX p.f id,p.g0⟩
theorem GP.out (p:GP σ0 U L H held s0 P gb km fm x)(e:Ext T U w)(hT:∀b,b<U.size->T b->¬P b/\b≠gb/\b≠km/\b≠fm/\σ0.size<=b):GP σ0 w L H held s0 P gb km fm x:=by
 have s:=e.1;have a:=p.b.lt;have j:=p.m.lt;have g:=p.f.lt;have i:Ext (λb=>T b/\b<U.size) U w:=⟨e.1,λb a g=>e.2 b a λd=>g ⟨d,a⟩⟩;refine⟨Ext.dX p.e i λb a=>.inr (hT b a.2 a.1).2.2.2.2,p.h.bT i (λb a r d=>(hT b a d.1).1 r) (λb a=>?_) (λa=>?_),p.hi,p.cf,p.pg,λb a=>⟨(p.pP b a).1,by have:=(p.pP b a).2;omega⟩,p.rF,p.tz,p.tf,p.n1,p.n2,p.n3,e.bV p.b λd=>(hT gb a d).2.1 rfl,e.fX p.m λd=>(hT km j d).2.2.1 rfl,e.fX p.f λd=>(hT fm g d).2.2.2.1 rfl,p.g0⟩
 .exact p.g0.1 b (hT b a.2 a.1).2.2.2.2
 .exact p.g0.2 (hT _ a.2 a.1).2.2.2.2
theorem GP.step (p:GP σ0 U L H held s0 P gb km fm x){ts':List eU}(e:Ext P U w)(h':HH w (Grow P U) {L with ts:=ts'} H'){held':List Pc}{s0':Sp}(hi':HI H' held' s0')(k:QY H' H) :
 GP σ0 w {L with ts:=ts'} H' held' s0' (Cut (Grow P U) w) gb km fm x:=by
 have u:=e.1;have a:=p.b.lt;have r:=p.m.lt;have s:=p.f.lt;have g:∀b,b<U.size->¬P b->¬Cut (Grow P U) w b:=λb d j i=>by
  rcases i.1 with h3|h3
  .exact j h3
  .omega
 refine⟨Ext.dX p.e e λb a=>.inr (p.pP b a).1,h'.cut,hi',p.cf.bT k,by rw[k.2.1];exact p.pg,λb a=>⟨?_,a.2⟩,⟨p.rF.1,g gb a p.rF.2⟩,⟨p.tz.1,g km r p.tz.2⟩,⟨p.tf.1,g fm s p.tf.2⟩,p.n1,p.n2,p.n3,e.bV p.b p.rF.2,e.fX p.m p.tz.2,e.fX p.f p.tf.2,p.g0⟩;have:=p.e.1;rcases a.1 with d|d
 .exact(p.pP b d).1
 .omega
theorem GP.eX (p:GP σ0 U L H held s0 P gb km fm x)(e:Ext (λb=>b=gb\/b=km\/b=fm) U w)(hb:bY w gb (sU L.p km fm y))(hm:dM w km .i64 (.ag 5) y.kn)(hf:dM w fm .i64 .b y.fr):GP σ0 w L H held s0 P gb km fm y:=by
 have i:=e.1;have a:∀b,(b=gb\/b=km\/b=fm)->σ0.size<=b/\¬P b:=λb hb=>by
  rcases hb with rfl|rfl|rfl
  .exact p.rF
  .exact p.tz
  .exact p.tf
 exact⟨Ext.dX p.e e λb hb=>.inr (a b hb).1,p.h.bT e (λb _ d g=>(a b g).2 d) (λb hb=>p.g0.1 b (a b hb).1) (λhb=>p.g0.2 (a _ hb).1),p.hi,p.cf,p.pg,λb hb=>⟨(p.pP b hb).1,by have:=(p.pP b hb).2;omega⟩,p.rF,p.tz,p.tf,p.n1,p.n2,p.n3,hb,hm,hf,p.g0⟩
theorem Uy (p:GP σ0 U L H held s0 P gb km fm x){R:aO}(hR:R true U):W9.c (aW gb) U R:=by
 refine W9.o ?_;unfold W9.v;exact bX.intro (cF rfl (bL (p.b.rP rfl hR)))
theorem H7 (b:B5)(h0:0<=b.2.1)(h1:b.2.1<=1000000){R:aN}(hR:∀σ',aF U σ'->R (ZC b.2.1) σ'):XH.c b.1 b.2.1 b.2.2.1 b.2.2.2.1 b.2.2.2.2 U R:=by
 refine XH.o ?_;unfold XH.v;refine nw (cs:=fD b) λv d e a=>a.fE rfl (ar O O (ar O O (nz aB (ar (by rw[YU O];omega) (by rw[YU O];omega) ?_))));rw[YU O];refine ar O O ?_;have:(b.2.1+8-1)/8*8=ZC b.2.1:=by unfold ZC;omega
 rw[this];exact hR v e
theorem FN (z:Int)(h0:0<=z)(h1:z<=1000000){R:aN}(hR:R (jA z) U):Z6.c z U R:=by
 refine Z6.o ?_;unfold Z6.v;refine ar O O (ar O O ?_);have:0-z-1=jA z:=by unfold jA;omega
 rw[this];exact hR
theorem Jr (b:B5){R:Fv->Hp->Prop}(hR:∀σ',σ'.size=U.size+1->aF U σ'->bY σ' U.size (fD b)->R ⟨156,#[],#[.pointer (some ⟨U.size,0,none⟩)]⟩ σ'):X8.c b.1 b.2.1 b.2.2.1 b.2.2.2.1 b.2.2.2.2 U R:=by
 refine X8.o ?_;unfold X8.v;exact nw (cs:=fD b) λv d e a=>hR v d e a
theorem JM {P:Program}{l:Nat}{args:List Value}{h:Hp}{R R':Bool->Hp->Prop}(hy:HJ P l args h R)(hm:∀b w,R b w->R' b w):HJ P l args h R':=λw p=>by
 obtain⟨j,a,u,m,d,i⟩:=hy w p;exact⟨j,a,u,m,d,i.mono λe x ⟨g,b,r,s⟩=>⟨g,b,r,hm _ _ s⟩⟩
theorem LG {b:B5}(bi:gJ b):wY Tryz.prog ⟨156,#[],#[.pointer (some ⟨n,0,none⟩)]⟩ ((Zk b).map (e1 bO)) (λs=>bY s n (fD b)):=by
 intro l J hst hKp hy h h0;obtain⟨s,⟨H,L⟩,⟨N,P,Q⟩,⟨t,K⟩,R⟩:=bi;have M:=YA (n:=b.2.1) O;have E:(VL b:Int)*8=b.1-b.2.2.1:=by unfold VL;omega
 have C:(oz b:Int)*8=b.2.2.1+b.2.2.2.1-b.1-ZC b.2.1:=by unfold oz;omega
 show cI.sD l ⟨n,0,none⟩ h λF=>J ((Zk b).map (e1 bO)).length F;rw[zk,G0];refine cI.uY ?_;unfold cI.xY;refine(hKp 0 h h0).fE rfl (Qg (a:=bO) (λ(z:Int) s=>∃i:Nat,z=b.2.2.1+8*(i:Int)/\i<=VL b/\J i s) (λz _=>(b.1-z).toNat) ⟨0,O,O,h0⟩ ?_);rintro(z:Int) s ⟨i,rfl,hi,hJ⟩;have B:=hKp i s hJ;refine B.fE rfl (cN (λw=>?_) λx=>?_)
 .have d:i<VL b:=O
  have A:((Zk b).map (e1 bO))[i]?=some [Value.int .i64 (b.2.2.1+8*(i:Int))]:=by rw[zZ,Te d];rfl
  refine JM (hy i _ A s hJ) λD G ⟨j,g⟩=>?_;subst j;exact cD rfl (ar O O ⟨⟨i+1,O,O,g⟩,O⟩)
 .have d:i=VL b:=O
  subst d;have p:∀m,aF s m->bY m n (fD b):=λm e=>e.bV B id;refine⟨λm=>aF s m,Ext.refl _ _,qn (c:=bO) (y:=b.1) p rfl (gN (c:=bO) (y:=b.1) p rfl (gN (c:=bO) (y:=b.2.1) p rfl (gN (c:=bO) (y:=b.2.2.1) p rfl (gN (c:=bO) (y:=b.2.2.2.1) p rfl (gN (c:=bO) (y:=b.2.2.2.2) p rfl ?_)))))⟩;refine H7 b O O λs1 r=>⟨r,ar O O ?_⟩;refine Qg (a:=bO) (λ(z:Int) s=>∃i:Nat,z=b.1+ZC b.2.1+8*(i:Int)/\i<=oz b/\J (VL b+i) s) (λz _=>(b.2.2.1+b.2.2.2.1-z).toNat) ⟨0,O,O,hst _ _ _ hJ r⟩ ?_;rintro(z:Int) s2 ⟨i,rfl,hi,hJ2⟩;have u:=hKp _ s2 hJ2;refine ar O O (u.fE rfl (u.fE rfl (ar O O (cN (λw=>?_) λx=>?_))))
  .have d:i<oz b:=O
   have A:((Zk b).map (e1 bO))[VL b+i]?=some [Value.int .i64 (b.1+ZC b.2.1+8*(i:Int))]:=by rw[zZ,SD d];rfl
   refine JM (hy _ _ A s2 hJ2) λD G ⟨j,g⟩=>?_;subst j;exact cD rfl (ar O O ⟨⟨i+1,O,O,g⟩,O⟩)
  .have d:i=oz b:=O
   subst d;exact hJ2
def UL (H:Hw)(b:B5):Bool:=!(Kl H b.2.2.1==some b.2.2.2.1)
theorem Ad (p:GP σ0 U L H held s0 P gb km fm x)(b:B5){R:aO}(hR:∀σ',aF U σ'->R (UL H b) σ'):XF.c (aW gb) b.1 b.2.1 b.2.2.1 b.2.2.2.1 b.2.2.2.2 U R:=by
 refine XF.o ?_;unfold XF.v;refine nw (cs:=fD b) λv s e j=>?_;have g:=p.fr e;refine⟨λm=>aF v m,Ext.refl _ _,bL (gN (c:=.p) (y:=some ⟨L.p,0,none⟩) (λm e=>e.bV g.b id) rfl (qn (c:=bO) (y:=b.2.2.1) (λm e=>e.bV j id) rfl (Lg g.h b.2.2.1 λr e1=>?_)))⟩;have d:=e1.bV j id;have a:=hR r (e.trans e1);refine bX.intro ?_;cases hu:Kl H b.2.2.1 with
 | none=>
  unfold UL at a;rw[hu]at a;exact cF rfl a
 | some u=>
  unfold UL at a;rw[hu]at a;refine cD rfl (d.fE rfl ?_);have:(!(some u==some b.2.2.2.1))=((some u).getD 0 != b.2.2.2.1):=by simp[bne]
  rw[this]at a;exact a
def ZI (H:Hw)(thread:Int):Int:=if thread<0\/thread≥(H.cf.threads:Int)then 1 else if(UH H thread).isSome then 5 else 0
theorem Po (p:GP σ0 U L H held s0 P gb km fm x)(thread:Int){R:aN}(hR:∀σ',aF U σ'->R (ZI H thread) σ'):YF.c (aW gb) thread U R:=by
 refine YF.o ?_;unfold YF.v;refine KC (λr u=>aF U u/\r=decide (thread<0\/thread≥(H.cf.threads:Int))) (λr u ⟨d,g⟩=>?_) λJ i=>?_
 .by_cases hc:thread<0\/thread≥(H.cf.threads:Int)
  .have a:=hR u d;unfold ZI at a;rw[zC hc]at a;exact cF (by rw[g];exact zI hc) a
  .have j:=p.fr d;refine cD (by rw[g];exact zL hc) (bL (j.b.rP rfl (Iy j.h thread λs m e2 w=>?_)));have a:=hR m (d.trans e2);unfold ZI at a;rw[zB hc]at a;rw[w];cases hp:UH H thread with
   | none=>rw[hp]at a;exact cD rfl a
   | some q=>rw[hp]at a;exact cF rfl a
 .refine cN (λh=>i _ _ ⟨Ext.refl _ _,by rw[zI];exact .inl h⟩) λh=>bL (p.b.rP rfl (GX p.h λu e=>i _ _ ⟨e,?_⟩));rw[kZ,decide_eq_true_iff,decide_eq_true_iff];exact⟨.inr,λy=>y.resolve_left h⟩
theorem Ι (h:HH U F L H)(hp:1<=H.cf.aG){R:aO}(hR:∀σ',aF U σ'->R true σ'):Q8.c (aW L.p) U R:=by
 refine Q8.o ?_;unfold Q8.v;refine bX.intro (cF rfl (GX h λw e=>?_));have:decide ((H.cf.aG:Int)>0)=true:=zI O;rw[this];exact hR w e
theorem IS (e0:aF σ0 U)(h:HH U P L H)(hi:HI H held s0)(hc:iQ H)(hpg:H.cf.aG<=128)(hP:∀b,P b->σ0.size<=b/\b<U.size)(hg:jh (λb=>σ0.size<=b)/\¬σ0.size<=1){R:Option Addr->Int->Hp->Prop}
 (hR:∀w gb km fm,aF U w->U.size<=gb/\U.size<=km/\U.size<=fm->GP σ0 w L H held s0 P gb km fm pn->R (some ⟨gb,0,none⟩) 0 w):Kf.c (aW L.p) U R:=by
 refine Kf.o ?_;unfold Kf.v;refine Ι h hc.1 λv e=>cD rfl (ub λi r e1 y=>ub λm A e2 u=>nw (cs:=sU L.p v.size i.size pn) λv3 z d x=>?_);have C:=e.1;have D:=e0.1;have a:=((e.trans e1).trans e2).trans d;have g:∀b,U.size<=b->¬P b:=λb B s=>by have:=(hP b s).2;omega
 exact hR v3 m.size v.size i.size a ⟨O,O,O⟩ ⟨e0.trans a,h.bP a,hi,hc,hpg,λb j=>⟨(hP b j).1,by have:=(hP b j).2;have:=a.1;omega⟩,⟨O,g _ O⟩,⟨O,g _ O⟩,⟨O,g _ O⟩,O,O,O,x,(e2.trans d).fX (y _ _) id,d.fX (u _ _) id,hg⟩
end Go.Ar
namespace Go.Ar
open Go Go.Vc Go.Proofs
open Go.Vc (bS cX cO)
variable {U σ0 v w w':Hp}{F P Q X T:Rg}{L:dE}{H H':Hw}{held:List Pc}{s0 sp:Sp}{t n:Nat}{g:Th}{gb km fm m:Nat}{x y:Gu}{b:B5}
def iK (sp:Sp)(l:List Int)(f:Int->Int):Sp:=l.foldl (λs z=>ZJ s z (f z)) sp
theorem Sq (sp:Sp)(z:Int)(l:List Int)(f:Int->Int):iK sp (z::l) f=iK (ZJ sp z (f z)) l f:=rfl
theorem DZ (sp:Sp)(l:List Int)(z:Int)(f:Int->Int):iK sp (l++[z]) f=ZJ (iK sp l f) z (f z):=by unfold iK;rw[vX];rfl
theorem Hi {sp:Sp}{x:Nat}:eP sp ((8*x:Nat):Int)=0↔gf sp.st (x/32)≠0:=by
 unfold eP;rw[zB O,show((8*x:Nat):Int).toNat/256=x/32 by omega];unfold gf;split
 .rename_i h;rw[h];simp
 .rename_i h;exact⟨λ_=>h,λ_=>rfl⟩
theorem y9 (sp:Sp)(x:Nat):Q0 sp ((8*x:Nat):Int)=if gf sp.st (x/32)≠0 then sp.wd x else 0:=by
 unfold Q0;by_cases h:gf sp.st (x/32)≠0
 .rw[zC (Hi.2 h),zC h];congr 1;omega
 .rw[zB (λa=>h (Hi.1 a)),zB h]
theorem yU (f:Int->Int):∀(l:List Int) (sp:Sp),(∀z∈l,0<=z/\z%8=0)->(iK sp l f).st.length=sp.st.length/\(∀p,gf (iK sp l f).st p=0↔gf sp.st p=0) ∧
 ∀w:Nat,(iK sp l f).wd w=if((8*w:Nat):Int)∈l/\gf sp.st (w/32)≠0 then f ((8*w:Nat):Int)else sp.wd w
 | [],sp,_=>⟨rfl,λ_=>Iff.rfl,λw=>by rw[zB aA];rfl⟩
 | z::l,sp,hl=>by
  obtain⟨i1,i2,i3⟩:=yU f l (ZJ sp z (f z)) λz a=>hl z (l7 _ a);obtain⟨j,b,m⟩:=BK sp z (f z);have r:=hl z mL;obtain⟨zn,rfl⟩:∃c:Nat,z=((8*c:Nat):Int):=⟨z.toNat/8,O⟩;rw[Sq];refine⟨i1.trans j,λp=>(i2 p).trans (b p),λw=>?_⟩;rw[i3,m];have a:=b (w/32);by_cases hm:gf sp.st (w/32)≠0
  .by_cases hw:((8*w:Nat):Int)∈l
   .rw[zC ⟨hw,λh=>hm (a.1 h)⟩,zC ⟨l7 _ hw,hm⟩]
   .rw[zB λh=>hw h.1];by_cases he:w=zn
    .subst he;rw[zC ⟨Hi.2 hm,O⟩,zC ⟨mL,hm⟩]
    .rw[zB λh=>he (by have:=h.2;omega),zB λh=>(zW.1 h.1).elim (λh=>he O) hw]
  .have key:¬(eP sp ((8*zn:Nat):Int)=0/\w=((8*zn:Nat):Int).toNat/8):=λh=>by
    have d:=Hi.1 h.1;have i:w=zn:=O
    subst i;exact hm d
   rw[zB λh=>hm λg=>h.2 (a.2 g),zB key,zB λh=>hm h.2]
theorem HI.iK (f:Int->Int):∀(l:List Int) {H:Hw} {s0:Sp},HI H held s0->∃s0',HI {H with sp:=Go.Ar.iK H.sp l f} held s0'
 | [],H,s0,h=>⟨s0,h⟩
 | z::l,H,s0,h=>HI.iK f l (h.write z (f z))
theorem KY {f:Int->Int}{l:List Int}{sp:Sp}(hl:∀z∈l,0<=z/\z%8=0)(w:Nat):Q0 (iK sp l f) ((8*w:Nat):Int)=if((8*w:Nat):Int)∈l/\gf sp.st (w/32)≠0 then f ((8*w:Nat):Int)else Q0 sp ((8*w:Nat):Int):=by
 obtain⟨_,a,b⟩:=yU f l sp hl;rw[y9,y9];by_cases hm:gf sp.st (w/32)≠0
 .rw[zC λh=>hm ((a _).1 h),b];by_cases hw:((8*w:Nat):Int)∈l
  .rw[zC ⟨hw,hm⟩,zC ⟨hw,hm⟩]
  .rw[zB λh=>hw h.1,zB λh=>hw h.1,zC hm]
 .rw[zB λh=>hm λd=>h ((a _).2 d),zB λh=>hm h.2,zB hm]
def QH (b:B5):Nat:=(ZC b.2.1/8).toNat
def XR (b:B5):List Int:=(List.range (QH b)).map λ(i:Nat)=>b.1+8*(i:Int)
theorem HX (bi:gJ b){z:Int}(hz:z∈XR b):b.1<=z/\z%8=0/\z+8<=b.1+ZC b.2.1:=by
 obtain⟨s,⟨a,d⟩,⟨j,r,u⟩,⟨t,p⟩,m⟩:=bi;have g:=YA (n:=b.2.1) O;obtain⟨i,hi,rfl⟩:=zE.1 hz;have:=zg.1 hi;unfold QH at this;omega
theorem GP.write (p:GP σ0 U L H held s0 P gb km fm x)(gc:Gc σ0)(z u:Int)(hz:z<=9223372036854775807){R:aN}
 (hR:∀w s0' P',Ext P U w->GP σ0 w L {H with sp:=ZJ H.sp z u} held s0' P' gb km fm x->(∀c,P' c->P c\/U.size<=c)->R (eP H.sp z) w):Xy.c (aW L.p) z u U R:=by
 refine Sn p.h (gc.bP p.e) z u hz λw e a=>?_;exact hR w _ _ e (p.step (ts':=L.ts) e a (p.hi.write z u) ⟨rfl,rfl,rfl,rfl⟩) λc b=>b.1
theorem Lx {D:Nat}{s:Hp}{K:aP}(h:s[D]?=some (.deferred (some [])))(hK:∀w,Ext (· = D) s w->K w):vq D s K:=
 ⟨h,hK _ ⟨by simp,λb d a=>by rw[Array.getElem?_setIfInBounds,zB λh=>a h.symm]⟩⟩
set_option maxRecDepth 8000 in
theorem EI (p:GP σ0 U L H held s0 P gb km fm x)(gc:Gc σ0)(bi:gJ b)(val:Int){R:aP}
 (hR:∀w s0' P',Ext P U w->GP σ0 w L {H with sp:=iK H.sp (XR b) λ_=>val} held s0' P' gb km fm x->(∀c,P' c->P c\/U.size<=c)->R w):Yu.c (aW gb) b.1 b.2.1 b.2.2.1 b.2.2.2.1 b.2.2.2.2 val U R:=by
 obtain⟨⟨s1,s2⟩,⟨M,Q⟩,⟨V,W,X⟩,⟨t,N⟩,hm⟩:=bi;have S:=YA (n:=b.2.1) O;have Y:(QH b:Int)*8=ZC b.2.1:=by unfold QH;omega
 refine Yu.o ?_;unfold Yu.v;refine nw (cs:=fD b) λv Z e E=>?_;refine Qg (a:=bO) (λ(z:Int) u=>∃(i:Nat) (s0':Sp) (P':Rg),z=8*(i:Int)/\i<=QH b/\Ext P v u/\bY u U.size (fD b)/\GP σ0 u L {H with sp:=iK H.sp ((List.range i).map λ(j:Nat)=>b.1+8*(j:Int)) λ_=>val} held s0' P' gb km fm x/\∀c,P' c->P c\/v.size<=c) (λz _=>(ZC b.2.1-z).toNat)
  ⟨0,s0,P,O,O,Ext.refl _ _,E,p.fr e,λc d=>.inl d⟩ ?_
 rintro(z:Int) u ⟨i,s0',P',rfl,hi,eu,hbu,pu,hP⟩;refine hbu.rI rfl (hbu.rI rfl (hbu.rI rfl (hbu.rI rfl (hbu.rI rfl (H7 b O O λG e1=>?_)))));have g:=e1.bV hbu id;have y:=pu.fr e1;refine cN (λA=>?_) λB=>?_
 .refine bL (y.b.rP rfl (g.fE rfl (ar O O (y.write gc _ val O λK m P'' e2 J r=>?_))));have C:=e1.1;have D:=eu.1;refine ar O O ⟨⟨i+1,m,P'',O,O,Ext.dX (eu.fS e1) e2 hP,e2.bV g λF=>?_,?_,λc d=>?_⟩,O⟩
  .rcases hP _ F with h|h
   .have:=(p.pP _ h).2;omega
   .omega
  .rw[qN,zj,List.map_singleton,DZ];exact J
  .rcases r c d with h|h
   .exact hP c h
   .exact .inr O
 .have s:i=QH b:=O
  subst s;refine hR G _ _ ((aF.to e).trans (eu.fS e1)) y λc d=>?_;have:=e.1;exact(hP c d).imp id λh=>by omega
def jN (sp:Sp)(z:Int):Bool:=eP sp z != 0||Q0 sp z != jA z
def QR (sp:Sp)(b:B5):List Int:=(Zk b).filter (jN sp)
set_option maxRecDepth 16000 in
theorem EA (p:GP σ0 U L H held s0 P gb km fm x)(bi:gJ b){R:Sl->Hp->Prop}
 (hR:∀s w Q,aF U w->bU s 1 (Wu (QR H.sp b)) w Q->(∀c,Q c->U.size<=c/\c<w.size)->R s w):XO.c (aW gb) b.1 b.2.1 b.2.2.1 b.2.2.2.1 b.2.2.2.2 U R:=by
 refine XO.o ?_;unfold XO.v;refine nw (cs:=[.pointer (some ⟨gb,0,none⟩)]) λv1 hz1 e1 b1=>nw (cs:=fD b) λM hz2 e2 b2=>nw (cs:=[.slice none 0 0]) λv3 hz3 e3 b3=>?_;have j:=e3.bV b2 id;have X:=(e2.trans e3).bV b1 id;refine j.rI rfl (j.rI rfl (j.rI rfl (j.rI rfl (j.rI rfl (Jr b λv4 hz4 V b4=>?_)))));have aa:=((e1.trans e2).trans e3).trans V;have hzs:(Zk b).length<=100000:=by
  obtain⟨⟨s1,s2⟩,⟨b1,b2⟩,⟨z1,z2,z3⟩,⟨t,t2⟩,hm⟩:=bi;have hw:=YA (n:=b.2.1) O;rw[G0];unfold VL oz;omega
 refine⟨rfl,by kernel_rfl,Zk b,_,λk s=>aF U s/\bY s U.size [.pointer (some ⟨gb,0,none⟩)]/\bY s v3.size (fD b)/\∃(sl:Sl) (Q:Rg),bY s M.size [.slice sl.a sl.len sl.cap]/\bU sl 1 (Wu (((Zk b).take k).filter (jN H.sp))) s Q/\∀c,Q c->v4.size+2<=c/\c<s.size,LG bi,?_,λk s h=>h.2.2.1,?_,?_,?_⟩
 .rintro k s s' ⟨B,D,K,sl,Q,C,E,A⟩ e;have hz:=e.1;refine⟨Ext.dX B e λc d=>.inr O,e.bV D O,e.bV K O,sl,Q,e.bV C O,aI.bT E e λc _ W d=>?_,λc d=>?_⟩
  .have:=A c W;omega
  .have:=A c d;omega
 .exact⟨aa,(V).bV X id,b4,⟨none,0,0⟩,λ_=>False,V.bV b3 id,⟨rfl,.inl ⟨rfl,rfl⟩⟩,λc d=>d.elim⟩
 .rintro k z Y s ⟨B,D,K,sl,Q,C,E,A⟩ hsz;have zi:=Gh bi (zG Y);have N:=bi.base;have hm:=bi.m;have hkl:=(cY.1 Y).1;have ps:=p.fr B;have F:(Zk b).take (k+1)=(Zk b).take k++[z]:=by rw[kB,Y];rfl
  refine D.qW rfl (bL (ps.b.rP rfl (CV ps.h z O λv5 g=>?_)));have hz5:=g.1;refine KC (λr u=>u=v5/\r=jN H.sp z) (λr u ⟨hu,hr⟩=>?_) λJ hJ=>?_
  .subst hu;have G:=aI.bP E g;have i:∀c,Q c->c≠v4.size/\c≠v4.size+1/\c≠U.size/\c≠v3.size/\c≠M.size:=λc d=>by have:=A c d;omega
   refine cP (λN=>?_) λN=>?_
   .refine(g.bV C id).wu rfl (xW G ?_ z λs' v8 Z h8=>?_)
    .have B:=pI (jN H.sp) ((Zk b).take k);rw[zY]at B;omega
    have hz8:=Z.1;have S:=Z.bV (g.bV C id) λd=>(i _ d).2.2.2.2 rfl;refine S.s0 aA λv9 o9 h9=>?_;have e9:=o9.ext;have hz9:=o9.1;have y:Ext (λc=>Q c\/c=M.size) u v9:=(Z.sub λc d=>.inl d).trans (e9.sub λc d=>.inr d);refine⟨⟨Ext.dX (B.trans g) y λc d=>?_,y.bV (g.bV D id) ?_,y.bV (g.bV K id) ?_,s',λc=>Q c\/u.size<=c/\c<v8.size,h9,?_,λc d=>?_⟩,?_,?_⟩
    .rcases d with d|d
     .have:=A c d;exact .inr O
     .exact .inr O
    .rintro(d|d)
     .exact(i _ d).2.2.1 rfl
     .omega
    .rintro(d|d)
     .exact(i _ d).2.2.2.1 rfl
     .omega
    .have:((Zk b).take (k+1)).filter (jN H.sp)=((Zk b).take k).filter (jN H.sp)++[z]:=by
      rw[F,xm,vM (by rw[←hr];exact N)];rfl
     rw[this];refine aI.bT h8 e9 λc _ d (hx:c=M.size)=>?_;rcases d with d|d
     .exact(i _ d).2.2.2.2 hx
     .omega
    .rcases d with d|d
     .have:=A c d;omega
     .omega
    .rw[y.2 _ O (by rintro(d|d);exact(i _ d).1 rfl;omega)];exact g.2 _ O id
    .rw[y.2 _ O (by rintro(d|d);exact(i _ d).2.1 rfl;omega)];exact g.2 _ O id
   .refine⟨⟨B.trans g,g.bV D id,g.bV K id,sl,Q,g.bV C id,?_,λc d=>?_⟩,g.2 _ O id,g.2 _ O id⟩
    .have:((Zk b).take (k+1)).filter (jN H.sp)=((Zk b).take k).filter (jN H.sp):=by
      rw[F,xm,vE (by rw[←hr,N];decide),List.filter_nil,kG]
     rw[this];exact G
    .have:=A c d;omega
  .refine cP (λh=>hJ _ _ ⟨rfl,by unfold jN;rw[h];rfl⟩) λh=>FN z O O (hJ _ _ ⟨rfl,by unfold jN;rw[h];rfl⟩)
 .rintro s ⟨B,D,K,sl,Q,C,E,A⟩ hD;rw[mi]at E;refine C.wu rfl (Lx hD λw ew=>?_);have hz:=ew.1;refine hR sl w Q (Ext.dX B ew λc d=>.inr O) (aI.bT E ew λc _ W d=>?_) λc d=>?_
  .have:=A c W;omega
  .have:=A c d;omega
end Go.Ar
namespace Go.Ar
open Go Go.Vc Go.Proofs
open Go.Vc (bS cX cO)
variable {U w w':Hp}{F P Q X:Rg}{L:dE}{H H':Hw}{held:List Pc}{s0:Sp}{t n:Nat}{g:Th}{σ0:Hp}{addrs:Sl}{ad:List Int}{l:Sl}{ds:List eZ}
theorem gg.push (p:gg σ0 U L H held s0 P Q addrs ad){s':Sl}{x:Int}(e:Ext Q U w)(hr:bU s' 1 (Wu (ad++[x])) w (λb=>Q b\/U.size<=b/\b<w.size))(hl:(ad++[x]).length<=60):gg σ0 w L H held s0 P (λb=>Q b\/U.size<=b/\b<w.size) s' (ad++[x]):=by
 have j:=e.1;have g:=p.e.1;refine⟨Ext.dX p.e e λb a=>.inr (p.pQ b a).1,p.h.bT e (λb a d i=>(p.pQ b i).2.2 d) (λb a=>p.g0.1 b (p.pQ b a).1) (λa=>p.g0.2 (p.pQ _ a).1),p.hi,p.cf,p.pg,λb a=>⟨(p.pP b a).1,by have:=(p.pP b a).2;omega⟩,λb a=>?_,hr,hl,p.g0⟩;rcases a with a|a
 .exact⟨(p.pQ b a).1,by have:=(p.pQ b a).2.1;omega,(p.pQ b a).2.2⟩
 .exact⟨O,a.2,λd=>by have:=(p.pP b d).2;omega⟩
theorem J5 {tb:List cA}{size align:Int}{k:Nat}(h:gY tb size align=some k):∃c,tb[k]?=some c/\size<=(c.size:Int)/\(c.size:Int)%align=0:=by
 unfold gY at h;obtain⟨b,a,_⟩:=nV.1 h;simp only[zF,zV,zU]at a;exact⟨tb[k],cW b,a.1,a.2⟩
theorem LA {tb:List cA}{size align:Int}(h:size<=16384/\Hl size align=true):size<=(Ge tb size align).1/\(Ge tb size align).2=0:=by
 unfold Ge;rw[zC h];refine⟨?_,rfl⟩;cases hc:gY tb size align with
 | some k=>
  obtain⟨c,a,b,_⟩:=J5 hc;simp only;rw[zQ,a];exact b
 | none=>simp only;unfold A7;omega
theorem Hh {live:List (Int×Bk)}{x:Int}(b:Bk):bS (cX live x b) x=some b:=by rw[VF,zC rfl]
end Go.Ar
namespace Go.Ar
open Go Go.Vc Go.Proofs
open Go.Vc (bS cX cO)
open Go.Bu (fB VJ Hu)
variable {size align:Int}{U σ0 v w w':Hp}{F P Q X T:Rg}{L:dE}{H H' H1:Hw}{held:List Pc}{s0 sp:Sp}{t n:Nat}{g:Th}{gb km fm m:Nat}{x y:Gu}{b:B5}
theorem _root_.Go.Vc.bY.s2 {U:Hp}{b o i j:Nat}{cs:List Value}(hb:bY U b cs){v:Value}(ho:o+i+j<cs.length){K:aP}(hK:∀h',Ka U h' b->bY h' b (cs.set (o+i+j) v)->K h'):dG (Addr.add (Addr.add ⟨b,o,none⟩ i) j) v U K:=by
 rw[add_lit];exact hb.s1 ho hK
def Mg (P:Rg)(gb km fm:Nat):Rg:=λb=>P b\/b=gb\/b=km\/b=fm
def mA (size align:Int):Bool:=decide (1<=size/\size<=1024/\1<=align/\align<=256)&&fB align
def zA (align:Int):Int:=if 16>align then 16 else align
theorem yj {align:Int}(h:align<=256):16<=zA align/\zA align<=256:=by unfold zA;split<;>omega
structure uG (H:Hw) (x:Gu) (size align:Int) (b:B5) (H1:Hw):Prop where
 me:nN H (zA align+ZC size+16) (zA align) H1 b.2.2.1 0
 a:b.1=b.2.2.1+zA align
 s:b.2.1=size
 u:Kl H1 b.2.2.1=some b.2.2.2.1
 n:b.2.2.2.2=x.no+1
 ok:mA size align=true
 bi:gJ b
def jK (sp:Sp)(b:B5):Sp:=iK (iK sp (Zk b) jA) (XR b) λ_=>0
def Gu.dK (x:Gu)(b:B5):Gu:=⟨cX x.kn b.1 b,x.fr,x.no+1⟩
theorem C3 {a:Int}(h1:1<=a)(h2:a<=256)(hp:fB a=true):a%8=0\/a<8:=by
 by_cases h:a<8
 .exact .inr h
 .left;obtain⟨a,rfl⟩:=zc (show 0<=a by omega);rw[VJ]at hp;have key:∀a:Nat,a<=256->8<=a->(a &&& (a-1)=0)->a%8=0:=by decide +kernel
  have:=key a O O (by have:=Hu (a:=a) O O;rw[hp]at this;simpa using this);omega
theorem MR (hi:HI H1 held s0)(hok:mA size align=true){base:Int}(me:nN H (zA align+ZC size+16) (zA align) H1 base 0):∃u,Kl H1 base=some u/\gJ (base+zA align,size,base,u,x.no+1):=by
 unfold mA at hok;rw[zF,zV]at hok;obtain⟨⟨i,k2,k3,k4⟩,kp⟩:=hok;have r:=yj k4;have p:=YA (n:=size) O;rcases me with⟨h,_⟩|⟨_,hm,hok,cl,hl,hcl⟩
 .exact absurd rfl h
 have g:Kl H1 base=some (Ge H.tb (zA align+ZC size+16) (zA align)).1:=by unfold Kl;rw[hl,Hh];rfl
 have j:=(LA (tb:=H.tb) ⟨hok.2.1,hok.2.2⟩).1;obtain⟨s,d,b⟩:=oy.1 g;have a:=hi.ny (YT d);simp only at a;rw[b]at a;have m:zA align%8=0:=by
  unfold zA;split
  .decide
  .rcases C3 k3 k4 kp with h|h
   .exact h
   .omega
 exact⟨_,g,⟨⟨i,k2⟩,⟨a.2.1,a.2.2.1⟩,⟨by simp only;omega,by simp only;omega,by simp only;omega⟩,⟨by simp only;omega,a.2.2.2.1⟩,by simp only;omega⟩⟩
set_option maxRecDepth 16000 in
theorem MN (p:GP σ0 U L H held s0 P gb km fm x)(gc:Gc σ0)(x0:0<=x.no/\x.no<=100000)(thread size align:Int){R:Int->Int->Hp->Prop}
 (h0:∀w,mA size align=false->aF U w->R 0 1 w)
 (h1:∀e w ts H' held' s0' P',mA size align=true->e≠0->KO H thread 0 (zA align+ZC size+16) (zA align) 0 H' 0 e->fV H H'->H'.live=H.live->Ext P U w->GP σ0 w {L with ts:=ts} H' held' s0' P' gb km fm x->(∀c,P' c->P c\/U.size<=c)->R 0 e w)
 (h2:∀b w ts H1 held' s0' P',uG H x size align b H1->KO H thread 0 (zA align+ZC size+16) (zA align) 0 H1 b.2.2.1 0->fV H H1->Ext (Mg P gb km fm) U w->GP σ0 w {L with ts:=ts} {H1 with sp:=jK H1.sp b} held' s0' P' gb km fm (x.dK b)->(∀c,P' c->P c\/U.size<=c)->R b.1 0 w) :
 Ye.c (aW gb) thread size align U R:=by
 refine Ye.o ?_;unfold Ye.v;rw[show(if(16:Int)>align then(16:Int)else align)=zA align from rfl]
 refine nw (cs:=[.pointer (some ⟨gb,0,none⟩)]) λv hz e hn4=>hn4.qW rfl (Uy (p.fr e) (cD rfl ?_));refine KC (λr u=>u=v/\r = !decide (1<=size/\size<=1024)) (λr u ⟨hu,hr⟩=>?_) λJ hJ=>cN (λh=>hJ _ _ ⟨rfl,by rw[zL O];rfl⟩) λh=>hJ _ _ ⟨rfl,?_⟩
 .rw[hu];refine KC (λr u=>u=v/\r = !decide (1<=size/\size<=1024/\1<=align)) (λr1 u1 ⟨hu1,hr1⟩=>?_) λJ1 hJ1=>?_
  .rw[hu1];refine KC (λr u=>u=v/\r = !decide (1<=size/\size<=1024/\1<=align/\align<=256)) (λr2 u2 ⟨hu2,hr2⟩=>?_) λJ2 hJ2=>?_
   .rw[hu2];refine KC (λr u=>u=v/\r = !mA size align) (λr3 u3 ⟨hu3,hr3⟩=>?_) λJ3 hJ3=>?_
    .rw[hu3];clear hr hr1 hr2 hu hu1 hu2 hu3;by_cases hgk:mA size align=true
     .refine cD (by rw[hr3,hgk];rfl) ?_;have hk:=hgk;unfold mA at hk;rw[zF,zV]at hk;obtain⟨⟨k1,k2,k3,k4⟩,kp⟩:=hk;have hzz:=yj k4;have hww:=YA (n:=size) O;refine nw (cs:=[.int .i64 0,.int .i64 0,.int .i64 0,.int .i64 0,.int .i64 0]) λv6 hz6 e6 b6=>?_;refine b6.s1 aA λv7 o7 b7=>b7.s1 aA λv8 o8 b8=>b8.s1 aA λv9 o9 b9=>b9.s1 aA λv10 gE b10=>b10.s1 aA λv11 o11 b11=>?_;have bb:bY v11 v.size (fD (0,size,0,0,0)):=b11;have eo:Ext (· = v.size) v6 v11:=(((o7.ext.trans o8.ext).trans o9.ext).trans gE.ext).trans o11.ext;have e11:aF v v11:=Ext.fresh e6 eo λi (hi:i=v.size)=>by omega
      have p11:=(p.fr e).fr e11;have V:=e11.bV hn4 id;have zv:U.size<v.size:=O
      have zb:=bb.lt;refine⟨λm=>bY m U.size [.pointer (some ⟨gb,0,none⟩)]/\bY m gb (sU L.p km fm x)/\bY m v.size (fD (0,size,0,0,0)),⟨V,p11.b,bb⟩,?_⟩;refine rj (c:=.p) (y:=some ⟨gb,0,none⟩) (λm G=>G.1) rfl (bL (gN (c:=.p) (y:=some ⟨L.p,0,none⟩) (λm G=>G.2.1) rfl ?_));refine gN (c:=bO) (y:=0) (λm G=>G.2.2) rfl (gN (c:=bO) (y:=size) (λm G=>G.2.2) rfl (gN (c:=bO) (y:=0) (λm G=>G.2.2) rfl (gN (c:=bO) (y:=0) (λm G=>G.2.2) rfl (gN (c:=bO) (y:=0) (λm G=>G.2.2) rfl ?_))));refine H7 (0,size,0,0,0) aC aC λv12 A=>⟨⟨A.bV V id,A.bV p11.b id,A.bV bb id⟩,?_⟩;refine ar aC aC (ar aC aC ?_);have p12:=p11.fr A;have e012:=(e.trans e11).trans A;have z1112:=A.1;obtain⟨H',a,er,hw,o,me⟩:=Lt p.hi thread (zA align+ZC size+16) (zA align);obtain⟨held',s0',hi'⟩:=o.hi;refine I5 Co p12.h p12.cf.2.2 hw λv13 ts F h13=>?_;have B:=p12.step F h13 hi' o.kp;have z12:=e012.1;have z13:=F.1;have nP:∀c,U.size<=c->¬P c:=λc h1 h2=>by have:=(p.pP c h2).2;omega
      have X:=F.bV (A.bV V id) (nP _ (zD _));have bb13:=F.bV (A.bV bb id) (nP _ O);refine⟨⟨X,F.bV p12.b p.rF.2,bb13⟩,?_⟩;generalize hP1:Cut (Grow P v12) v13=P1 at B;have E:∀c,P1 c->P c\/U.size<=c:=λc d=>by
       rw[←hP1]at d;exact d.1.imp id λh=>by omega
      have N:∀c,P1 c->c<v13.size:=λc d=>by rw[←hP1]at d;exact d.2
      have K:∀c,c<v12.size->¬P c->¬P1 c:=λc h1 h2 C=>by
       rw[←hP1]at C;rcases C.1 with h4|h4
       .exact h2 h4
       .omega
      have E13:Ext P U v13:=(aF.to e012).trans F;refine cP (λhne=>?_) λheq=>?_
      .have hne':er≠0:=by simpa using hne
       rcases me with⟨_,ha,hl⟩|⟨h,_⟩
       .subst ha;exact h1 er v13 ts H' held' s0' P1 hgk hne' hw o hl E13 B E
       .exact absurd h hne'
      .have he0:er=0:=by simpa using heq
       subst he0;obtain⟨u,hu,bi⟩:=MR (x:=x) (size:=size) (align:=align) hi' hgk me;obtain⟨b,g⟩:∃b:B5,b=(a+zA align,size,a,u,x.no+1):=⟨_,rfl⟩;rw[←g]at bi;have hbs:=bi.base;have hbm:=bi.m;have hbz:=bi.z;have hbt:=bi.t;have hb1:b.1=a+zA align:=by rw[g]
       have hb2:b.2.1=size:=by rw[g]
       rw[hb2]at hbt;have Q:b.2.2.1=a:=by rw[g]
       have hb4:b.2.2.2.1=u:=by rw[g]
       rw[Q]at hbs;have gr:uG H x size align b H':=⟨by rw[Q];exact me,by rw[hb1,Q],by rw[g],by rw[Q,hb4];exact hu,by rw[g],hgk,bi⟩;have hgb13:=B.b.lt;have hvg:v.size≠gb:=λh=>by have:=p.b.lt;omega
       have hsg:U.size≠gb:=λh=>by have:=p.b.lt;omega
       have hvk:v.size≠km:=λh=>by have:=p.m.lt;omega
       have hsk:U.size≠km:=λh=>by have:=p.m.lt;omega
       have hvf:v.size≠fm:=λh=>by have:=p.f.lt;omega
       refine X.qW rfl (bL (B.b.rI rfl (ar O O (bL (B.b.s1 (by simp[sU]) λM D b14=>?_)))));have p14:GP σ0 M {L with ts:=ts} H' held' s0' P1 gb km fm {x with no:=x.no+1}:=B.eX (D.ext.sub λc d=>.inl d) b14 (D.ext.fX B.m λ(h:km=gb)=>p.n1 h.symm) (D.ext.fX B.f λ(h:fm=gb)=>p.n2 h.symm);have hn14:=D.ext.bV X hsg;have bb14:=D.ext.bV bb13 hvg;refine hn14.qW rfl (bL (p14.b.rI rfl (ar O O ?_)));refine bb14.s1 (by simp[fD]) λv15 o15 b15=>b15.s2 (by simp[fD]) λv16 o16 b16=>b16.s2 (by simp[fD]) λv17 o17 b17=>?_;have e17:Ext (· = v.size) M v17:=(o15.ext.trans o16.ext).trans o17.ext;have hout:∀c,c<M.size->c=v.size->¬P1 c/\c≠gb/\c≠km/\c≠fm/\σ0.size<=c:=λc _ d=>by
        subst d;have:=p.e.1;exact⟨K _ O (nP _ O),hvg,hvk,hvf,O⟩
       have p17:=p14.out e17 hout;have hn17:=e17.bV hn14 (show ¬U.size=v.size by omega);refine hn17.qW rfl (bL (p17.b.rP rfl (Lg p17.h a λv18 W=>?_)));rw[hu];refine(W.bV b17 id).s2 (by simp[fD]) λv19 o19 b19=>?_;have j:bY v19 v.size (fD b):=by rw[g];exact b19
       have p18:=p17.fr W;have z17:=o17.1;have z16:=o16.1;have z15:=o15.1;have z14:=D.1;have z18:=W.1;have z19:=o19.1;have p19:=p18.out o19.ext λc hc1 (d:c=v.size)=>by
        subst d;have:=p.e.1;exact⟨K _ O (nP _ O),hvg,hvk,hvf,O⟩
       have hn19:=o19.ext.bV (W.bV hn17 id) (show ¬U.size=v.size by omega);have E19:Ext (Mg P gb km fm) U v19:=by
        refine Ext.dX (((((E13.sub λc d=>.inl d).trans (D.ext.sub λc d=>.inr (.inl d))))):Ext (Mg P gb km fm) U M) (((e17.trans (aF.to W)).trans o19.ext):Ext (· = v.size) M v19) λc (d:c=v.size)=>.inr O
       refine j.rI rfl (j.rI rfl (j.rI rfl (j.rI rfl (j.rI rfl (Jr b λv20 hz20 S b20=>?_)))));have p20:=p19.fr S;have hn20:=S.bV hn19 id;have bb20:=S.bV j id;have z20:=S.1;have E20:Ext (Mg P gb km fm) U v20:=E19.fS S;refine⟨rfl,by kernel_rfl,Zk b,_,λk s=>Ext (Mg P gb km fm) U s/\v20.size<=s.size/\bY s U.size [.pointer (some ⟨gb,0,none⟩)]/\bY s v.size (fD b)/\bY s v19.size (fD b)/\∃(s0':Sp) (P':Rg),GP σ0 s {L with ts:=ts} {H' with sp:=iK H'.sp ((Zk b).take k) jA} held' s0' P' gb km fm {x with no:=x.no+1}/\∀c,P' c->P1 c\/v20.size+2<=c,LG bi,?_,λk s h=>h.2.2.2.2.1,?_,?_,?_⟩
       .rintro k s s' ⟨i1,i2,i3,Z,i5,s1',P',i6,i7⟩ es;have zs:=es.1;have nn:∀c,c<v20.size->¬(c=v20.size\/c=v20.size+1):=λc h=>by omega
        refine⟨Ext.dX i1 es λc d=>.inr O,O,es.bV i3 (nn _ O),es.bV Z (nn _ O),es.bV i5 (nn _ O),s1',P',i6.out es λc _ d=>?_,i7⟩;have:=p.e.1;have g1:=p.b.lt;have g2:=p.m.lt;have g3:=p.f.lt;refine⟨λhx=>?_,O,O,O,O⟩;rcases i7 c hx with h|h
        .have:=N c h;omega
        .omega
       .exact⟨E20,zD _,hn20,bb20,b20,s0',P1,p20,λc d=>.inl d⟩
       .rintro k (z:Int) hk s ⟨i1,i2,i3,Z,i5,s1',P',i6,i7⟩ hsz;have zi:=Gh bi (zG hk);have hzk:0<=z/\z<=1000000:=by
         have z1:=zi.1;have z2:=zi.2.2.1;have h0:=bi.base.1;omega
        have htk:(Zk b).take (k+1)=(Zk b).take k++[z]:=by rw[kB,hk];rfl
        have Y:∀c,c<v20.size+2->(¬P1 c)->¬P' c:=λc h1 h2 C=>(i7 c C).elim h2 λh=>by omega
        have q1:¬P1 U.size:=K _ O (nP _ (zD _));have q2:¬P1 v.size:=K _ O (nP _ O);have q3:∀c,v13.size<=c->¬P1 c:=λc h1 h2=>by have:=N c h2;omega
        refine⟨λm=>bY m U.size [.pointer (some ⟨gb,0,none⟩)]/\bY m gb (sU L.p km fm {x with no:=x.no+1}),⟨i3,i6.b⟩,rj (c:=.p) (y:=some ⟨gb,0,none⟩) (λm h=>h.1) rfl (bL (gN (c:=.p) (y:=some ⟨L.p,0,none⟩) (λm h=>h.2) rfl ?_))⟩;refine FN z hzk.1 hzk.2 ⟨⟨i3,i6.b⟩,?_⟩;refine i6.write gc z (jA z) O λs2 s2' P2 e2 p2 hP2=>?_;have zs2:=e2.1;have i3':=e2.bV i3 (Y _ O q1);refine⟨⟨i3',p2.b⟩,⟨Ext.dX i1 e2 λc d=>?_,O,i3',e2.bV Z (Y _ O q2),e2.bV i5 (Y _ O (q3 _ O)),s2',P2,?_,λc d=>?_⟩,e2.2 _ O (Y _ O (q3 _ O)),e2.2 _ O (Y _ O (q3 _ O))⟩
        .rcases i7 c d with h|h
         .exact(E c h).imp .inl id
         .exact .inr O
        .rw[htk,DZ];exact p2
        .rcases hP2 c d with h|h
         .exact i7 c h
         .exact .inr O
       .rintro s ⟨i1,i2,i3,Z,i5,s1',P',i6,i7⟩ hD;rw[mi]at i6;have Y:∀c,c<v20.size+2->(¬P1 c)->¬P' c:=λc h1 h2 C=>(i7 c C).elim h2 λh=>by omega
        have q1:¬P1 U.size:=K _ O (nP _ (zD _));have q2:¬P1 v.size:=K _ O (nP _ O);have q3:∀c,v13.size<=c->¬P1 c:=λc h1 h2=>by have:=N c h2;omega
        refine i3.qW rfl (Z.rI rfl (Z.rI rfl (Z.rI rfl (Z.rI rfl (Z.rI rfl (EI i6 gc bi 0 λs2 s2' P2 e2 p2 hP2=>?_))))));have zs2:=e2.1;have hlt:=(jT.1 hD).1;have i3':=e2.bV i3 (Y _ O q1);have i4':=e2.bV Z (Y _ O q2);have hS:∀m,(bY m U.size [.pointer (some ⟨gb,0,none⟩)]/\bY m gb (sU L.p km fm {x with no:=x.no+1})/\bY m v.size (fD b))->bY m v.size (fD b):=λm h=>h.2.2;refine⟨λm=>bY m U.size [.pointer (some ⟨gb,0,none⟩)]/\bY m gb (sU L.p km fm {x with no:=x.no+1})/\bY m v.size (fD b),⟨i3',p2.b,i4'⟩,rj (c:=.p) (y:=some ⟨gb,0,none⟩) (λm h=>h.1) rfl (bL (gN (c:=.m) (y:=some km) (λm h=>h.2.1) rfl ?_))⟩;refine qn (c:=bO) (y:=b.1) hS rfl (gN (c:=bO) (y:=b.1) hS rfl (gN (c:=bO) (y:=b.2.1) hS rfl (gN (c:=bO) (y:=b.2.2.1) hS rfl (gN (c:=bO) (y:=b.2.2.2.1) hS rfl (gN (c:=bO) (y:=b.2.2.2.2) hS rfl ⟨km,x.kn,rfl,p2.m,λs3 o3 m3=>?_⟩)))));have p3:GP σ0 s3 {L with ts:=ts} {H' with sp:=jK H'.sp b} held' s2' P2 gb km fm (x.dK b):=p2.eX (y:=x.dK b) (o3.ext.sub λc d=>.inr (.inl d)) (o3.ext.bV p2.b p.n1) m3 (o3.ext.fX p2.f λ(h:fm=km)=>p.n3 h.symm);have zs3:=o3.1;have hkm:=p.m.lt;have hfm:=p.f.lt;have hgb:=p.b.lt;have hD3:s3[v20.size]?=some (.deferred (some [])):=(o3.2 _ O).trans ((e2.2 _ hlt (Y _ O (q3 _ O))).trans hD);refine(o3.ext.bV i4' hvk).fE rfl (Lx hD3 λs4 e4=>?_);have hP2':∀c,P2 c->P c\/U.size<=c:=λc d=>by
         rcases hP2 c d with h|h
         .rcases i7 c h with h|h
          .exact E c h
          .exact .inr O
         .exact .inr O
        refine h2 b s4 ts H' held' s2' P2 gr (by rw[Q];exact hw) o ?_ (p3.out e4 λc _ (d:c=v20.size)=>?_) hP2'
        .have E1:Ext (Mg P gb km fm) U s2:=Ext.dX i1 e2 λc d=>by
          rcases i7 c d with h|h
          .exact(E c h).imp .inl id
          .exact .inr O
         have E2:Ext (Mg P gb km fm) U s3:=E1.trans (o3.ext.sub λc d=>.inr (.inr (.inl d)));exact Ext.dX E2 e4 λc (d:c=v20.size)=>.inr O
        .subst d;have:=p.e.1;refine⟨λhx=>?_,O,O,O,O⟩;rcases hP2 _ hx with h|h
         .exact Y _ O (q3 _ O) h
         .omega
     .exact cF (by rw[hr3];simp[hgk]) (h0 v (by simpa using hgk) e)
    .by_cases g:1<=size/\size<=1024/\1<=align/\align<=256
     .refine cD (by rw[hr2,zI g];rfl) (ar O O (hJ3 _ _ ⟨rfl,?_⟩));rw[Pp g.2.2.1 g.2.2.2];unfold mA;rw[zI g];rfl
     .refine cF (by rw[hr2,zL g];rfl) (hJ3 _ _ ⟨rfl,?_⟩);unfold mA;rw[zL g];rfl
   .by_cases g:1<=size/\size<=1024/\1<=align
    .refine cD (by rw[hr1,zI g];rfl) (hJ2 _ _ ⟨rfl,?_⟩);by_cases C:align>256
     .rw[zI C,zL O];rfl
     .rw[zL C,zI O];rfl
    .exact cF (by rw[hr1,zL g];rfl) (hJ2 _ _ ⟨rfl,by rw[zL O];rfl⟩)
  .by_cases g:1<=size/\size<=1024
   .refine cD (by rw[hr,zI g];rfl) (hJ1 _ _ ⟨rfl,?_⟩);by_cases C:align<1
    .rw[zI C,zL O];rfl
    .rw[zL C,zI O];rfl
   .exact cF (by rw[hr,zL g];rfl) (hJ1 _ _ ⟨rfl,by rw[zL O];rfl⟩)
 .by_cases C:size>1024
  .rw[zI C,zL O];rfl
  .rw[zL C,zI O];rfl
end Go.Ar
namespace Go.Ar
open Go Go.Vc Go.Proofs Go.RowKit Go.Sort Go.Shelf Go.Lib
variable {U:Hp}{F Q:Rg}{s:Sl}{xs:List Int}
end Go.Ar
namespace Go.Ar
open Go Go.Vc Go.Proofs
open Go.Vc (bS cX cO)
variable {size align:Int}{U σ0 v w w':Hp}{F P Q X T:Rg}{L:dE}{H H' H1:Hw}{held:List Pc}{s0 sp:Sp}{t n:Nat}{g:Th}{gb km fm m:Nat}{x y:Gu}{b:B5}
def Gg:Int:=-1234567
def lY (H:Hw)(x:Gu)(thread addr:Int)(whole:Bool):Int:=
 if ZI H thread≠0 then ZI H thread else match bS x.kn addr with
 | none=>if(bS x.fr addr).getD false then 9 else 8
 | some b=>if UL H b then 5 else if whole&&decide (0<(QR H.sp b).length)then 10 else 0
def Gu.gone (x:Gu)(addr:Int):Gu:=⟨cO x.kn addr,cX x.fr addr true,x.no⟩
def dQ (H:Hw)(b:B5):Hw:={H with sp:=iK H.sp (XR b) λ_=>Gg}
set_option maxRecDepth 16000 in
theorem E8 (p:GP σ0 U L H held s0 P gb km fm x)(gc:Gc σ0)(xi:∀e∈x.kn,e.1=e.2.1/\gJ e.2)(thread addr:Int)(whole:Bool){R:aN}
 (h0:∀w,lY H x thread addr whole≠0->aF U w->R (lY H x thread addr whole) w)
 (h1:∀b w ts H1 held' s0' P' e,bS x.kn addr=some b->lY H x thread addr whole=0->KO (dQ H b) thread 1 0 0 b.2.2.1 H1 0 e->fV (dQ H b) H1->nG (dQ H b) thread b.2.2.1 H1 e->Ext (Mg P gb km fm) U w->GP σ0 w {L with ts:=ts} H1 held' s0' P' gb km fm (x.gone addr)->(∀c,P' c->P c\/U.size<=c)->R 0 w) :
 XU.c (aW gb) thread addr whole U R:=by
 refine XU.o ?_;unfold XU.v;refine Uy p (cD rfl (Po p thread λC e1=>?_));have p1:=p.fr e1;refine cP (λhne=>?_) λheq=>?_
 .have hn:ZI H thread≠0:=by simpa using hne
  have he:lY H x thread addr whole=ZI H thread:=by unfold lY;rw[zC hn]
  have:=h0 C (by rw[he];exact hn) e1;rw[he]at this;exact this
 have Z:ZI H thread=0:=by simpa using heq
 have a:lY H x thread addr whole=match bS x.kn addr with
  | none=>if(bS x.fr addr).getD false then 9 else 8
  | some b=>if UL H b then 5 else if whole&&decide (0<(QR H.sp b).length)then 10 else 0:=by
  unfold lY;rw[zB (by rw[Z];decide)]
 refine bL (p1.b.rM rfl ⟨x.kn,p1.m,?_⟩);refine nw (cs:=[.int .i64 0,.int .i64 0,.int .i64 0,.int .i64 0,.int .i64 0]) λv2 hz2 e2 b2=>b2.s1 aA λv3 o3 b3=>b3.s1 aA λv4 o4 b4=>b4.s1 aA λv5 o5 b5=>b5.s1 aA λv6 o6 b6=>b6.s1 aA λv7 o7 b7=>?_;have eo:Ext (· = C.size) v2 v7:=(((o3.ext.trans o4.ext).trans o5.ext).trans o6.ext).trans o7.ext;have e17:aF C v7:=Ext.fresh e2 eo λi (hi:i=C.size)=>by omega
 have E:=e1.trans e17;have p7:=p.fr E;have d:bY v7 C.size (fD ((bS x.kn addr).getD (0,0,0,0,0))):=b7;cases hk:bS x.kn addr with
 | none=>
  rw[hk]at a;simp only at a;refine KC (λr u=>u=v7/\r=(bS x.fr addr).getD false) (λr u ⟨hu,F⟩=>?_) λJ N=>cF rfl (bL (p7.b.rM rfl ⟨x.fr,p7.f,N _ _ ⟨rfl,rfl⟩⟩));rw[hu];refine cP (λh=>?_) λh=>cF rfl ?_
  .rw[←F,h]at a;have:=h0 v7 (by rw[a];decide) E;rw[a]at this;exact this
  .rw[←F,h]at a;have:=h0 v7 (by rw[a];decide) E;rw[a]at this;exact this
 | some b=>
  rw[hk]at a d;simp only at a;have d:bY v7 C.size (fD b):=d;have K:gJ b:=(xi _ (YT hk)).2;refine KC (λr u=>u=v7/\r=false) (λr u ⟨hu,F⟩=>?_) λJ N=>cD rfl (N _ _ ⟨rfl,rfl⟩);rw[hu];refine cD F (cD rfl (d.rI rfl (d.rI rfl (d.rI rfl (d.rI rfl (d.rI rfl (Ad p7 b λv9 e9=>?_)))))));have D:=E.trans e9;have p9:=p.fr D;have j:=e9.bV d id;refine cP (λhl=>?_) λhl=>?_
  .rw[zC hl]at a;have:=h0 v9 (by rw[a];decide) D;rw[a]at this;exact this
  rw[zB (by rw[hl];decide)]at a;refine KC (λr u=>aF U u/\bY u C.size (fD b)/\r=(whole&&decide (0<(QR H.sp b).length))) (λr u ⟨G,A,F⟩=>?_) λJ N=>cP (λM=>?_) λM=>N _ _ ⟨D,j,by rw[M];rfl⟩
  .refine cP (λh=>?_) λh=>?_
   .rw[←F,zC h]at a;have:=h0 u (by rw[a];decide) G;rw[a]at this;exact this
   .rw[←F,zB (by rw[h];decide)]at a;have pu:=p.fr G;have zu:=G.1;have z1:=e1.1;refine A.rI rfl (A.rI rfl (A.rI rfl (A.rI rfl (A.rI rfl (EI pu gc K (-1234567) λu1 V P1 ef S Y=>?_)))));have nP:¬P C.size:=λhx=>by have:=(p.pP _ hx).2;omega
    have hb1:=ef.bV A nP;have zf:=ef.1;refine bL (S.b.rM rfl ⟨x.kn,S.m,λu2 o2 _ m2=>?_⟩);have o2:=o2 km rfl;have X:GP σ0 u2 L (dQ H b) held V P1 gb km fm ⟨cO x.kn addr,x.fr,x.no⟩:=S.eX (y:=⟨cO x.kn addr,x.fr,x.no⟩) (o2.ext.sub λc g=>.inr (.inl g)) (o2.ext.bV S.b p.n1) m2 (o2.ext.fX S.f λ(h:fm=km)=>p.n3 h.symm);refine bL (X.b.rM rfl ⟨fm,x.fr,rfl,X.f,λu3 B m3=>?_⟩);have W:GP σ0 u3 L (dQ H b) held V P1 gb km fm (x.gone addr):=X.eX (y:=x.gone addr) (B.ext.sub λc g=>.inr (.inr g)) (B.ext.bV X.b p.n2) (B.ext.fX X.m p.n3) m3;have hkm:=p.m.lt;have hfm:=p.f.lt;have hb3:=B.ext.bV (o2.ext.bV hb1 (show ¬C.size=km by omega)) (show ¬C.size=fm by omega);obtain⟨H',er,M,o,fe⟩:=Wgx W.hi thread b.2.2.1 (by have:=K.base;have:=K.m;have:=K.t;have:=K.z;have:=K.s;have:=YA (n:=b.2.1) O;unfold iN;omega);obtain⟨held',s0',hi'⟩:=o.hi;refine bL (W.b.rP rfl (hb3.fE rfl (Pq Co W.h W.cf.2.2 M λu4 ts e4 h4=>?_)));have p5:=W.step e4 h4 hi' o.kp;have z2:=o2.1;have z3:=B.1;have z4:=e4.1;refine h1 b u4 ts H' held' s0' _ er hk a M o fe ?_ p5 λc g=>?_
    .have E1:Ext (Mg P gb km fm) U u1:=(aF.to G).trans (ef.sub λc g=>.inl g);have E3:Ext (Mg P gb km fm) U u3:=(E1.trans (o2.ext.sub λc g=>.inr (.inr (.inl g)))).trans (B.ext.sub λc g=>.inr (.inr (.inr g)));exact Ext.dX E3 e4 λc g=>(Y c g).imp .inl λh=>by omega
    .rcases g.1 with g|g
     .exact(Y c g).imp id λh=>by omega
     .exact .inr O
  .refine j.rI rfl (j.rI rfl (j.rI rfl (j.rI rfl (j.rI rfl (EA p9 K λs u Q G hs hQ=>N _ _ ⟨D.trans G,G.bV j id,?_⟩)))));have:s.len=(QR H.sp b).length:=by have:=hs.1;simp[Wu]at this;omega
   rw[M,this,r8,kZ,decide_eq_true_iff,decide_eq_true_iff];omega
def k5 (H:Hw)(x:Gu)(addr:Int):Int:=match bS x.kn addr with
 | none=>8
 | some b=>if UL H b then 5 else 0
def vB (H:Hw)(x:Gu)(addr:Int):List Int:=match bS x.kn addr with
 | none=>[]
 | some b=>if UL H b then[]else QR H.sp b
set_option maxRecDepth 16000 in
theorem EU (p:GP σ0 U L H held s0 P gb km fm x)(xi:∀e∈x.kn,e.1=e.2.1/\gJ e.2)(addr:Int){R:Sl->Int->Hp->Prop}
 (hR:∀s w Q,aF U w->bU s 1 (Wu (vB H x addr)) w Q->(∀c,Q c->U.size<=c/\c<w.size)->R s (k5 H x addr) w):X7.c (aW gb) addr U R:=by
 refine X7.o ?_;unfold X7.v;refine Uy p (cD rfl (bL (p.b.rM rfl ⟨x.kn,p.m,?_⟩)));refine nw (cs:=[.int .i64 0,.int .i64 0,.int .i64 0,.int .i64 0,.int .i64 0]) λS N e2 M=>M.s1 aA λv3 o3 K=>K.s1 aA λv4 o4 b4=>b4.s1 aA λY o5 E=>E.s1 aA λZ o6 z=>z.s1 aA λv7 o7 F=>?_;have A:Ext (· = U.size) S v7:=(((o3.ext.trans o4.ext).trans o5.ext).trans o6.ext).trans o7.ext;have r:aF U v7:=Ext.fresh e2 A λi (hi:i=U.size)=>by omega
 have G:=p.fr r;have a:bY v7 U.size (fD ((bS x.kn addr).getD (0,0,0,0,0))):=F;have nil:∀w,bU ⟨none,0,0⟩ 1 (Wu []) w (λ_=>False):=λw=>⟨rfl,.inl ⟨rfl,rfl⟩⟩;unfold k5 vB at hR;cases hk:bS x.kn addr with
 | none=>
  rw[hk]at hR;exact cF rfl (hR _ v7 _ r (nil _) λc h=>h.elim)
 | some b=>
  rw[hk]at a hR;simp only at hR;have a:bY v7 U.size (fD b):=a;have X:gJ b:=(xi _ (YT hk)).2;refine cD rfl (a.rI rfl (a.rI rfl (a.rI rfl (a.rI rfl (a.rI rfl (Ad G b λJ y=>?_))))));have g:=r.trans y;have D:=p.fr g;have d:=y.bV a id;refine cP (λj=>?_) λj=>?_
  .rw[j]at hR;exact hR _ J _ g (nil _) λc h=>h.elim
  .rw[j]at hR;refine d.rI rfl (d.rI rfl (d.rI rfl (d.rI rfl (d.rI rfl (EA D X λs u Q W B C=>?_)))));have:=g.1;exact hR s u Q (g.trans W) B λc V=>by have:=C c V;omega
def LV (H:Hw)(e:Int×B5):List Int:=if UL H e.2 then[]else QR H.sp e.2
def F5 (H:Hw)(x:Gu):List Int:=x.kn.flatMap (LV H)
end Go.Ar
namespace Go.Proofs
open Go.Shelf
end Go.Proofs
namespace Go.Ar
open Go Go.Vc Go.Proofs Go.RowKit Go.Maps Go.Sort Go.Shelf
open Go.Vc (bS cX cO)
open Go.Bu (lp HO Uj HR VM Au)
variable {U w w':Hp}{F P Q X S:Rg}{L:dE}{H H':Hw}{held:List Pc}{s0 sp:Sp}{t n:Nat}{g:Th}{σ0:Hp}
def kE (b:Bk):List Value:=[.int .i64 b.1,.int .i64 b.2.1,.int .i64 b.2.2.1,.int .i64 b.2.2.2]
def jt (bs:List Bk):List Value:=bs.flatMap kE
theorem CP (bs:List Bk):(jt bs).length=bs.length*4:=by
 unfold jt
 induction bs with
 | nil=>rfl
 | cons b bs ih=>rw[pT,zM,ih];simp[kE];omega
theorem Dw:∀{bs:List Bk} {i:Nat} {b:Bk},bs[i]?=some b->∀{j:Nat} {v:Value},(kE b)[j]?=some v->(jt bs)[4*i+j]?=some v
 | [],i,b,h,_,_,_=>by simp at h
 | a::bs,0,b,h,j,v,hv=>by
  simp only[yH,Option.some.injEq]at h;subst h;have hj:=(cY.1 hv).1;show(kE a++jt bs)[4*0+j]?=_;rw[show 4*0+j=j by omega,zd hj];exact hv
 | a::bs,i+1,b,h,j,v,hv=>by
  have d:=Dw (bs:=bs) (i:=i) (b:=b) (by simpa using h) hv;show(kE a++jt bs)[4*(i+1)+j]?=_;rw[zp (by simp[kE];omega)];have:4*(i+1)+j-(kE a).length=4*i+j:=by simp[kE];omega
  rw[this];exact d
theorem cV.uC {B:Nat}{s:Sl}{xs:List Value}(h:lp B U s xs):cV s 1 xs U (λb=>B<=b):=by
 refine⟨by have:=h.1;omega,?_⟩;rcases h.2 with⟨h0,_⟩|⟨b,cs,hb,ha,hk,hc⟩
 .exact .inl h0
 .exact .inr ⟨b,0,cs,hb,ha,hk.q,λj a=>by rw[zH];exact hc j a⟩
theorem Ct {s:Sl}{bs:List Bk}(hs:cV s 4 (jt bs) U F){i:Nat}{b:Bk}(hb:bs[i]?=some b){K:Addr->Prop}(hK:∀bb o,(∀(j:Nat) v,(kE b)[j]?=some v->cell U ⟨bb,o+j,none⟩=some v)->K ⟨bb,o,none⟩):Ix s.a s.len (i:Int) 4 K:=by
 have m:=(cY.1 hb).1;have x:s.len=bs.length:=by have:=hs.1;rw[CP]at this;omega
 obtain⟨bb,o,g,w⟩:=hs.cell (Dw hb (j:=0) rfl);rw[g];refine ix O O ?_;rw[add_lit,dH];refine hK bb _ λj v p=>?_;obtain⟨y,u,d,r⟩:=hs.cell (Dw hb p);rw[g]at d;cases d;rw[←r];congr 2;omega
end Go.Ar
namespace Go.Proofs
open Go.Shelf
def Tryz.ik:Go.Shelf.Ren:=⟨fun|7=>67|10=>113|n=>n,fun|23=>72|26=>3|3=>106|28=>116|0=>0|27=>115|33=>118|4=>4|n=>n,fun|n=>n⟩
theorem Tryz.lA:Go.Proofs.SlLaysZI.n7 Tryz.prog Tryz.ik:={
 mixed:=by kernel_rfl
 f7:=⟨Tryz.f67.name,by decide,Tryz.func67.trans (congrArg some (by kernel_rfl))⟩
 f10:=⟨Tryz.f113.name,by decide,Tryz.func113.trans (congrArg some (by kernel_rfl))⟩
 t0:=Tryz.underlying0
 a0:=Tryz.isAgg0
 z0:=Tryz.sizeOf0
 v0:=Tryz.zeroValue0
 t4:=Tryz.underlying4
 a4:=Tryz.isAgg4
 z4:=Tryz.sizeOf4
 v4:=Tryz.zeroValue4
 t23:=Tryz.underlying72
 a23:=Tryz.isAgg72
 z23:=Tryz.sizeOf72
 v23:=Tryz.zeroValue72
 t26:=Tryz.underlying3
 a26:=Tryz.isAgg3
 z26:=Tryz.sizeOf3
 v26:=Tryz.zeroValue3
 t27:=Tryz.underlying115
 a27:=Tryz.isAgg115
 z27:=Tryz.sizeOf115
 v27:=Tryz.zeroValue115
 t28:=Tryz.underlying116
 a28:=Tryz.isAgg116
 z28:=Tryz.sizeOf116
 v28:=Tryz.zeroValue116
 t33:=Tryz.underlying118
 a33:=Tryz.isAgg118
 z33:=Tryz.sizeOf118
 v33:=Tryz.zeroValue118}
end Go.Proofs
namespace Go.Proofs
open Go.Vc
set_option maxRecDepth 100000
def Xw.h:Hn:=.q .o1 (.q (.q .o5 .aK) (.q (.q .o1 (.k (.loop [(5,.I)] (.q (.q .o4 (.c .l .l)) (.q (.k (.q (.oq 9) .aK)) .o3))))) .aM))
def Xw.v (a b:Sl)(c:Hp)(d:aO):Prop:=If (((a.len:Nat):Int) != ((b.len:Nat):Int)) (d false c) (X9 [bO] (λe=>e 0 c) λf (g:Int) h=>If (g<((a.len:Nat):Int)) (Ix a.a a.len g 1 λi=>bN i h λj=>Ix b.a b.len g 1 λk=>bN k h λl=>If (j != l) (d false h) (bM (g+1) λm=>f m h)) (d true h))
theorem Xw.o {a b c d}(e:Xw.v a b c d):Xw.c a b c d:=Wa Tryz.func19 (x:=Xw.h) (R0 e)
end Go.Proofs
namespace Go.Ar
open Go Go.Vc Go.Proofs Go.RowKit Go.Maps Go.Sort Go.Shelf
open Go.Vc (bS cX cO)
open Go.Bu (lp HO Uj HR VM Au)
variable {size align:Int}{U σ0 v w w':Hp}{F P Q X T:Rg}{L:dE}{H H' H1:Hw}{held:List Pc}{s0 sp:Sp}{t n:Nat}{g:Th}{gb km fm m:Nat}{x y:Gu}{b:B5}
theorem Ce {k:IntKind}{c:CK}{l:List (Int×c.T)}{r:Nat}{a a':CK}{x0:a.T}{y0:a'.T}{A:a.T->a'.T->Hp->Prop}{body:Int->c.T->a.T->a'.T->Hp->(a.T->a'.T->Hp->Prop)->Prop}(hm:dM U r k c l)(I:List (Int×c.T)->a.T->a'.T->Hp->Prop)
 (h0:∀v,v.size=U.size+1->aF U v->I l x0 y0 v)
 (hend:∀z y v,I [] z y v->A z y v)
 (hstep:∀todo n x z y v v' (J:a.T->a'.T->Hp->Prop),I todo z y v->(n,x)∈todo->Ka v v' U.size->U.size<v.size->(∀z' y' w,w[U.size]?=v'[U.size]?->w[r]?=v'[r]?->I (todo.filter λy=>!(y.1==n)) z' y' w->J z' y' w)->body n x z y v' J) :
 pF k c (some r) U λit v3=>X9 [a,a'] (λI=>I x0 y0 v3) λJ1 z y v4=>pE k c it v4 (A z y v4) λ_ _ v5=>po k c it v5 λkey1 val1=>body key1 val1 z y v5 J1:=by
 refine⟨l,hm,λv N K hi=>?_⟩;have Q:aF U v:=⟨O,λb B _=>K b B⟩;refine UJ (a:=a) (bb:=a') (λz y w=>∃todo g,It w U.size k c (some r) l todo g/\I todo z y w/\U.size<w.size) (λ_ _ w=>yn w U.size r) ⟨l,none,hi,h0 v N Q,O⟩ ?_;rintro z y w ⟨todo,g,i,D,m⟩;refine⟨rfl,some r,l,todo,g,i,λL=>?_,λn x E M P j=>?_⟩
 .subst L;exact hend z y w D
 .refine⟨rfl,some r,l,_,n,x,j,hstep todo n x z y w M _ D E P m λz' y' u C s p=>?_⟩;have d:=j.bT C s;refine⟨⟨_,_,d,p,?_⟩,?_⟩
  .obtain⟨R,G,F,H,_⟩:=d;exact(jT.1 H).1
  .rw[d.num,i.num];exact D5.2 ⟨(n,x),E,by simp⟩
def l3 (ofV:B5->Int)(addr:Int)(b:B5):Prop:=b.1<=addr/\addr<b.1+ofV b
instance (ofV:B5->Int) (addr:Int) (b:B5):Decidable (l3 ofV addr b):=by unfold l3;infer_instance
set_option maxRecDepth 16000 in
theorem LH (p:GP σ0 U L H held s0 P gb km fm x)(xi:∀e∈x.kn,e.1=e.2.1/\gJ e.2)(addr:Int){ofv:Fv}{ofV:B5->Int}(hov:∀b,gJ b->0<=ofV b/\ofV b<=100000)
 (hof:∀(b:B5) (u:Hp) (K:aN),gJ b->(∀u',aF u u'->K (ofV b) u')->VP Tryz.prog ofv [.agg #[.int .i64 b.1,.int .i64 b.2.1,.int .i64 b.2.2.1,.int .i64 b.2.2.2.1,.int .i64 b.2.2.2.2]] [.one bO] u K)
 {R:Int->Int->Int->Int->Int->Bool->Hp->Prop}
 (h0:∀(b:B5) w,aF U w->(∀e∈x.kn,¬l3 ofV addr e.2)->R b.1 b.2.1 b.2.2.1 b.2.2.2.1 b.2.2.2.2 false w)
 (h1:∀e w,aF U w->e∈x.kn->l3 ofV addr e.2->R e.2.1 e.2.2.1 e.2.2.2.1 e.2.2.2.2.1 e.2.2.2.2.2 true w) :
 Zy.c (aW gb) addr ofv U R:=by
 refine Zy.o ?_;unfold Zy.v;refine nw (cs:=fD (0,0,0,0,0)) λv hz e b6=>nw (cs:=fD (0,0,0,0,0)) λv1 hz1 e1 b8=>?_;have e01:=e.trans e1;have p1:=p.fr e01;refine bL (p1.b.rM rfl ?_);refine Ce (a:=.b) (a':=.b) p1.m (λj (d D:Bool) u=>aF U u/\v1.size<u.size/\bY u U.size (fD (0,0,0,0,0))/\(∀e∈j,e∈x.kn)/\∃iR:B5,bY u v.size (fD iR)/\(d=false->∀e∈x.kn,e∈j\/¬l3 ofV addr e.2)/\(d=true->∃e∈x.kn,e.2=iR/\l3 ofV addr e.2))
  (λu hu eu=>⟨e01.trans eu,O,eu.bV (e1.bV b6 id) id,λe F=>F,(0,0,0,0,0),eu.bV b8 id,λ_ e F=>.inl F,λh=>by cases h⟩) ?_ ?_
 .rintro(d:Bool) (D:Bool) u ⟨eu,hlt,hb6,_,iR,C,hf0,hf1⟩;refine C.rI rfl (C.rI rfl (C.rI rfl (C.rI rfl (C.rI rfl ?_))));refine hb6.s1 (by simp[fD]) λv3 o3 b3=>b3.s1 (by simp[fD]) λv4 o4 b4=>b4.s1 (by simp[fD]) λv5 o5 b5=>b5.s1 (by simp[fD]) λv6 o6 b6=>b6.s1 (by simp[fD]) λv7 o7 b7=>?_;have eo:Ext (· = U.size) u v7:=(((o3.ext.trans o4.ext).trans o5.ext).trans o6.ext).trans o7.ext;have e7:aF U v7:=Ext.fresh eu eo λi (hi:i=U.size)=>by omega
  have A:bY v7 U.size (fD iR):=b7;refine A.rI rfl (A.rI rfl (A.rI rfl (A.rI rfl (A.rI rfl ?_))));cases d with
  | false=>exact h0 iR v7 e7 λe F=>(hf0 rfl e F).resolve_left aA
  | true=>
   obtain⟨e,F,rfl,G⟩:=hf1 rfl;exact h1 e v7 e7 F G
 .rintro j k (b:B5) (d:Bool) (D:Bool) u u' J ⟨eu,hlt,hb6,E,iR,C,hf0,hf1⟩ N o1 hs1 hJ;have bi:gJ b:=(xi _ (E _ N)).2;have ov:=hov b bi;have zu:=eu.1;have hz':=o1.1;have hbm:=bi.m;have hbz:=bi.z;have hbb:=bi.base;have hbt:=bi.t;have hbs:=bi.s;have hww:=YA (n:=b.2.1) O;have eu':aF U u':=Ext.fresh eu o1.ext λc (hc:c=v1.size)=>by omega
  have Z:=o1.ext.bV hb6 (show ¬U.size=v1.size by omega);have X:=o1.ext.bV C (show ¬v.size=v1.size by omega);have hkm:=p.m.lt;refine nw (cs:=fD (0,0,0,0,0)) λv2 hz2 e2 b2=>b2.s1 (by simp[fD]) λv3 o3 b3=>b3.s1 (by simp[fD]) λv4 o4 b4=>b4.s1 (by simp[fD]) λv5 o5 b5=>b5.s1 (by simp[fD]) λv6 o6 b6=>b6.s1 (by simp[fD]) λv7 o7 b7=>?_;have eo:Ext (· = u'.size) v2 v7:=(((o3.ext.trans o4.ext).trans o5.ext).trans o6.ext).trans o7.ext;have e7:aF u' v7:=Ext.fresh e2 eo λi (hi:i=u'.size)=>by omega
  have A:bY v7 u'.size (fD b):=b7;have V:∀{w:Hp},aF u' w->w[v1.size]?=u'[v1.size]?/\w[km]?=u'[km]? := λe=>⟨e.2 _ O id,e.2 _ O id⟩;have Q:∀e∈j.filter (λy=>!(y.1==k)),e∈x.kn:=λe F=>E e (zK.1 F).1;have hkb:∀e∈x.kn,e∈j->e∈j.filter (λy=>!(y.1==k))\/e=(k,b):=λe F ht=>by
   by_cases hk:e.1=k
   .right;have h1:=Qd p.m.nodup (show(e.1,e.2)∈x.kn from F);have h2:=Qd p.m.nodup (E _ N);rw[hk,h2]at h1;exact Prod.ext hk (Option.some.inj h1).symm
   .exact .inl (zK.2 ⟨ht,by simpa using hk⟩)
  have same:∀w,aF u' w->(d=false->¬l3 ofV addr b)->J d D w:=λw ew hnb=>by
   have zw:=ew.1;refine hJ d D w (V ew).1 (V ew).2 ⟨eu'.trans ew,O,ew.bV Z id,Q,iR,ew.bV X id,λB e F=>?_,hf1⟩;rcases hf0 B e F with h|h
   .rcases hkb e F h with h|rfl
    .exact .inl h
    .exact .inr (hnb B)
   .exact .inr h
  refine AY (λr u2=>aF u' u2/\bY u2 u'.size (fD b)/\r = !decide (l3 ofV addr b)) (λr u2 ⟨eu2,M,hr⟩=>?_) λJ1 hJ1=>?_
  .by_cases G:l3 ofV addr b
   .refine cD (by rw[hr,zI G];rfl) ?_;have pu:=(p.fr eu').fr eu2;refine M.rI rfl (M.rI rfl (M.rI rfl (M.rI rfl (M.rI rfl (Ad pu b λW e17=>?_)))));have E17:=eu2.trans e17;have g:=e17.bV M id;have h617:=E17.bV Z id;have Y:=E17.bV X id;refine KC (λr u3=>u3=W/\(d=false->r=true)) (λr u3 ⟨hu3,hr3⟩=>?_) λJ2 hJ2=>?_
    .rw[hu3];refine KC (λr1 u4=>u4=W/\(d=false->r1=true)) (λr1 u4 ⟨hu4,hr4⟩=>?_) λJ3 hJ3=>?_
     .rw[hu4];refine cP (λh1=>?_) λh1=>same W E17 λB=>by rw[hr4 B]at h1;cases h1
      refine g.rI rfl (g.rI rfl (g.rI rfl (g.rI rfl (g.rI rfl ?_))));refine Y.s1 (by simp[fD]) λw3 q3 c3=>c3.s1 (by simp[fD]) λw4 q4 c4=>c4.s1 (by simp[fD]) λw5 q5 c5=>c5.s1 (by simp[fD]) λw6 q6 c6=>c6.s1 (by simp[fD]) λw7 q7 c7=>?_;have qo:Ext (· = v.size) W w7:=(((q3.ext.trans q4.ext).trans q5.ext).trans q6.ext).trans q7.ext;have c7':bY w7 v.size (fD b):=c7;have z17:=E17.1;have zq:=qo.1;refine hJ true _ w7 ?_ ?_ ⟨Ext.fresh (eu'.trans E17) qo λc (hc:c=v.size)=>O,O,qo.bV h617 (show ¬U.size=v.size by omega),Q,b,c7',λh=>(by cases h),λ_=>⟨(k,b),E _ N,rfl,G⟩⟩
      .rw[qo.2 _ O (show ¬v1.size=v.size by omega)];exact(V E17).1
      .rw[qo.2 _ O (show ¬km=v.size by omega)];exact(V E17).2
     .refine cP (λh=>hJ3 _ _ ⟨rfl,λ_=>rfl⟩) λh=>?_;have S:¬d=false:=λB=>by rw[hr3 B]at h;cases h
      exact bX.intro (cP (λ_=>g.rI rfl (Y.rI rfl (hJ3 _ _ ⟨rfl,λB=>(S B).elim⟩))) λ_=>hJ3 _ _ ⟨rfl,λB=>(S B).elim⟩)
    .refine cP (λh=>hJ2 _ _ ⟨rfl,λ_=>rfl⟩) λh=>?_;have S:¬d=false:=λB=>by rw[B]at h;cases h
     exact bX.intro (cP (λ_=>hJ2 _ _ ⟨rfl,λB=>(S B).elim⟩) λ_=>hJ2 _ _ ⟨rfl,λB=>(S B).elim⟩)
   .exact cF (by rw[hr,zL G];rfl) (same u2 eu2 λ_=>G)
  .have hS:∀m,aF v7 m->bY m u'.size (fD b):=λm e=>e.bV A id;refine⟨λm=>aF v7 m,Ext.refl _ _,qn (c:=bO) (y:=b.1) hS rfl (cN (λh=>hJ1 _ _ ⟨e7,A,?_⟩) λh=>?_)⟩
   .rw[zL];rfl;rintro⟨h1,_⟩;exact absurd h O
   .refine qn (c:=bO) (y:=b.1) hS rfl (gN (c:=bO) (y:=b.1) hS rfl (gN (c:=bO) (y:=b.2.1) hS rfl (gN (c:=bO) (y:=b.2.2.1) hS rfl (gN (c:=bO) (y:=b.2.2.2.1) hS rfl (gN (c:=bO) (y:=b.2.2.2.2) hS rfl (hof b v7 _ bi λu3 e3=>⟨e3,ar O O (hJ1 _ _ ⟨e7.trans e3,e3.bV A id,?_⟩)⟩))))));rw[kZ,mJ,decide_eq_true_iff,decide_eq_false_iff_not];unfold l3;omega
theorem Rt (b:B5)(u:Hp)(K:aN)(bi:gJ b)(hK:∀u',aF u u'->K (ZC b.2.1) u'):VP Tryz.prog ⟨98,#[],#[]⟩ [.agg #[.int .i64 b.1,.int .i64 b.2.1,.int .i64 b.2.2.1,.int .i64 b.2.2.2.1,.int .i64 b.2.2.2.2]] [.one bO] u K:=by
 have:=bi.s;refine Gn (all := #[.agg #[.int .i64 b.1,.int .i64 b.2.1,.int .i64 b.2.2.1,.int .i64 b.2.2.2.1,.int .i64 b.2.2.2.2]]) (by kernel_rfl) aA ?_;exact H7 b O O hK
theorem R5 (b:B5)(u:Hp)(K:aN)(bi:gJ b)(hK:∀u',aF u u'->K b.2.1 u'):VP Tryz.prog ⟨60,#[],#[]⟩ [.agg #[.int .i64 b.1,.int .i64 b.2.1,.int .i64 b.2.2.1,.int .i64 b.2.2.2.1,.int .i64 b.2.2.2.2]] [.one bO] u K:=by
 refine Gn (all := #[.agg #[.int .i64 b.1,.int .i64 b.2.1,.int .i64 b.2.2.1,.int .i64 b.2.2.2.1,.int .i64 b.2.2.2.2]]) (by kernel_rfl) aA ?_;refine Y4.o ?_;unfold Y4.v;exact nw (cs:=fD b) λv d e a=>a.fE rfl (hK v e)
def LU (addr:Int)(b:B5):Prop:=l3 (λb=>ZC b.2.1) addr b
def FP (addr:Int)(b:B5):Prop:=l3 (λb=>b.2.1) addr b
def qh (H:Hw)(x:Gu)(addr e:Int):Prop:=(e=7/\((∀k∈x.kn,¬LU addr k.2)\/addr%8≠0))\/(∃k∈x.kn,LU addr k.2/\addr%8=0/\e=if UL H k.2 then 5 else 0)
set_option maxRecDepth 16000 in
theorem FJ (p:GP σ0 U L H held s0 P gb km fm x)(xi:∀e∈x.kn,e.1=e.2.1/\gJ e.2)(addr:Int){R:aN}(hR:∀e w,aF U w->qh H x addr e->R e w):Yo.c (aW gb) addr U R:=by
 refine Yo.o ?_;unfold Yo.v;have D:∀b,gJ b->0<=ZC b.2.1/\ZC b.2.1<=100000:=λb A=>by have:=A.s;have:=YA (n:=b.2.1) O;omega
 have box:∀{ty:Nat} {w:Hp} {B S C F Q:Int} {K:Addr->Hp->Prop},(∀d,aF w d->bY d w.size (fD (B,S,C,F,Q))->K ⟨w.size,0,none⟩ d) →
  Nw (.cells #[.int .i64 0,.int .i64 0,.int .i64 0,.int .i64 0,.int .i64 0] ty (0,0)) w λm v2=>dG (m.add 0) (.int .i64 B) v2 λv3=>dG (m.add 1) (.int .i64 S) v3 λY=>dG (m.add 2) (.int .i64 C) Y λZ=>dG (m.add 3) (.int .i64 F) Z λV=>dG (m.add 4) (.int .i64 Q) V λv7=>K m v7:=λ{ty w B S C F Q K} hK=>
  nw (cs:=fD (0,0,0,0,0)) λv2 hz2 e2 b2=>b2.s1 (by simp[fD]) λv3 o3 b3=>b3.s1 (by simp[fD]) λY o4 b4=>b4.s1 (by simp[fD]) λZ o5 b5=>b5.s1 (by simp[fD]) λV o6 b6=>b6.s1 (by simp[fD]) λv7 o7 g=>
   hK v7 (Ext.fresh e2 ((((o3.ext.trans o4.ext).trans o5.ext).trans o6.ext).trans o7.ext) λi (hi:i=w.size)=>O) g
 refine Uy p (cD rfl (LH p xi addr D Rt (λb w G hn=>?_) λk w G M j=>?_))
 .refine box λd E g=>bX.intro (cF rfl (cF rfl (hR 7 d (G.trans E) (.inl ⟨rfl,.inl hn⟩))))
 .refine box λd E g=>?_;have A:gJ k.2:=(xi _ M).2;have h0:0<=addr:=by have:=j.1;have:=A.z;have:=A.base;omega
  have a:=G.trans E;refine KC (λr u=>u=d/\r=decide (addr%8≠0)) (λr u ⟨hu,hr⟩=>?_) λJ hJ=>cD rfl (nz aB (hJ _ _ ⟨rfl,?_⟩))
  .rw[hu];by_cases h8:addr%8≠0
   .exact cF (by rw[hr];exact zI h8) (hR 7 d a (.inl ⟨rfl,.inr h8⟩))
   .refine cD (by rw[hr];exact zL h8) (g.rI rfl (g.rI rfl (g.rI rfl (g.rI rfl (g.rI rfl (Ad (p.fr a) k.2 λW X=>?_))))));have y:addr%8=0:=O
    refine cP (λN=>hR 5 W (a.trans X) (.inr ⟨k,M,j,y,by rw[N];rfl⟩)) λN=>hR 0 W (a.trans X) (.inr ⟨k,M,j,y,by rw[N];rfl⟩)
  .rw[Ki h0];by_cases h8:addr%8=0
   .rw[h8];decide
   .rw[zI h8];simpa using h8
theorem R4 (p:GP σ0 U L H held s0 P gb km fm x)(xi:∀e∈x.kn,e.1=e.2.1/\gJ e.2)(addr:Int)(ha:addr<=9223372036854775807){R:Int->Int->Hp->Prop}(h0:∀e w,e≠0->aF U w->qh H x addr e->R 0 e w)(h1:∀w,aF U w->qh H x addr 0->R (Q0 H.sp addr) (eP H.sp addr) w):Zj.c (aW gb) addr U R:=by
 refine Zj.o ?_;unfold Zj.v;refine FJ p xi addr λe w d j=>cP (λa=>h0 e w (by simpa using a) d j) λg=>?_;have m:e=0:=by simpa using g
 subst m;have i:=p.fr d;exact bL (i.b.rP rfl (CV i.h addr ha λr e2=>h1 r (d.trans e2) j))
theorem T1 (p:GP σ0 U L H held s0 P gb km fm x)(gc:Gc σ0)(xi:∀e∈x.kn,e.1=e.2.1/\gJ e.2)(addr u:Int)(ha:addr<=9223372036854775807){R:aN}(h0:∀e w,e≠0->aF U w->qh H x addr e->R e w)
 (h1:∀w s0' P',qh H x addr 0->Ext P U w->GP σ0 w L {H with sp:=ZJ H.sp addr u} held s0' P' gb km fm x->(∀c,P' c->P c\/U.size<=c)->R (eP H.sp addr) w):YI.c (aW gb) addr u U R:=by
 refine YI.o ?_;unfold YI.v;refine FJ p xi addr λe w a m=>cP (λd=>h0 e w (by simpa using d) a m) λg=>?_;have y:e=0:=by simpa using g
 subst y;have j:=p.fr a;have A:=a.1;exact bL (j.b.rP rfl (j.write gc addr u ha λz s2 P2 e2 r i=>h1 z s2 P2 m ((aF.to a).trans e2) r λc s=>(i c s).imp id λh=>O))
set_option maxRecDepth 16000 in
theorem Wla (p:GP σ0 U L H held s0 P gb km fm x)(xi:∀e∈x.kn,e.1=e.2.1/\gJ e.2)(addr:Int){R:Int->Int->Int->Int->Int->Hp->Prop}(h0:∀w,aF U w->(∀k∈x.kn,¬FP addr k.2)->R 0 0 0 0 8 w)(h1:∀k w,aF U w->k∈x.kn->FP addr k.2->R k.2.1 k.2.2.1 k.2.2.2.1 k.2.2.2.2.1 0 w):Xa.c (aW gb) addr U R:=by
 refine Xa.o ?_;unfold Xa.v;have N:∀b,gJ b->0<=b.2.1/\b.2.1<=100000:=λb bi=>by have:=bi.s;omega
 refine nw (cs:=[.int .i64 0,.int .i64 0,.int .i64 0,.int .i64 0]) λv hz e b4=>?_;have j:∀{w:Hp} {a b c d:Int} {K:Int->Int->Int->Int->Hp->Prop},aF U w->bY w U.size [.int .i64 0,.int .i64 0,.int .i64 0,.int .i64 0]->(∀g,aF U g->K a b c d g) →
  dG (Addr.add ⟨U.size,0,none⟩ 0) (.int .i64 a) w λv7=>dG (Addr.add ⟨U.size,0,none⟩ 1) (.int .i64 b) v7 λv8=>dG (Addr.add ⟨U.size,0,none⟩ 2) (.int .i64 c) v8 λv9=>dG (Addr.add ⟨U.size,0,none⟩ 3) (.int .i64 d) v9 λv10=>
  gL .i64 (Addr.add ⟨U.size,0,none⟩ 0) v10 λr0=>gL .i64 (Addr.add ⟨U.size,0,none⟩ 1) v10 λr1=>gL .i64 (Addr.add ⟨U.size,0,none⟩ 2) v10 λr2=>gL .i64 (Addr.add ⟨U.size,0,none⟩ 3) v10 λr3=>K r0 r1 r2 r3 v10:=λr G F=>
  G.s1 aA λv1 o1 b1=>b1.s1 aA λJ o2 E=>E.s1 aA λv3 o3 D=>D.s1 aA λA o4 b4=>b4.rI rfl (b4.rI rfl (b4.rI rfl (b4.rI rfl (F A ((((r.only o1 (.inr (zD _))).only o2 (.inr (zD _))).only o3 (.inr (zD _))).only o4 (.inr (zD _)))))))
 have box:∀{ty:Nat} {w:Hp} {B W M Q V:Int} {K:Addr->Hp->Prop},(∀y,aF w y->bY y w.size (fD (B,W,M,Q,V))->K ⟨w.size,0,none⟩ y) →
  Nw (.cells #[.int .i64 0,.int .i64 0,.int .i64 0,.int .i64 0,.int .i64 0] ty (0,0)) w λu J=>dG (u.add 0) (.int .i64 B) J λv3=>dG (u.add 1) (.int .i64 W) v3 λA=>dG (u.add 2) (.int .i64 M) A λY=>dG (u.add 3) (.int .i64 Q) Y λX=>dG (u.add 4) (.int .i64 V) X λv7=>K u v7:=λ{ty w B W M Q V K} F=>
  nw (cs:=fD (0,0,0,0,0)) λJ hz2 e2 E=>E.s1 (by simp[fD]) λv3 o3 D=>D.s1 (by simp[fD]) λA o4 b4=>b4.s1 (by simp[fD]) λY o5 b5=>b5.s1 (by simp[fD]) λX o6 b6=>b6.s1 (by simp[fD]) λv7 o7 m=>
   F v7 (Ext.fresh e2 ((((o3.ext.trans o4.ext).trans o5.ext).trans o6.ext).trans o7.ext) λi (hi:i=w.size)=>O) m
 have Z:=p.fr e;refine Uy Z (cD rfl (LH Z xi addr N R5 (λb w r hn=>?_) λk w r hk C=>?_))
 .refine box λy z m=>cF rfl (j (K:=λa b c d g=>R a b c d 8 g) ((e.trans r).trans z) ((r.trans z).bV b4 id) λg S=>h0 g S hn)
 .refine box λy z m=>cD rfl (m.fE rfl (m.fE rfl (m.fE rfl (m.fE rfl ?_))));exact j (K:=λa b c d g=>R a b c d 0 g) ((e.trans r).trans z) ((r.trans z).bV b4 id) λg S=>h1 k g S hk C
theorem AS (p:GP σ0 U L H held s0 P gb km fm x){R:Option Addr->Hp->Prop}(hR:R (some ⟨L.p,0,none⟩) U):XG.c (aW gb) U R:=by
 refine XG.o ?_;unfold XG.v;exact Uy p (cD rfl (bL (p.b.rP rfl hR)))
end Go.Ar
namespace Go.Ar
open Go Go.Vc Go.Proofs
open Go.Vc (bS cX cO)
variable {size align:Int}{U σ0 v w w':Hp}{F P Q X T:Rg}{L:dE}{H H' H1:Hw}{held:List Pc}{s0 sp:Sp}{t n:Nat}{g:Th}{gb km fm m:Nat}{x y:Gu}{b:B5}
theorem iJ.wQ {n m:Nat}{H H1 H2:Hw}{t:Nat}{p:Ph}{a1 e1 a2 e2:Int}(h:iJ n H t p H1 a1 e1)(h':iJ m H t p H2 a2 e2):H1=H2/\a1=a2/\e1=e2:=by
 induction h generalizing m with
 | done h1 h2=>
  cases h' with
  | done=>exact⟨rfl,rfl,rfl⟩
  | next _ h3 _=>rw[h2]at h3;cases h3
 | next h1 h2 _ ih=>
  cases h' with
  | done _ h3=>rw[h2]at h3;cases h3
  | next _ h3 h4=>rw[h2]at h3;cases h3;exact ih h4
theorem KO.wQ {thread kind size align addr a1 e1 a2 e2:Int}{H1 H2:Hw}(h:KO H thread kind size align addr H1 a1 e1)(h':KO H thread kind size align addr H2 a2 e2):H1=H2/\a1=a2/\e1=e2:=by
 rcases h with⟨h1,_,rfl,rfl⟩|⟨t,p,n,h1,h2⟩
 .rcases h' with⟨g1,_,rfl,rfl⟩|⟨_,_,_,g1,_⟩
  .rw[h1]at g1;cases g1;exact⟨rfl,rfl,rfl⟩
  .rw[h1]at g1;cases g1
 .rcases h' with⟨g1,_⟩|⟨_,_,_,g1,g2⟩
  .rw[h1]at g1;cases g1
  .rw[h1]at g1;cases g1;exact h2.wQ g2
theorem Tf:uQ w0 64:=by
 have h:=FB (xs:=rE 8) (p:=64) (a:=1) (t:=1) (b:=1024) (r:=2) (Gm 8 aB aB) aB;rw[yh]at h;exact h
theorem PZ {a:Option Addr}{thread addr:Int}{R:aN}(h:XU.c a thread addr true U R):Zf.c a thread addr U R:=Zf.o (by unfold Zf.v;exact h)
theorem UX (H:Hw)(thread:Int):UH H thread=if 0<=thread/\thread<(H.bR.length:Int)then fG H thread.toNat else none:=by
 unfold UH fG;split
 .cases H.bR[thread.toNat]?<;>rfl
 .rfl
theorem SE (o:fV H H')(thread:Int):ZI H' thread=ZI H thread:=by
 unfold ZI;rw[UX,UX,o.kp.2.1,o.kp.2.2.1,o.ph]
theorem Du {a b:Sl}{xs ys:List Int}{G:Rg}(ha:cV a 1 (Wu xs) U F)(hb:cV b 1 (Wu ys) U G)(hl:xs.length<=1000000000){R:aO}(hR:R (decide (xs=ys)) U):Xw.c a b U R:=by
 refine Xw.o ?_;unfold Xw.v;have A:a.len=xs.length:=by have:=ha.1;simp[Wu]at this;omega
 have B:b.len=ys.length:=by have:=hb.1;simp[Wu]at this;omega
 rw[A,B,rX];refine cP (λu=>?_) λu=>?_
 .have d:xs.length≠ys.length:=by simpa using u
  rw[zL λe=>d (by rw[e])]at hR;exact hR
 have J:xs.length=ys.length:=by simpa using u
 refine Qg (a:=bO) (λ(t:Int) v=>∃i:Nat,t=(i:Int)/\i<=xs.length/\v=U/\xs.take i=ys.take i) (λt _=>xs.length-t.toNat) ⟨0,rfl,O,rfl,rfl⟩ ?_;rintro t v ⟨i,rfl,hi,rfl,g⟩;refine cN (λC=>?_) λD=>?_
 .have w:i<xs.length:=O
  have j:xs[i]?=some xs[i]:=cW w;have p:ys[i]?=some (ys[i]' O):=cW _;generalize xs[i]=x at j;generalize ys[i]' O=y at p;rw[←A,←B];refine ha.mf j (hb.mf p (cP (λd=>?_) λs=>?_))
  .have E:x≠y:=by simpa using d
   rw[zL]at hR
   .exact hR
   .intro e;rw[e,p]at j;exact E (Option.some.inj j).symm
  .have r:x=y:=by simpa using s
   refine cT (m:=i+1) O O ⟨⟨i+1,rfl,O,rfl,?_⟩,O⟩;rw[kB,kB,g,j,p,r]
 .have H:i=xs.length:=O
  have:xs=ys:=by
   have z:=g;rw[lP O,lP O]at z;exact z
  rw[zI this]at hR;exact hR
def gm:Hw×Int×Int:=(UN w0 0 0 56 16 0).getD (w0,0,99)
theorem DL:gm.2=(4096,0):=by decide +kernel
theorem CW:KO w0 0 0 56 16 0 gm.1 4096 0:=by
 have a:=DL;unfold gm at *;cases hw:UN w0 0 0 56 16 0 with
 | none=>rw[hw]at a;exact absurd (congrArg Prod.snd a) aB
 | some r=>
  rw[hw]at a;have:=FF hw;have e1:r.2=(4096,0):=a;rw[e1]at this;exact this
def gB:B5:=(4112,24,4096,64,1)
theorem Et:Kl gm.1 4096=some 64:=by decide +kernel
def gX:Gu:=pn.dK gB
def vF:Hw:={gm.1 with sp:=jK gm.1.sp gB}
attribute [local irreducible] w0 gm vF
end Go.Ar
namespace Go.Ar
open Go.Vc (bS cX cO)
variable {size align thread addr:Int}{H H' H1:Hw}{held held1:List Pc}{s0 s1 sp:Sp}{x y:Gu}{b:B5}
theorem Cm {α:Type}{l:List (Int×α)}{n:Int}(h:bS l n=none)(v:α):cX l n v=l++[(n,v)]:=by
 unfold cX;rw[zB];intro hx;obtain⟨y,a,e⟩:=zy.1 hx;unfold bS at h;rw[sP,oD]at h;exact h y a e
theorem Uc {α:Type}{l:List (Int×α)}{n:Int}:bS l n=none↔∀e∈l,e.1≠n:=by
 unfold bS;rw[sP,oD];simp only[zU]
theorem Uf {α β:Type}{f:α->β}:∀{l:List α},(l.map f).Nodup->∀{a b:α},a∈l->b∈l->f a=f b->a=b
 | [],_,_,_,h,_,_=>by simp at h
 | z::l,hn,a,b,ha,hb,e=>by
  simp only[zR,zr]at hn;rcases zW.1 ha with h1|h1
  .rcases zW.1 hb with h2|h2
   .rw[h1,h2]
   .exact absurd (zE.2 ⟨b,h2,by rw[←e,h1]⟩) hn.1
  .rcases zW.1 hb with h2|h2
   .exact absurd (zE.2 ⟨a,h1,by rw[e,h2]⟩) hn.1
   .exact Uf hn.2 h1 h2 e
theorem B0 (h:HI H held s0){e:Int×Bk}(he:e∈H.live){w:Nat}(h1:e.1<=((8*w:Nat):Int))(h2:((8*w:Nat):Int)<e.1+e.2.2.1):gf H.sp.st (w/32)≠0:=by
 obtain⟨_,p,a,_,_,b,d,_⟩:=h.lv e he;have:=h.mapped a (x:=8*w) O O
 rwa [show 8*w/256=w/32 by omega]at this
structure dS (H:Hw) (x:Gu):Prop where
 live:H.live.map (λe=>(e.1,e.2.2.1))=x.kn.map (λe=>(e.2.2.2.1,e.2.2.2.2.1))
 can:∀e∈x.kn,∀z∈Zk e.2,Q0 H.sp z=jA z
 ph:∀j,fG H j=none
 i:∀e∈x.kn,e.1=e.2.1/\gJ e.2
 nd:(x.kn.map (·.1)).Nodup
theorem Hj (hi:HI H held s0){e e':Int×Bk}(he:e∈H.live)(he':e'∈H.live){z:Int}(h1:e.1<=z)(h2:z<e.1+e.2.2.1)(h3:e'.1<=z)(h4:z<e'.1+e'.2.2.1):e=e':=by
 obtain⟨_,p,g,_,_,b,j,_⟩:=hi.lv e he;obtain⟨_,q,d,_,_,a,i,_⟩:=hi.lv e' he';have:p=q:=hi.apart g d (x:=z.toNat) O O O O;subst this;exact Uf hi.lk he he' (by rw[←b,←a])
theorem dS.of (g:dS H x){e:Int×B5}(he:e∈x.kn):∃l∈H.live,l.1=e.2.2.2.1/\l.2.2.1=e.2.2.2.2.1:=by
 have:(e.2.2.2.1,e.2.2.2.2.1)∈H.live.map (λe=>(e.1,e.2.2.1)):=by rw[g.live];exact zE.2 ⟨e,he,rfl⟩
 obtain⟨l,a,h⟩:=zE.1 this;simp only[Prod.mk.injEq]at h;exact⟨l,a,h.1,h.2⟩
theorem dS.pL (g:dS H x)(hi:HI H held s0):(x.kn.map λe=>e.2.2.2.1).Nodup:=by
 have a:=congrArg (List.map Prod.fst) g.live;rw[lQ,lQ]at a;have b:(x.kn.map λe=>e.2.2.2.1)=H.live.map (·.1):=a.symm;rw[b];exact hi.lk
theorem dS.apart (g:dS H x)(hi:HI H held s0){e e':Int×B5}(he:e∈x.kn)(he':e'∈x.kn){z:Int}(h1:e.2.2.2.1<=z)(h2:z<e.2.2.2.1+e.2.2.2.2.1)(h3:e'.2.2.2.1<=z)(h4:z<e'.2.2.2.1+e'.2.2.2.2.1):e=e':=by
 obtain⟨l,i,d,p⟩:=g.of he;obtain⟨j,a,b,m⟩:=g.of he';have:=Hj hi i a (z:=z) O O O O;subst this;exact Uf (g.pL hi) he he' (by rw[←d,←b])
theorem dS.usable (g:dS H x)(hi:HI H held s0){e:Int×B5}(he:e∈x.kn):Kl H e.2.2.2.1=some e.2.2.2.2.1:=by
 obtain⟨l,d,a,b⟩:=g.of he;unfold Kl;rw[←a,Qd hi.lk (show(l.1,l.2)∈H.live from d)];exact congrArg some b
theorem dS.lost (g:dS H x)(hi:HI H held s0){e:Int×B5}(he:e∈x.kn):UL H e.2=false:=by
 unfold UL;rw[g.usable hi he];simp
theorem dS.map (g:dS H x)(hi:HI H held s0){e:Int×B5}(he:e∈x.kn){w:Nat}(h1:e.2.2.2.1<=((8*w:Nat):Int))(h2:((8*w:Nat):Int)<e.2.2.2.1+e.2.2.2.2.1):gf H.sp.st (w/32)≠0:=by
 obtain⟨l,a,b,d⟩:=g.of he;exact B0 hi a O O
theorem gJ.word (bi:gJ b){z:Int}(h:z∈Zk b\/z∈XR b):(∃w:Nat,z=((8*w:Nat):Int))/\b.2.2.1<=z/\z<b.2.2.1+b.2.2.2.1:=by
 have a:=bi.base;have g:=bi.z;have d:=bi.t;rcases h with h|h
 .have:=Gh bi h;exact⟨⟨z.toNat/8,O⟩,O,O⟩
 .have:=HX bi h;exact⟨⟨z.toNat/8,O⟩,O,O⟩
theorem gJ.nw (bi:gJ b){z:Int}(h:z∈Zk b):z∉XR b:=λa=>by
 have d:=Gh bi h;have g:=HX bi a;omega
theorem dS.acc (g:dS H x)(hi:HI H held s0){e:Int×B5}(he:e∈x.kn){z:Int}(h:z∈Zk e.2\/z∈XR e.2):eP H.sp z=0:=by
 obtain⟨⟨w,rfl⟩,a,b⟩:=(g.i e he).2.word h;exact Hi.2 (g.map hi he a b)
theorem dS.broken (g:dS H x)(hi:HI H held s0){e:Int×B5}(he:e∈x.kn):QR H.sp e.2=[]:=by
 unfold QR;rw[List.filter_eq_nil_iff];intro z hz;unfold jN;rw[g.acc hi he (.inl hz),g.can e he z hz];simp
theorem dS.cK (g:dS H x)(hi:HI H held s0):F5 H x=[]:=by
 unfold F5;rw[List.flatMap_eq_nil_iff];intro e he;unfold LV;rw[g.lost hi he,g.broken hi he];rfl
theorem dS.jx (bi:gJ b){z:Int}(h1:b.1<=z)(h2:z<b.1+ZC b.2.1)(h8:z%8=0):z∈XR b:=by
 have:=bi.z;have a:=YA (n:=b.2.1) (by have:=bi.s;omega);refine zE.2 ⟨((z-b.1)/8).toNat,zg.2 ?_,O⟩;unfold QH;omega
theorem Er (hi:HI H held s0)(ks:KS H.sp sp){l:Int×Bk}(hl:l∈H.live){w:Nat}(h1:l.1<=((8*w:Nat):Int))(h2:((8*w:Nat):Int)<l.1+l.2.2.1):Q0 sp ((8*w:Nat):Int)=Q0 H.sp ((8*w:Nat):Int)/\gf sp.st (w/32)≠0:=by
 have a:=B0 hi hl h1 h2;have:=ks.k _ a;rw[y9,y9,zC a,zC this.1,this.2 w rfl];exact⟨rfl,this.1⟩
def Kept (H:Hw)(x:Gu)(H':Hw)(x':Gu)(e:Int×B5):Prop:=e∈x'.kn/\∀z∈XR e.2,Q0 H'.sp z=Q0 H.sp z
theorem T9 (bi:gJ b):∀z∈Zk b,0<=z/\z%8=0:=λz a=>by
 have:=Gh bi a;have:=bi.base;omega
theorem CA (bi:gJ b):∀z∈XR b,0<=z/\z%8=0:=λz a=>by
 have:=HX bi a;have:=bi.base;have:=bi.z;omega
theorem dS.dK (g:dS H x)(hi:HI H held s0)(gr:uG H x size align b H1)(o:fV H H1)(hi1:HI H1 held1 s1) :
 dS {H1 with sp:=jK H1.sp b} (x.dK b)/\(x.dK b).kn=x.kn++[(b.1,b)]/\(∀e∈x.kn,Kept H x {H1 with sp:=jK H1.sp b} (x.dK b) e)/\(∀z∈XR b,Q0 (jK H1.sp b) z=0)/\eP (jK H1.sp b) b.1=0:=by
 have bi:=gr.bi;obtain⟨C,cl,r,_⟩:bS H.live b.2.2.1=none/\∃cl,H1.live=cX H.live b.2.2.1 (b.2.2.1,(Ge H.tb (zA align+ZC size+16) (zA align)).1,cl,XS H1.bZ b.2.2.1)/\True:=by
  rcases gr.me with⟨h,_⟩|⟨_,F,_,cl,E,_⟩
  .exact absurd rfl h
  .exact⟨F,cl,E,trivial⟩
 have W:=gr.u;unfold Kl at W;rw[r,Hh]at W;have S:(Ge H.tb (zA align+ZC size+16) (zA align)).1=b.2.2.2.1:=Option.some.inj W;rw[S]at r;rw[Cm C]at r;have M:∃l∈H1.live,l.1=b.2.2.1/\l.2.2.1=b.2.2.2.1:=⟨(b.2.2.1,(b.2.2.1,b.2.2.2.1,cl,XS H1.bZ b.2.2.1)),by rw[r];simp,rfl,rfl⟩;obtain⟨ln,N,V,ln2⟩:=M;have Q:∀l∈H.live,l∈H1.live:=λl K=>by rw[r];exact kN _ K
 have J:∀e∈x.kn,∀z,e.2.2.2.1<=z->z<e.2.2.2.1+e.2.2.2.2.1->b.2.2.1<=z->z<b.2.2.1+b.2.2.2.1->False:=λe d z F E h3 h4=>by
  obtain⟨l,K,Z,a2⟩:=g.of d;have:=Hj hi1 (Q l K) N (z:=z) O O O O;subst this;have:=Uc.1 C l K;exact this V
 have hb1:=bi.base;have hb2:=bi.z;have hb3:=bi.t;have hww:=YA (n:=b.2.1) (by have:=bi.s;omega);have L:bS x.kn b.1=none:=Uc.2 λe d h=>by
  have A:=(g.i e d);have q0:=A.1;have q4:=A.2.s;have hbs:=bi.s;have q1:=A.2.base;have q2:=A.2.z;have q3:=A.2.t;have qw:=YA (n:=e.2.2.1) (by have:=A.2.s;omega);exact J e d b.1 O O O O
 have y:(x.dK b).kn=x.kn++[(b.1,b)]:=Cm L b;have p:∀z,(z∈Zk b\/z∈XR b)->∃w:Nat,z=((8*w:Nat):Int)/\gf H1.sp.st (w/32)≠0:=λz m=>by
  obtain⟨⟨w,rfl⟩,F,E⟩:=bi.word m;exact⟨w,rfl,B0 hi1 N O O⟩
 have G:=T9 bi;have D:=CA bi;obtain⟨_,X,_⟩:=yU jA (Zk b) H1.sp G;have R:∀w:Nat,((8*w:Nat):Int)∉Zk b->((8*w:Nat):Int)∉XR b->Q0 (jK H1.sp b) ((8*w:Nat):Int)=Q0 H1.sp ((8*w:Nat):Int):=λw F E=>by
  unfold jK;rw[KY D,zB λh=>E h.1,KY G,zB λh=>F h.1]
 have B:∀e∈x.kn,∀z,(z∈Zk e.2\/z∈XR e.2)->Q0 (jK H1.sp b) z=Q0 H.sp z:=λe d z m=>by
  obtain⟨l,K,Z,a2⟩:=g.of d;obtain⟨⟨w,rfl⟩,F,E⟩:=(g.i e d).2.word m;have:=Er (H:=H) hi o.ks K (w:=w) O O;rw[R w (λm=>by have:=bi.word (.inl m);exact J e d _ F E this.2.1 this.2.2) (λm=>by have:=bi.word (.inr m);exact J e d _ F E this.2.1 this.2.2)];exact this.1
 refine⟨⟨?_,λe d z m=>?_,λj=>(o.ph j).trans (g.ph j),λe d=>?_,?_⟩,y,λe d=>⟨by rw[y];exact kN _ d,λz m=>B e d z (.inr m)⟩,λz m=>?_,?_⟩
 .show H1.live.map _=_;rw[r,y,zj,zj,g.live];rfl
 .show Q0 (jK H1.sp b) z=jA z;rw[y]at d;rcases zJ.1 d with d|d
  .rw[B e d z (.inl m)];exact g.can e d z m
  .rw[zN]at d;subst d;obtain⟨w,rfl,P⟩:=p z (.inl m);unfold jK;rw[KY D,zB λh=>bi.nw m h.1,KY G,zC ⟨m,P⟩]
 .rw[y]at d;rcases zJ.1 d with d|d
  .exact g.i e d
  .rw[zN]at d;subst d;exact⟨rfl,bi⟩
 .rw[y,zj,m9];refine⟨g.nd,by simp,λa ha c Y=>?_⟩;simp only[zR,oC,zN]at Y;subst Y;obtain⟨e,d,rfl⟩:=zE.1 ha;exact Uc.1 L e d
 .obtain⟨w,rfl,P⟩:=p z (.inr m);unfold jK;rw[KY D,zC ⟨m,λh=>P ((X _).1 h)⟩]
 .have U:b.1∈XR b:=dS.jx bi (xF _) (by have:=bi.s;omega) bi.z.2.2;obtain⟨w,hw,P⟩:=p b.1 (.inr U);obtain⟨_,k2,_⟩:=yU (λ_=>0) (XR b) (iK H1.sp (Zk b) jA) D;rw[hw];unfold jK;exact Hi.2 λh=>P ((X _).1 ((k2 _).1 h))
theorem dS.same (g:dS H x)(hi:HI H held s0)(o:fV H H')(hl:H'.live=H.live):dS H' x/\∀e∈x.kn,Kept H x H' x e:=by
 have a:∀e∈x.kn,∀z,(z∈Zk e.2\/z∈XR e.2)->Q0 H'.sp z=Q0 H.sp z:=λe b z d=>by
  obtain⟨l,hl,r,s⟩:=g.of b;obtain⟨⟨w,rfl⟩,m,p⟩:=(g.i e b).2.word d;exact(Er (H:=H) hi o.ks hl (w:=w) O O).1
 exact⟨⟨by rw[hl];exact g.live,λe b z d=>by rw[a e b z (.inl d)];exact g.can e b z d,λj=>(o.ph j).trans (g.ph j),g.i,g.nd⟩,λe b=>⟨b,λz d=>a e b z (.inr d)⟩⟩
theorem dS.write (g:dS H x)(hi:HI H held s0){k:Int×B5}(hk:k∈x.kn){z v:Int}(hz:z∈XR k.2):dS {H with sp:=ZJ H.sp z v} x/\(∀e∈x.kn,e≠k->Kept H x {H with sp:=ZJ H.sp z v} x e)/\(∀u∈XR k.2,Q0 (ZJ H.sp z v) u=if u=z then v else Q0 H.sp u):=by
 obtain⟨⟨b,rfl⟩,A,B⟩:=(g.i k hk).2.word (.inr hz);have r:=g.map hi hk A B;have m:∀w:Nat,Q0 (ZJ H.sp ((8*b:Nat):Int) v) ((8*w:Nat):Int)=if w=b/\gf H.sp.st (w/32)≠0 then v else Q0 H.sp ((8*w:Nat):Int):=λw=>by
  have:=KY (f:=λ_=>v) (l:=[((8*b:Nat):Int)]) (sp:=H.sp) (λz hz=>by rw[zN]at hz;subst hz;omega) w;have e:iK H.sp [((8*b:Nat):Int)] (λ_=>v)=ZJ H.sp ((8*b:Nat):Int) v:=rfl;rw[e]at this;rw[this];by_cases hw:w=b
  .subst hw;by_cases hm:gf H.sp.st (w/32)≠0
   .rw[zC ⟨zN.2 rfl,hm⟩,zC ⟨rfl,hm⟩]
   .rw[zB λh=>hm h.2,zB λh=>hm h.2]
  .rw[zB λh=>hw (by have:=zN.1 h.1;omega),zB λh=>hw h.1]
 have j:∀e∈x.kn,∀u,(u∈Zk e.2\/u∈XR e.2)->(e=k->u∈Zk e.2)->Q0 (ZJ H.sp ((8*b:Nat):Int) v) u=Q0 H.sp u:=λe d u a s=>by
  obtain⟨⟨w,rfl⟩,y,C⟩:=(g.i e d).2.word a;rw[m,zB];rintro⟨rfl,_⟩;have:=g.apart hi d hk y C A B;subst this;exact(g.i e d).2.nw (s rfl) hz
 refine⟨⟨g.live,λe d u a=>?_,g.ph,g.i,g.nd⟩,λe d p=>⟨d,λu a=>j e d u (.inr a) λh=>absurd h p⟩,λu a=>?_⟩
 .show Q0 (ZJ H.sp ((8*b:Nat):Int) v) u=jA u;rw[j e d u (.inl a) λ_=>a];exact g.can e d u a
 .obtain⟨⟨w,rfl⟩,y,C⟩:=(g.i k hk).2.word (.inr a);rw[m];by_cases hw:w=b
  .subst hw;rw[zC ⟨rfl,r⟩,zC rfl]
  .rw[zB λh=>hw h.1,zB λh=>hw O]
theorem dS.free (g:dS H x)(hi:HI H held s0){b:B5}(hk:bS x.kn addr=some b){e:Int}(hw:KO (dQ H b) thread 1 0 0 b.2.2.1 H1 0 e)(o:fV (dQ H b) H1)(fe:nG (dQ H b) thread b.2.2.1 H1 e)(hrd:ZI H thread=0)(hcf:H.cf.threads=H.bR.length) :
 dS H1 (x.gone addr)/\∀k∈x.kn,k.1≠addr->Kept H x H1 (x.gone addr) k:=by
 have a:(addr,b)∈x.kn:=YT hk;have C:=g.i _ a;have R:addr=b.1:=C.1;have L:gJ b:=C.2;obtain⟨l,S,K,U⟩:=g.of a;simp only at K U;have J:(dQ H b).live=H.live:=rfl;have G:bS H.live b.2.2.1=some l.2:=by rw[←K];exact Qd hi.lk (show(l.1,l.2)∈H.live from S)
 have p:H1.live=cO H.live b.2.2.1:=by
  rcases fe with⟨_,_,h⟩|⟨_,h,_⟩|⟨_,_,_,_,h⟩
  .exfalso;unfold ZI at hrd;rw[UX]at hrd;split at hrd
   .cases hrd
   .rename_i hth;have u:=g.ph thread.toNat;unfold Vb at h;have B:thread.toNat<H.bR.length:=O
    rw[zC (show 0<=thread/\thread<((dQ H b).bR.length:Int)from⟨O,by show thread<(H.bR.length:Int);omega⟩)]at h;have Q:(dQ H b).bR[thread.toNat]?=some H.bR[thread.toNat]:=cW B;rw[Q]at h;simp only at h;unfold fG at u;rw[cW B]at u;rw[zC (show H.bR[thread.toNat].ph=none from u)]at h;unfold iP at h;rw[zB aB,zC rfl]at h;cases h
  .rw[J,G]at h;cases h
  .exact h
 have E:=CA L;have s:∃s1,HI (dQ H b) held s1:=HI.iK _ _ hi;obtain⟨s1,s⟩:=s;have d:∀k∈x.kn,k.1≠addr->∀z,(z∈Zk k.2\/z∈XR k.2)->Q0 H1.sp z=Q0 H.sp z:=λk hk m z A=>by
  obtain⟨N,F,V,W⟩:=g.of hk;obtain⟨⟨w,rfl⟩,P,M⟩:=(g.i k hk).2.word A;rw[(Er s o.ks (l:=N) F (w:=w) O O).1];show Q0 (iK H.sp (XR b) λ_=>Gg) _=_;rw[KY E,zB];rintro⟨hw,_⟩;have D:=L.word (.inr hw);have:=g.apart hi hk a P M D.2.1 D.2.2;subst this;exact m rfl
 have r:∀k,k∈(x.gone addr).kn↔k∈x.kn/\k.1≠addr:=λk=>by
  show k∈cO x.kn addr↔_;unfold cO;rw[zK];simp
 refine⟨⟨?_,λk hk z A=>?_,λj=>(o.ph j).trans (g.ph j),λk hk=>g.i k ((r k).1 hk).1,?_⟩,λk hk m=>⟨(r k).2 ⟨hk,m⟩,λz A=>d k hk m z (.inr A)⟩⟩
 .rw[p];show(cO H.live b.2.2.1).map _=(cO x.kn addr).map _;unfold cO;have e1:(H.live.filter λy=>!(y.1==b.2.2.1)).map (λe=>(e.1,e.2.2.1))=(H.live.map λe=>(e.1,e.2.2.1)).filter λq=>!(q.1==b.2.2.1):=by rw[xA];rfl
  rw[e1,g.live,xA]
  congr 1
  apply wa;intro k hk;simp only[Function.comp]
  congr 1
  rw[kZ,zU,zU];constructor
  .intro h;have:=Uf (g.pL hi) hk a h;rw[this]
  .intro h;have:=Uf g.nd hk a h;rw[this]
 .have:=(r k).1 hk;rw[d k this.1 this.2 z (.inl A)];exact g.can k this.1 z A
 .show((cO x.kn addr).map _).Nodup;exact g.nd.sublist (List.filter_sublist.map _)
end Go.Ar
namespace Go.Ar
open Go Go.Vc Go.Proofs
open Go.Vc (bS cX cO)
variable {size align:Int}{U σ0 v w w':Hp}{F P Q X T:Rg}{L:dE}{H H' H1:Hw}{held:List Pc}{s0 sp:Sp}{t n:Nat}{g:Th}{gb km fm m xb:Nat}{x y:Gu}{b:B5}
def DH (gb:Nat)(addrs ls:Sl):List Value:=[.pointer (some ⟨gb,0,none⟩),.slice addrs.a addrs.len addrs.cap,.slice ls.a ls.len ls.cap]
structure oB (σ0 U:Hp) (xb:Nat) (L:dE) (H:Hw) (held:List Pc) (s0:Sp) (P:Rg) (gb km fm:Nat) (x:Gu) (Qa Ql:Rg) (addrs:Sl) (ad:List Int) (ls:Sl) (la:List T3):Prop where
 p:GP σ0 U L H held s0 P gb km fm x
 b:bY U xb (DH gb addrs ls)
 ra:bU addrs 1 (Wu ad) U Qa
 rl:bU ls 3 (lM la) U Ql
 re:σ0.size<=xb/\¬Mg P gb km fm xb/\¬Qa xb/\¬Ql xb
 qa:∀b,Qa b->σ0.size<=b/\b<U.size/\¬Mg P gb km fm b
 ql:∀b,Ql b->σ0.size<=b/\b<U.size/\¬Mg P gb km fm b
 qq:∀b,Qa b->¬Ql b
variable {Qa Ql:Rg}{addrs ls:Sl}{ad:List Int}{la:List T3}
theorem oB.fr (o:oB σ0 U xb L H held s0 P gb km fm x Qa Ql addrs ad ls la)(e:aF U w):oB σ0 w xb L H held s0 P gb km fm x Qa Ql addrs ad ls la:=
 ⟨o.p.fr e,e.bV o.b id,aI.bP o.ra e,aI.bP o.rl e,o.re,λb a=>by have h:=o.qa b a;have:=e.1;exact⟨h.1,O,h.2.2⟩,λb a=>by have h:=o.ql b a;have:=e.1;exact⟨h.1,O,h.2.2⟩,o.qq⟩
theorem IJ {P':Rg}(hg:gb<n/\km<n/\fm<n)(hP:∀b,P' b->P b\/n<=b):∀b,Mg P' gb km fm b->Mg P gb km fm b\/n<=b:=by
 rintro b (h|h)
 .exact(hP b h).imp .inl id
 .exact .inl (.inr h)
theorem oB.eX (o:oB σ0 U xb L H held s0 P gb km fm x Qa Ql addrs ad ls la){L':dE}{held':List Pc}{s0':Sp}{P':Rg}(e:Ext (Mg P gb km fm) U w)(p':GP σ0 w L' H' held' s0' P' gb km fm y)(hP:∀b,P' b->P b\/U.size<=b) :
 oB σ0 w xb L' H' held' s0' P' gb km fm y Qa Ql addrs ad ls la:=by
 have D:=e.1;have a:=o.b.lt;obtain⟨A,r,B,z⟩:=o.re;have i:∀b,b<U.size->¬Mg P gb km fm b->¬Mg P' gb km fm b:=λb C s u=>by
  rcases IJ ⟨o.p.b.lt,o.p.m.lt,o.p.f.lt⟩ hP b u with h4|h4
  .exact s h4
  .omega
 exact⟨p',e.bV o.b r,aI.bT o.ra e λb _ j d=>(o.qa b j).2.2 d,aI.bT o.rl e λb _ j d=>(o.ql b j).2.2 d,⟨A,i _ a r,B,z⟩,λb g=>by have h:=o.qa b g;exact⟨h.1,O,i b h.2.1 h.2.2⟩,λb g=>by have h:=o.ql b g;exact⟨h.1,O,i b h.2.1 h.2.2⟩,o.qq⟩
theorem VC {c:Nat}(h:¬Mg P gb km fm c):¬P c/\c≠gb/\c≠km/\c≠fm:=⟨λa=>h (.inl a),λe=>h (.inr (.inl e)),λe=>h (.inr (.inr (.inl e))),λe=>h (.inr (.inr (.inr e)))⟩
theorem ux (p:GP σ0 U L H held s0 P gb km fm x){c:Nat}(h:Mg P gb km fm c):c<U.size:=by
 rcases h with h|rfl|rfl|rfl
 .exact(p.pP c h).2
 .exact p.b.lt
 .exact p.m.lt
 .exact p.f.lt
theorem oB.cE (o:oB σ0 U xb L H held s0 P gb km fm x Qa Ql addrs ad ls la){s':Sl}{ad':List Int}(e:Ext Qa U w)(hr:bU s' 1 (Wu ad') w λb=>Qa b\/U.size<=b/\b<w.size){K:aP}
 (hK:∀u,Ext (· = xb) w u->oB σ0 u xb L H held s0 P gb km fm x (λb=>Qa b\/U.size<=b/\b<w.size) Ql s' ad' ls la->K u):dG (Addr.add ⟨xb,0,none⟩ 1) (.slice s'.a s'.len s'.cap) w K:=by
 have J:=e.1;have C:=o.b.lt;obtain⟨A,B,r,z⟩:=o.re;have D:=o.p.out e λb _ d=>by have h:=o.qa b d;have i:=VC h.2.2;exact⟨i.1,i.2.1,i.2.2.1,i.2.2.2,h.1⟩
 have s:=aI.bT o.rl e λb _ m G=>o.qq b G m;refine(e.bV o.b r).s1 (by simp[DH]) λu y b=>?_;have j:=y.ext;have F:=y.1;have i:=VC B;refine hK u j ⟨D.out j λb _ (d:b=xb)=>by subst d;exact⟨i.1,i.2.1,i.2.2.1,i.2.2.2,A⟩,b,aI.bT hr j λb _ g (d:b=xb)=>?_,aI.bT s j λb _ g (d:b=xb)=>z (d▸g),⟨A,B,?_,z⟩,λb d=>?_,λb d=>by have h:=o.ql b d;exact⟨h.1,O,h.2.2⟩,λb d m=>?_⟩
 .subst d;rcases g with g|g
  .exact r g
  .omega
 .rintro(g|g)
  .exact r g
  .omega
 .rcases d with d|d
  .have h:=o.qa b d;exact⟨h.1,O,h.2.2⟩
  .have:=o.p.e.1;exact⟨O,O,λE=>by have:=ux o.p E;omega⟩
 .rcases d with d|d
  .exact o.qq b d m
  .have:=(o.ql b m).2.1;omega
theorem oB.iw (o:oB σ0 U xb L H held s0 P gb km fm x Qa Ql addrs ad ls la){s':Sl}{la':List T3}{Ql':Rg}(e:Ext Ql U w)(hr:bU s' 3 (lM la') w Ql')(hQ:∀b,Ql' b->Ql b\/U.size<=b/\b<w.size){K:aP}
 (hK:∀u,Ext (· = xb) w u->oB σ0 u xb L H held s0 P gb km fm x Qa Ql' addrs ad s' la'->K u):dG (Addr.add ⟨xb,0,none⟩ 2) (.slice s'.a s'.len s'.cap) w K:=by
 have M:=e.1;have D:=o.b.lt;obtain⟨A,C,B,y⟩:=o.re;have E:=o.p.out e λb _ d=>by have h:=o.ql b d;have g:=VC h.2.2;exact⟨g.1,g.2.1,g.2.2.1,g.2.2.2,h.1⟩
 have m:=aI.bT o.ra e λb _ J i=>o.qq b J i;refine(e.bV o.b y).s1 (by simp[DH]) λu s b=>?_;have j:=s.ext;have G:=s.1;have g:=VC C;have z:¬Ql' xb:=λh=>by
  rcases hQ xb h with h|h
  .exact y h
  .omega
 refine hK u j ⟨E.out j λb _ (d:b=xb)=>by subst d;exact⟨g.1,g.2.1,g.2.2.1,g.2.2.2,A⟩,b,aI.bT m j λb _ r (d:b=xb)=>B (d▸r),aI.bT hr j λb _ r (d:b=xb)=>z (d▸r),⟨A,C,B,z⟩,λb d=>by have h:=o.qa b d;exact⟨h.1,O,h.2.2⟩,λb d=>?_,λb d i=>?_⟩
 .rcases hQ b d with d|d
  .have h:=o.ql b d;exact⟨h.1,O,h.2.2⟩
  .have:=o.p.e.1;exact⟨O,O,λF=>by have:=ux o.p F;omega⟩
 .rcases hQ b i with i|i
  .exact o.qq b d i
  .have:=(o.qa b d).2.1;omega
inductive nM (H:Hw) (x:Gu) (d:eZ) (a:Int):Hw->Gu->Int->Option Int->Bool->Prop where
 | same (e:Int):(e=0->d.kd≠20/\d.kd≠21/\d.kd≠22)->nM H x d a H x e none false
 | full {H':Hw} {e:Int}:d.kd=20->mA d.a d.b=true->e≠0->KO H d.th 0 (zA d.b+ZC d.a+16) (zA d.b) 0 H' 0 e->fV H H'->H'.live=H.live->nM H x d a H' x e none false
 | dK {b:B5} {H1:Hw}:d.kd=20->uG H x d.a d.b b H1->KO H d.th 0 (zA d.b+ZC d.a+16) (zA d.b) 0 H1 b.2.2.1 0->fV H H1->nM H x d a {H1 with sp:=jK H1.sp b} (x.dK b) 0 (some b.1) false
 | ma {b:B5} {H1:Hw} {e:Int}:(d.kd=21\/d.kd=22)->bS x.kn a=some b->lY H x d.th a true=0->KO (dQ H b) d.th 1 0 0 b.2.2.1 H1 0 e->fV (dQ H b) H1->nG (dQ H b) d.th b.2.2.1 H1 e->nM H x d a H1 (x.gone a) 0 none true
 | wrote:d.kd=26->qh H x a 0->nM H x d a {H with sp:=ZJ H.sp a d.va} x (eP H.sp a) none false
def Nr (d:eZ)(add:Option Int)(del:Bool)(a:Int)(la:List T3):List T3:=match add with
 | some b=>la++[(b,d.a,d.b)]
 | none=>if del then la.filter λq=>!(q.1==a)else la
end Go.Ar
namespace Go.Ar
open Go Go.Vc Go.Proofs
open Go.Vc (bS cX cO)
open Go.Bu (fB VJ Hu)
variable {size align a:Int}{U σ0 v w w':Hp}{F P Q X T:Rg}{L:dE}{H H' H1:Hw}{held held' held1:List Pc}{s0 s0' s1 sp:Sp}{t n:Nat}{gb km fm m xb:Nat}{x x' y:Gu}{b:B5}{ad:List Int}{la:List T3}{d:eZ}{add:Option Int}{del:Bool}{e:Int}{l:Sl}{ds:List eZ}
theorem I6 {s c al:Int}{i:Int}(h1:256%al=0)(h2:c%al=0):(s*256+i*c)%al=0:=by
 obtain⟨q1,e1⟩:=Af h1;obtain⟨q2,e2⟩:=Af h2;refine Int.emod_eq_zero_of_dvd ⟨s*q1+i*q2,?_⟩;rw[e1,e2,Int.mul_add,Int.mul_left_comm s,Int.mul_left_comm i]
theorem ψ (hi1:HI H1 held1 s1)(hp:HI H held s0)(ht:H1.tb=H.tb){al base:Int}(h256:256%al=0)(me:nN H size al H1 base 0):base%al=0:=by
 rcases me with⟨h,_⟩|⟨_,hm,_,cl,hl,hcl⟩
 .exact absurd rfl h
 have y:(base,((base,(Ge H.tb size al).1,cl,XS H1.bZ base):Bk))∈H1.live:=by rw[hl];exact YT (Hh _)
 obtain⟨_,p,x,_,E,C,_,_⟩:=hi1.lv _ y;obtain⟨A,D,hd⟩:=hi1.wi.hf p x;simp only at E C;rcases hd with⟨q1,_,r,_,q2,_⟩|⟨j,c,q1,q2,_,q3,_⟩
 .rw[←C,q2];have:((r.1*256:Nat):Int)=(r.1:Int)*256+0*0:=O
  rw[this];exact I6 h256 aA
 .rcases hcl with⟨k,rfl,hk⟩|⟨rfl,_⟩
  .have B:j=k:=O
   subst B;obtain⟨J,g,_,b⟩:=J5 hk;have d:A.tb=H1.tb:=hi1.wi.tb _ A D;rw[d,ht,g]at q2;cases q2;obtain⟨w,G,a,u⟩:=q3;have m:=(hi1.wi.ga _ A D).cG _ _ _ a;have z:w=c:=by
    have:=a.1;rw[d,ht,g]at this;exact(Option.some.inj this).symm
   subst z;obtain⟨_,s,i,_,_,F,_⟩:=(Ue m).1 u;rw[←C,F];have:((at_ w s i:Nat):Int)=(s.st:Int)*256+(i:Int)*(w.size:Int):=by unfold at_;simp
   rw[this];exact I6 h256 b
  .omega
theorem Ou {al:Int}(h1:1<=al)(h2:al<=256)(hp:fB al=true):256%al=0/\(al<16->16%al=0):=by
 obtain⟨al,rfl⟩:=zc (show 0<=al by omega);rw[VJ]at hp;have key:∀a:Nat,a<=256->1<=a->(a &&& (a-1)=0)->256%a=0/\(a<16->16%a=0):=by decide +kernel
 have:=key al O O (by have:=Hu (a:=al) O O;rw[hp]at this;simpa using this);exact⟨by rw[show(256:Int)=((256:Nat):Int)from rfl,←Int.natCast_emod,this.1];rfl,λh=>by rw[show(16:Int)=((16:Nat):Int)from rfl,←Int.natCast_emod,this.2 O];rfl⟩
theorem TO {al:Int}(h1:1<=al)(h2:al<=256)(hp:fB al=true):256%zA al=0/\zA al%al=0:=by
 have:=Ou h1 h2 hp;unfold zA;split
 .exact⟨by decide,this.2 O⟩
 .exact⟨this.1,by simp⟩
structure AL (H:Hw) (x:Gu) (ad:List Int) (la:List T3):Prop where
 g:dS H x
 n0:0<=x.no
 nl:(x.kn.length:Int)<=x.no/\(ad.length:Int)<=x.no
 lq:la.map (λa=>(a.1,a.2.1,zA a.2.2))=x.kn.map (λe=>(e.1,e.2.2.1,e.1-e.2.2.2.1))
 ok:∀a∈la,mA a.2.1 a.2.2=true/\a.1%a.2.2=0
 dq:∀a∈ad,(bS x.kn a).isSome=true\/bS x.fr a=some true
 th:1<=H.cf.threads
theorem AL.out (al:AL H x ad la)(hi:HI H held s0)(cf:iQ H)(o:nM H x d a H' x' e add del):AL H' x' (ad++add.toList) (Nr d add del a la)/\x'.no<=x.no+1/\∀k∈x.kn,¬(k.1<=a/\a<k.1+ZC k.2.2.1)->Kept H x H' x' k:=by
 have g:=al.g;have F:ad++(none:Option Int).toList=ad:=by simp
 cases o with
 | same e R=>rw[F];exact⟨al,O,λk j _=>⟨j,λ_ _=>rfl⟩⟩
 | full j A r E op hl=>
  rw[F];obtain⟨w,D⟩:=g.same hi op hl;exact⟨⟨w,al.n0,al.nl,al.lq,al.ok,al.dq,by rw[op.kp.2.1];exact al.th⟩,O,λk j _=>D k j⟩
 | dK j gr E op=>
  rename_i b H1;obtain⟨K,s1,C⟩:=op.hi;obtain⟨w,gk,V,_,_⟩:=g.dK hi gr op C;have y:=gr.ok;unfold mA at y;rw[zF,zV]at y;obtain⟨⟨_,_,k3,k4⟩,kp⟩:=y;obtain⟨J,N⟩:=TO k3 k4 kp;have P:=ψ C hi op.kp.1 J gr.me;have B:(x.dK b).no=x.no+1:=rfl;have Q:(x.dK b).fr=x.fr:=rfl;refine⟨⟨w,by have:=al.n0;omega,⟨?_,?_⟩,?_,λq u=>?_,λz p=>?_,by show 1<=H1.cf.threads;rw[op.kp.2.1];exact al.th⟩,O,λk j _=>V k j⟩
  .rw[gk,B,zM];have:=al.nl.1;simp;omega
  .rw[B,zM];have:=al.nl.2;simp;omega
  .show(la++[(b.1,d.a,d.b)]).map _=_;rw[gk,zj,zj,al.lq]
   congr 1
   simp only[zR,oC,gr.s];have:=gr.a
   congr 3
   omega
  .rcases zJ.1 (show q∈la++[(b.1,d.a,d.b)]from u)with u|u
   .exact al.ok q u
   .rw[zN]at u;subst u;refine⟨gr.ok,?_⟩;show b.1%d.b=0;obtain⟨q1,e1⟩:=Af P;obtain⟨q2,e2⟩:=Af N;refine Int.emod_eq_zero_of_dvd ⟨q2*q1+q2,?_⟩;rw[gr.a,e1,Int.mul_add,←Int.mul_assoc,←e2]
  .have M:(x.dK b).kn=cX x.kn b.1 b:=rfl;rw[M,Q,VF];rcases zJ.1 p with p|p
   .split
    .exact .inl rfl
    .exact al.dq z p
   .simp only[ru,zN]at p;subst p;rw[zC rfl];exact .inl rfl
 | ma j hm hf E op fe=>
  rename_i b e;rw[F];have G:ZI H d.th=0:=by
   by_cases h:ZI H d.th=0
   .exact h
   .unfold lY at hf;rw[zC h]at hf;exact absurd hf h
  obtain⟨w,D⟩:=g.free hi hm E op fe G cf.2.1;have A:(x.gone a).kn=cO x.kn a:=rfl;have L:(x.gone a).fr=cX x.fr a true:=rfl;refine⟨⟨w,al.n0,⟨?_,al.nl.2⟩,?_,λq u=>al.ok q (zK.1 u).1,λz p=>?_,by rw[op.kp.2.1];exact al.th⟩,by show x.no<=_;omega,λk j r=>D k j λh=>r ?_⟩
  .rw[A];have Y:=pI (λq:Int×B5=>!(q.1==a)) x.kn;have W:=al.nl.1;show((x.kn.filter _).length:Int)<=x.no;omega
  .show(la.filter λq=>!(q.1==a)).map _=(x.kn.filter λq=>!(q.1==a)).map _;have e1:(la.filter λq=>!(q.1==a)).map (λa=>(a.1,a.2.1,zA a.2.2))=(la.map λa=>(a.1,a.2.1,zA a.2.2)).filter λq=>!(q.1==a):=by rw[xA];rfl
   have e2:(x.kn.filter λq=>!(q.1==a)).map (λe=>(e.1,e.2.2.1,e.1-e.2.2.2.1))=(x.kn.map λe=>(e.1,e.2.2.1,e.1-e.2.2.2.1)).filter λq=>!(q.1==a):=by rw[xA];rfl
   rw[e1,e2,al.lq]
  .rw[A,L,Bz,VF];by_cases h:z=a
   .rw[zC h,zC h];exact .inr rfl
   .rw[zB h,zB h];exact al.dq z p
  .have m:=g.i k j;have X:=m.2.s;have E:=YA (n:=k.2.2.1) O;omega
 | wrote j wd=>
  rw[F];rcases wd with⟨h,_⟩|⟨k,j,hin,h8,_⟩
  .cases h
  .have m:=g.i k j;obtain⟨S,U⟩:=hin;have p:a∈XR k.2:=dS.jx m.2 S U h8;obtain⟨w,D,_⟩:=g.write hi j p (v:=d.va);refine⟨⟨w,al.n0,al.nl,al.lq,al.ok,al.dq,al.th⟩,O,λe R r=>D e R λh=>r ?_⟩;subst h;exact⟨by rw[m.1];exact S,by rw[m.1];exact U⟩
theorem AL.ready (al:AL H x ad la)(cf:iQ H):ZI H 0=0:=by
 have b:=al.th;unfold ZI;rw[zB O,UX];have a:(if 0<=(0:Int)/\(0:Int)<(H.bR.length:Int)then fG H (0:Int).toNat else none)=none:=by
  split
  .exact al.g.ph _
  .rfl
 rw[a];rfl
variable {Qa Ql:Rg}{addrs ls:Sl}
end Go.Ar
namespace Go.Ar
open Go Go.Vc Go.Proofs Go.RowKit Go.Maps Go.Sort Go.Shelf
open Go.Vc (bS cX cO)
open Go.Bu (lp HO Uj HR VM Au)
variable {U σ0 v w w':Hp}{F P Q X T:Rg}{L:dE}{H H' H1:Hw}{held:List Pc}{s0 sp:Sp}{t n:Nat}{gb km fm m:Nat}{x y:Gu}{b:B5}
def Gx:Nat:=Tryz.ik.f 10
def CS:Nat:=Tryz.ik.t 23
theorem PD (m:Option Nat){R:Fv->Hp->Prop}(hR:R ⟨Gx,#[],#[.pointer (some ⟨U.size,0,none⟩)]⟩ (U.push (.cells #[.map m] CS (0,0)))) :
 ZG.c m U R:=by
 rintro w rfl;refine(callsIn_wide.1 (AnyZI.keys_in Tryz.lA Fence.wide 5 trivial rfl m w)).mono ?_;rintro e a ⟨rfl,rfl⟩;exact⟨⟨rfl,rfl,rfl,sA (by show _<(w.heap.push _).size;simp)⟩,[.func (.func Gx) #[] #[.pointer (some ⟨w.heap.size,0,none⟩)]],rfl,⟨Gx,#[],#[.pointer (some ⟨w.heap.size,0,none⟩)]⟩,rfl,hR⟩
theorem P4 {w:World}{c m:Nat}{B:List (Int×B5)}(hc:cell w.heap ⟨c,0,none⟩=some (.map (some m)))(hm:dM w.heap m .i64 (.ag 5) B)(hb:∀x∈B,Go.Bu.jB x.1)(hs:B.length<=1000000)(n:Nat)(hn:1<=n) :
 SeqGives Fence.wide n Tryz.prog Gx #[.pointer (some ⟨c,0,none⟩)] encZ (λss=>ss.Perm (B.map (·.1))) B.length w:=by
 obtain⟨D,p,j,a⟩:=VM (P:=Tryz.prog) Tryz.lA.t26 hm hb hs;have b:c<w.heap.size:=by
  unfold cell at hc;split at hc
  .rename_i h;exact(jT.1 h).1
  .cases hc
 have:=AnyZI.keys_gives (ρ:=Tryz.ik) {Tryz.lA with} Fence.wide n trivial rfl hn c m B.length D w b hc p;intro l J W hW hJ hY h0;rw[a]at this;refine(this l J W hW hJ hY h0).mono ?_;rintro e W' ⟨i,ss,d,g⟩;exact⟨i,ss,d.trans j,g⟩
theorem Nq {c m:Nat}{B:List (Int×B5)}(hc:cell U ⟨c,0,none⟩=some (.map (some m)))(hm:dM U m .i64 (.ag 5) B)(hb:∀x∈B,Go.Bu.jB x.1)(hs:B.length<=1000000){R:Sl->Hp->Prop}
 (hR:∀(s:Sl) (σ':Hp) (ss:List Int),aF U σ'->ss.Perm (B.map (·.1))->ss.Pairwise (· <= ·)->lp U.size σ' s (ss.map (Value.int .i64))->R s σ') :
 Ub.c ⟨Gx,#[],#[.pointer (some ⟨c,0,none⟩)]⟩ U R:=by
 rintro w rfl;have d:=P4 hc hm hb hs 2 O;have j:B.length<=maxLen:=by unfold maxLen;omega
 have u:=AnyZI.sorted_in Tryz.rW Fence.wide 5 trivial trivial trivial trivial rfl O (Au _) (Tryz.pN.f5.enters rfl) Gx #[.pointer (some ⟨c,0,none⟩)] trivial (Tryz.lA.f10.enters rfl) _ _ j O _ d;refine(callsIn_wide.1 u).mono ?_;rintro e D ⟨v,ss,rfl,z,g,r,i⟩;obtain⟨s,rfl,p⟩:=HO g;refine⟨HR i,[.slice s.a s.len s.cap],rfl,s,rfl,?_⟩;refine hR s _ (ss.mergeSort λx y=>decide (x<=y)) (Uj i) ((List.mergeSort_perm _ _).trans z) ?_ p;have:=List.pairwise_mergeSort (le:=λx y:Int=>decide (x<=y)) (λa b c A C=>by simp at *;omega) (λa b=>by simp;omega) ss;exact this.imp (λh=>by simpa using h)
structure wN (x:Gu) (es:List (Int×B5)):Prop where
 p:es.Perm x.kn
 s:es.Pairwise λa b=>a.1<b.1
def b4 (e:Int×B5):Bk:=(e.2.1,e.2.2.1,e.2.2.2.1,e.2.2.2.2.1)
theorem N9 (p:GP σ0 U L H held s0 P gb km fm x)(xi:∀e∈x.kn,e.1=e.2.1/\gJ e.2)(hl:x.kn.length<=1000000){R:Sl->Hp->Prop}(hR:∀s σ' es,aF U σ'->wN x es->bU s 4 (jt (es.map b4)) σ' (λb=>U.size<=b)->R s σ'):Zg.c (aW gb) U R:=by
 refine Zg.o ?_;unfold Zg.v;have C:∀e∈x.kn,Go.Bu.jB e.1:=λe g=>by
  have h:=xi e g;have J:=h.1;have G:=h.2.z;have h3:=h.2.base;have h4:=h.2.t;have h5:=h.2.m;have h6:=h.2.s;have Y:=YA (n:=e.2.2.1) O;unfold Go.Bu.jB;omega
 have r:=p.m.nodup;refine Uy p (cD rfl (bL (p.b.rM rfl (PD _ ?_))));have e1:aF U (U.push (.cells #[.map (some km)] CS (0,0))):=Ext.push _ _ _;have p1:=p.fr e1;refine Nq (by unfold cell;simp) p1.m C hl λs u d e2 Q D hs=>?_;have S:=e1.trans e2;have y:=cV.uC hs;have E:d.Nodup:=Q.nodup_iff.2 r;have Z:d.length=x.kn.length:=by rw[Q.length_eq];simp
 have hsl:s.len=d.length:=by have:=y.1;simp at this;omega
 let f:Int->Int×B5:=λk=>(k,(bS x.kn k).getD (0,0,0,0,0))
 have N:∀e∈x.kn,f e.1=e:=λe g=>by
  show(e.1,(bS x.kn e.1).getD (0,0,0,0,0))=e;rw[Qd r (show(e.1,e.2)∈x.kn from g)];rfl
 have hz1:U.size<u.size:=by
  have J:=e2.1;have G:(U.push (.cells #[.map (some km)] CS (0,0))).size=U.size+1:=by simp
  omega
 refine UJ (a:=.s) (bb:=bO) (λ(out:Sl) (z:Int) w=>∃i:Nat,z=i/\i<=d.length/\aF u w/\bU out 4 (jt (((d.take i).map f).map b4)) w (λb=>u.size<=b)) (λ_ z _=>d.length-z.toNat) ⟨0,rfl,O,Ext.refl _ _,⟨by simp[jt],.inl ⟨rfl,rfl⟩⟩⟩ ?_;rintro(out:Sl) (z:Int) w ⟨i,rfl,hil,ew,hr⟩;have Y:=p1.fr (e2.trans ew);refine cN (λhlt=>?_) λhge=>?_
 .have hx:d[i]?=some (d[i]' O):=cW _;have hol:out.len=i:=by have:=hr.1;rw[CP]at this;simp at this;omega
  have B:(d[i]' O)∈x.kn.map (·.1):=Q.mem_iff.1 (ky _);obtain⟨e,g,A⟩:=zE.1 B;have aa:f (d[i]' O)=e:=by rw[←A];exact N e g
  refine(aH.bP (aH.cut y) ew).mf hx (bL (Y.b.rM rfl ⟨x.kn,Y.m,?_⟩));have M:bS x.kn (d[i]' O)=some e.2:=by rw[←A];exact Qd r (show(e.1,e.2)∈x.kn from g)
  rw[M];refine hr.push (F:=λb=>u.size<=b) (vs:=kE (b4 e)) (λb K=>by have:=ew.1;omega) rfl rfl (by simp[kE,dY]) O O λs' w' ab X W=>?_;have e3:aF u w':=Ext.fresh ew X λb K=>K;refine cT (m:=i+1) O O ⟨⟨i+1,rfl,O,e3,?_⟩,O⟩;have:jt (((d.take (i+1)).map f).map b4)=jt (((d.take i).map f).map b4)++kE (b4 e):=by
   unfold jt;rw[kB,hx,zj,zj,List.flatMap_append];simp only[ru,zR,oC,pT,List.flatMap_nil,kG,aa]
  rw[this];exact W
 .have V:i=d.length:=O
  subst V;rw[mi]at hr;have j:(d.map f).Perm x.kn:=by
   have J:=Q.map f;rw[lQ]at J;have G:x.kn.map (f∘λe=>e.1)=x.kn:=by
    conv=>rhs;rw[←vJ x.kn]
    exact kh λe g=>N e g
   rwa [G]at J
  refine hR out w (d.map f) (S.trans ew) ⟨j,?_⟩ (aI.mono hr λb _ K=>by
   show U.size<=b;have K:u.size<=b:=K;omega)
  rw[td];exact(D.and E).imp λ{a b} ⟨J,G⟩=>by
   have h3:a≠b:=G;show a<b;omega
end Go.Ar
namespace Go.Proofs
open Go.Vc
set_option maxRecDepth 100000
def Wy.h:Hn:=.q .o1 (.q (.q .o3 .aK) (.q .o7 (.q (.q .o6 (.k (.loop [(20,.I)] (.q .o1 (.q (.c .l .l) (.q (.k (.q .o6 .o6)) .o2)))))) .aL)))
def Wy.v (a:R2)(b:Hp)(c:Sl->Hp->Prop):Prop:=Wm.c a b λd e=>If (!d) (c ⟨none,0,0⟩ e) (bF a 3 e λg=>Mk ((g.len:Nat):Int) ((g.len:Nat):Int) 8 3 [.I 0] e λh i=>bF a 3 i λk=>X9 [bO] (λl=>l 0 i) λm (n:Int) o=>If (n<((k.len:Nat):Int)) (Ix k.a k.len n 2 λp=>aQ p 0 o λq=>aQ p 1 o λr=>aV #[.I 0,.I 0] 101 o λs t=>aR s 0 (.I q) t λu=>aR s 1 (.I r) u λv=>aQ s 0 v λw=>Ix h.a h.len n 1 λx=>dG x (.I w) v λy=>bM (n+1) λz=>m z y) (c h o))
theorem Wy.o {a b c}(d:Wy.v a b c):Wy.c a b c:=Wa Tryz.func16 (x:=Wy.h) (R0 d)
def WE.h:Hn:=.q .o1 (.q (.q .o3 .aK) (.q .o1 (.q (.q .o6 (.k (.loop [(3,.I),(14,.I)] (.q .o1 (.q (.c .l .l) (.q (.k (.q .o4 .o5)) .o2)))))) .aL)))
def WE.v (a:R2)(b:Hp)(c:aN):Prop:=Wm.c a b λd e=>If (!d) (c 0 e) (bF a 3 e λg=>X9 [bO,bO] (λh=>h 0 0 e) λi (j:Int) (k:Int) l=>If (k<((g.len:Nat):Int)) (Ix g.a g.len k 2 λm=>aQ m 0 l λn=>aQ m 1 l λo=>aV #[.I 0,.I 0] 101 l λp q=>aR p 0 (.I n) q λr=>aR p 1 (.I o) r λs=>aQ p 1 s λt=>bM (j+t) λu=>bM (k+1) λv=>i u v s) (c j l))
theorem WE.o {a b c}(d:WE.v a b c):WE.c a b c:=Wa Tryz.func18 (x:=WE.h) (R0 d)
def Wp.h:Hn:=.q .o2 (.q (.q .o3 .aJ) (.q (.o 12) .l))
def Wp.v (a:R2)(b c d:Int)(e:Hp)(f:Int->Int->Hp->Prop):Prop:=Wm.c a e λg h=>If (!g) (f 0 5 h) (bG a 0 h λj=>Ye.c j b c d h λk l m=>f k l m)
theorem Wp.o {a b c d e f}(g:Wp.v a b c d e f):Wp.c a b c d e f:=Wa Tryz.func21 (x:=Wp.h) (R0 g)
def Wx.h:Hn:=.q .o1 (.q (.q .o3 .aK) (.q .o5 .l))
def Wx.v (a:R2)(b:Hp)(c:Option Addr->Hp->Prop):Prop:=Wm.c a b λd e=>If (!d) (c none e) (bG a 0 e λg=>c g e)
theorem Wx.o {a b c}(d:Wx.v a b c):Wx.c a b c:=Wa Tryz.func23 (x:=Wx.h) (R0 d)
def WM.h:Hn:=.q .o1 (.q (.q .o3 .aK) (.q .o7 (.q .o6 .aL)))
def WM.v (a:R2)(b:Hp)(c:Sl->Hp->Prop):Prop:=Wm.c a b λd e=>If (!d) (c ⟨none,0,0⟩ e) (bF a 4 e λg=>Mk ((g.len:Nat):Int) ((g.len:Nat):Int) 16 62 [.I 0,.I 0] e λh i=>bF a 4 i λk=>sF h 2 k i λl m=>c h m)
theorem WM.o {a b c}(d:WM.v a b c):WM.c a b c:=Wa Tryz.func27 (x:=WM.h) (R0 d)
def WD.h:Hn:=.q .o2 (.q (.q .o4 (.q .o2 (.c (.q .o3 .l) .l))) (.q .o6 (.q (.k (.loop [] (.q (.q .o6 (.c .l .l)) (.k .o3)))) (.q .o3 .l))))
def WD.v (a:R2)(b:Int)(c:Hp)(d:Int->Int->Hp->Prop):Prop:=WK.c a b c λe f=>If (e != 0) (d 0 e f) (bF a 3 f λh=>X9 [] (λi=>i f) λj k=>bF a 3 k λm=>If (((m.len:Nat):Int)>0) (WB.c a b k λn=>j n) (d ((h.len:Nat):Int) 0 k))
theorem WD.o {a b c d}(e:WD.v a b c d):WD.c a b c d:=Wa Tryz.func30 (x:=WD.h) (R0 e)
def Wj.h:Hn:=.q .o1 (.q (.q .o4 (.q .o2 .aJ)) (.q (.q .o3 .aK) (.q .o9 (.q (.q .o2 (.c (.q .o8 .l) .l)) (.q (.o 11) (.q (.q .o2 .aJ) (.q (.q .o3 .aK) (.q (.q .o4 (.k (.loop [(56,.I)] (.q .o1 (.q (.c .l .l) (.q (.k (.q .o3 .o7)) .o2)))))) (.q (.cU (.held true [13] (.tk [0,1,2,3,4,5,6,7,8] (.all [(9,.all [(10,.take 11 (.take 12 (.all [(13,.done)])))])])))) (.q (.k (.loop [] (.q (.q (.cU (.gM true [] [(99,.one .b)] (.take 0 (.take 1 (.take 2 (.take 3 (.take 4 (.take 5 (.take 6 (.take 7 (.take 8 (.take 9 (.take 10 (.split 91 (.take 11 (.take 12 (.take 13 (.take 14 (.take 15 (.take 16 (.take 17 (.take 18 (.done))))))))) (.take 11 (.take 13 (.take 14 (.take 15 (.take 16 (.all [(12,.take 17 (.take 18 (.done)))])))))))))))))))))))) (.c .l .l)) (.k .o3)))) .aM))))))))))
def Wj.v (a:R2)(b c:Int)(d:Hp)(e:aN):Prop:=WK.c a b d λf g=>If (f != 0) (e f g) (WS.c a c g λh i=>If h (e 9 i) (WC.c a c i λj k l m n o=>aV #[.I 0,.I 0,.I 0,.I 0] 48 o λp q=>aR p 0 (.I j) q λr=>aR p 1 (.I k) r λs=>aR p 2 (.I l) s λt=>aR p 3 (.I m) t λu=>If (!n) (bG a 0 u λw=>Zf.c w b c u λx y=>e x y) (bG a 0 u λaa=>X7.c aa c u λab ac ad=>If (ac != 0) (e ac ad) (If (((ab.len:Nat):Int)>0) (e 10 ad) (aQ p 0 ad λae=>aQ p 1 ad λaf=>aQ p 2 ad λag=>aQ p 3 ad λah=>XW.c ae af ag ah ad λai aj=>X9 [bO] (λak=>ak 0 aj) λal (am:Int) an=>If (am<((ai.len:Nat):Int)) (Ix ai.a ai.len am 1 λao=>bN ao an λap=>bG a 0 an λar=>XG.c ar an λau av=>Xy.c au ap (-1234567) av λaw ax=>bM (am+1) λay=>al ay ax) (dT an λaz=>bW a λa0=>aT az a0 3 λa1=>aS az p 1 λa2=>aV #[.I c,.I a2] 101 an λa3 a4=>And (az a4) <| App a1 2 16 101 [.I 0,.I 0] ⟨some a3,1,1⟩ a4 λa5 a6=>And (az a6) <| bW a λa7=>aR a7 3 (.slice a5.a a5.len a5.cap) a6 λa8=>X9 [] (λa9=>a9 a8) λba bb=>Jn [.b] (λ(bc:Bool) bd=>If bc (WB.c a b bd λbe=>ba be) (e 0 bd)) λbf=>dT bb λbg=>bW a λbh=>aT bg bh 3 λbi=>bW a λbj=>aS bg bj 1 λbk=>If (((bi.len:Nat):Int)>bk) (bf true bb) (bW a λbl=>
 aS bg bl 2 λbm=>WE.c a bb λbn bo=>And (bg bo) <| bf (decide (bn>bm)) bo)))))))
theorem Wj.o {a b c d e}(f:Wj.v a b c d e):Wj.c a b c d e:=Wa Tryz.func34 (x:=Wj.h) (R0 f)
def Zs.h:Hn:=.q .o2 (.q (.q (.cU (.seq [.op,.op,.op,.op,.cZ false 2 [.op,.op],.op,.cZ false 2 [.op,.op],.op,.cZ false 2 [.op,.op],.op,.cZ false 2 [.op,.op]])) .aJ) (.q .o7 .l))
def Zs.v (a:R2)(b c:Int)(d:Hp)(e:Option Addr->Int->Hp->Prop):Prop:=XG.c a d λf g=>bX (λh i=>bX (λj k=>bX (λl m=>bX (λn o=>If n (e none 1 o) (aV #[.pointer a,.I b,.I c,.slice none 0 0,.slice none 0 0] 71 o λp q=>e (some p) 0 q)) λr=>If l (r true m) (r (decide (c>16384)) m)) λs=>If j (s true k) (s (decide (c<0)) k)) λt=>If h (t true i) (t (decide (b>64)) i)) λu=>If f.isNone (u true g) (u (decide (b<0)) g)
theorem Zs.o {a b c d e}(f:Zs.v a b c d e):Zs.c a b c d e:=Wa Tryz.func36 (x:=Zs.h) (R0 f)
def WG.h:Hn:=.q .o2 (.q (.q .o3 .aJ) (.q (.q .o3 .aJ) (.q .gE .l)))
def WG.v (a:R2)(b:Int)(c:Hp)(d:Int->Int->Hp->Prop):Prop:=Wm.c a c λe f=>If (!e) (d 0 5 f) (WL.c a b f λg h=>If g (d 0 9 h) (bG a 0 h λj=>Zj.c j b h λk l m=>d k l m))
theorem WG.o {a b c d}(e:WG.v a b c d):WG.c a b c d:=Wa Tryz.func37 (x:=WG.h) (R0 e)
def WQ.h:Hn:=.q .o1 (.q (.q .o3 .aK) (.q (.q .o3 .aK) (.q .o8 .l)))
def WQ.v (a:R2)(b c:Int)(d:Hp)(e:aN):Prop:=Wm.c a d λf g=>If (!f) (e 5 g) (WL.c a b g λh i=>If h (e 9 i) (bG a 0 i λk=>YI.c k b c i λl m=>e l m))
theorem WQ.o {a b c d e}(f:WQ.v a b c d e):WQ.c a b c d e:=Wa Tryz.func40 (x:=WQ.h) (R0 f)
def Wm.h:Hn:=.q .o1 (.q (.cU (.seq [.op,.op,.op,.cZ true 5 (RI.ops 5),.op])) .l)
def Wm.v (a:R2)(b:Hp)(c:aO):Prop:=bX (λd e=>c d e) λf=>If (!a.isNone) (bG a 0 b λh=>f (!h.isNone) b) (f false b)
theorem Wm.o {a b c}(d:Wm.v a b c):Wm.c a b c:=Wa Tryz.func55 (x:=Wm.h) (R0 d)
def WK.h:Hn:=.q .o1 (.q (.q .o3 .aK) (.q .o6 (.q (.q (.cU (.seq [.op,.op,.op,.cZ false 5 (RI.ops 5)])) .aK) (.q (.q .o4 .aK) .aM))))
def WK.v (a:R2)(b:Int)(c:Hp)(d:aN):Prop:=Wm.c a c λe f=>If (!e) (d 5 f) (bG a 0 f λh=>XG.c h f λi j=>bX (λk l=>If k (d 1 l) (YX.c i b l λm n=>If (!(m.toList==(ByteArray.mk #[]).toList)) (d 5 n) (d 0 n))) λo=>If (b<0) (o true j) (XY.c i j λp q r s t u=>o (decide (b≥r)) u))
theorem WK.o {a b c d}(e:WK.v a b c d):WK.c a b c d:=Wa Tryz.func63 (x:=WK.h) (R0 e)
def WB.h:Hn:=.q .o8 (.q .gE (.q .gE (.q (.q .o2 (.c .l .l)) (.q (.cU (.held true [6] (.tk [0,1,2,3,4,5] (.all [(6,.tk [7,8,9,10,11] (.done))])))) (.q (.q .o2 (.c .l .l)) (.q (.q .o4 (.k (.loop [(7,.one .s),(52,.I)] (.q .o1 (.q (.c .l .l) (.q (.k (.q .o3 (.q (.o 12) (.q (.cU (.seq [.op,.op,.op,.cZ false 2 [.op,.op]])) (.c .o5 .l))))) .o2)))))) (.kx [] (.q .o3 (.c (.cU (.held true [14] (.tk [0,1,2,3,4,5,6,7] (.all [(8,.take 9 (.all [(10,.all [(11,.take 12 (.take 13 (.all [(14,.done)])))])]))])))) .l)) (.cU (.tail 7 (RI.ops 7) [.op])))))))))
def WB.v (a:R2)(b:Int)(c:Hp)(d:aP):Prop:=bF a 3 c λf=>Ix f.a f.len 0 2 λg=>aQ g 0 c λh=>aQ g 1 c λi=>aV #[.I 0,.I 0] 101 c λj k=>aR j 0 (.I h) k λl=>aR j 1 (.I i) l λm=>bF a 3 m λo=>fI o 2 1 (o.len:Nat) (o.cap:Nat) λp=>Wh.c p m λq r=>bW a λs=>aR s 3 (.slice q.a q.len q.cap) r λt=>aQ j 0 t λu=>WC.c a u t λv w x y z aa=>aV #[.I 0,.I 0,.I 0,.I 0] 48 aa λab ac=>aR ab 0 (.I v) ac λad=>aR ab 1 (.I w) ad λae=>aR ab 2 (.I x) ae λaf=>aR ab 3 (.I y) af λag=>If (!z) (d ag) (dT ag λah=>bW a λai=>aU ah ai 0 λaj=>aS ah j 0 λak=>X7.c aj ak ag λal am an=>If (am != 0) (d an) (aQ ab 0 an λao=>aQ ab 1 an λap=>aQ ab 2 an λaq=>aQ ab 3 an λar=>XW.c ao ap aq ar an λau av=>X9 [.s,bO] (λaw=>aw al 0 av) λax (ay:Sl) (az:Int) a0=>If (az<((au.len:Nat):Int)) (Ix au.a au.len az 1 λa1=>bN a1 a0 λa2=>bG a 0 a0 λa4=>XG.c a4 a0 λa5 a6=>YK.c a5 a2 a6 λa7 a8 a9=>bX (λba bb=>If ba (aV #[.I a2] 3 bb λbc bd=>App ay 1 8 3 [.I 0] ⟨some bc,1,1⟩ bd λbe bf=>bM (az+1) λbg=>ax be bg bf) (bM (az+1) λbh=>ax ay bh bb)) λbi=>If (a8 != 0) (bi true a9) (bi (a7 != (-1234567)) a9)) (Jn [] (λbj=>bG a 0 bj λbl=>aQ j 0 bj λbm=>
 Zl.c bl b bm bj λbn bo=>d bo) λbp=>If (((ay.len:Nat):Int)>0) (dT a0 λbq=>bW a λbr=>aT bq br 4 λbs=>aS bq j 0 λbt=>W7.c ay a0 λbu bv=>And (bq bv) <| aV #[.I bt,.I bu] 62 bv λbw bx=>And (bq bx) <| App bs 2 16 62 [.I 0,.I 0] ⟨some bw,1,1⟩ bx λbz b0=>And (bq b0) <| bW a λb1=>aR b1 4 (.slice bz.a bz.len bz.cap) b0 λb2=>bp b2) (bp a0))))
theorem WB.o {a b c d}(e:WB.v a b c d):WB.c a b c d:=Wa Tryz.func64 (x:=WB.h) (R0 e)
def WS.h:Hn:=.q .o2 (.q .o7 .l)
def WS.v (a:R2)(b:Int)(c:Hp)(d:aO):Prop:=aV #[.I b] 3 c λe f=>bF a 3 f λh=>Wb.c h ⟨115,#[],#[.pointer (some e)]⟩ f λi j=>d i j
theorem WS.o {a b c d}(e:WS.v a b c d):WS.c a b c d:=Wa Tryz.func68 (x:=WS.h) (R0 e)
def WC.h:Hn:=.q .o2 (.q .o6 (.q .o8 (.q (.q .o2 (.c (.q .o3 .l) .l)) (.q .o6 .l))))
def WC.v (a:R2)(b:Int)(c:Hp)(d:Int->Int->Int->Int->Bool->Hp->Prop):Prop:=aV #[.I 0,.I 0,.I 0,.I 0] 48 c λe f=>bG a 0 f λh=>Zg.c h f λi j=>Wf.c i b ⟨117,#[],#[]⟩ j λk l m=>If (!l) (aR e 0 (.I 0) m λn=>aR e 1 (.I 0) n λo=>aR e 2 (.I 0) o λp=>aR e 3 (.I 0) p λq=>aQ e 0 q λr=>aQ e 1 q λs=>aQ e 2 q λt=>aQ e 3 q λu=>d r s t u false q) (Ix i.a i.len k 4 λv=>aQ v 0 m λw=>aQ v 1 m λx=>aQ v 2 m λy=>aQ v 3 m λz=>aR e 0 (.I w) m λaa=>aR e 1 (.I x) aa λab=>aR e 2 (.I y) ab λac=>aR e 3 (.I z) ac λad=>aQ e 0 ad λae=>aQ e 1 ad λaf=>aQ e 2 ad λag=>aQ e 3 ad λah=>d ae af ag ah true ad)
theorem WC.o {a b c d}(e:WC.v a b c d):WC.c a b c d:=Wa Tryz.func69 (x:=WC.h) (R0 e)
def XW.h:Hn:=.q .o2 (.q .o1 (.q (.q .o1 (.k (.loop [(3,.one .s),(4,.I)] (.q (.q .o4 (.c .l .l)) (.q (.k .o8) .o3))))) .aL))
def XW.v (a b c d:Int)(e:Hp)(f:Sl->Hp->Prop):Prop:=aV #[.I a,.I b,.I c,.I d] 48 e λg h=>X9 [.s,bO] (λi=>i ⟨none,0,0⟩ 0 h) λj (k:Sl) (l:Int) m=>aQ g 1 m λn=>If (l<n) (aQ g 0 m λo=>bM (o+l) λp=>aV #[.I p] 3 m λq r=>App k 1 8 3 [.I 0] ⟨some q,1,1⟩ r λs t=>bM (l+8) λu=>j s u t) (f k m)
theorem XW.o {a b c d e f}(g:XW.v a b c d e f):XW.c a b c d e f:=Wa Tryz.func72 (x:=XW.h) (R0 g)
def WL.h:Hn:=.q .o3 (.q .o7 .l)
def WL.v (a:R2)(b:Int)(c:Hp)(d:aO):Prop:=aV #[.pointer a] 33 c λe f=>aV #[.I b] 3 f λg h=>fZ e h λi=>bF i 3 h λk=>Wb.c k ⟨121,#[],#[.pointer (some e),.pointer (some g)]⟩ h λl m=>d l m
theorem WL.o {a b c d}(e:WL.v a b c d):WL.c a b c d:=Wa Tryz.func75 (x:=WL.h) (R0 e)
def W5.h:Hn:=.q .o2 (.q .o5 .l)
def W5.v (a b:Int)(c:Addr)(d:Hp)(e:aO):Prop:=aV #[.I a,.I b] 101 d λf g=>aQ f 0 g λh=>bN c g λi=>e (h==i) g
theorem W5.o {a b c d e}(f:W5.v a b c d e):W5.c a b c d e:=Wa Tryz.func115 (x:=W5.h) (R0 f)
def WX.h:Hn:=.q .o2 (.q .o5 .l)
def WX.v (a b c d e:Int)(f:Hp)(g:aN):Prop:=aV #[.I a,.I b,.I c,.I d] 48 f λh i=>aQ h 0 i λj=>bM (j-e) λk=>g k i
theorem WX.o {a b c d e f g}(h:WX.v a b c d e f g):WX.c a b c d e f g:=Wa Tryz.func117 (x:=WX.h) (R0 h)
def WY.h:Hn:=.q .o2 (.q .gE (.q (.cU (.gM true [] [(4,.one .b)] (.take 0 (.take 1 (.split 15 (.take 2 (.take 4 (.all [(3,.all [(5,.take 6 (.take 7 (.done)))])]))) (.take 2 (.take 3 (.take 4 (.take 5 (.take 6 (.take 7 (.done)))))))))))) .l))
def WY.v (a b:Int)(c d:Addr)(e:Hp)(f:aO):Prop:=aV #[.I a,.I b] 101 e λg h=>fZ c h λi=>aQ g 0 h λj=>WC.c i j h λk l m n o p=>aV #[.I 0,.I 0,.I 0,.I 0] 48 p λq r=>aR q 0 (.I k) r λs=>aR q 1 (.I l) s λt=>aR q 2 (.I m) t λu=>aR q 3 (.I n) u λv=>Jn [.b] (λ(w:Bool) x=>f w x) λy=>dT v λz=>If o (aS z q 0 λaa=>aS z q 1 λab=>aS z q 2 λac=>aS z q 3 λad=>gF z bO d λ(ae:Int)=>XW.c aa ab ac ad v λaf ag=>And (z ag) <| Ww.c af ae ag λah ai=>And (z ai) <| y ah ai) (y false v)
theorem WY.o {a b c d e f}(g:WY.v a b c d e f):WY.c a b c d e f:=Wa Tryz.func121 (x:=WY.h) (R0 g)
end Go.Proofs
namespace Go.Ar
open Go Go.Vc Go.Proofs
open Go.Vc (bS cX cO)
variable {U σ0 v w w':Hp}{F P Q X T:Rg}{L:dE}{H H' H1:Hw}{held:List Pc}{s0 sp:Sp}{t n:Nat}{gb km fm m:Nat}{x y:Gu}{b:B5}
abbrev P2:=Int×Int
def lD (e:P2):List Value:=[.int .i64 e.1,.int .i64 e.2]
def gP (l:List P2):List Value:=l.flatMap lD
theorem UV (l:List P2):(gP l).length=l.length*2:=by
 induction l with
 | nil=>rfl
 | cons e l ih=>simp only[gP,pT,zM,zS,lD,lh]at *;omega
theorem BW:∀{l:List P2} {i:Nat} {e:P2},l[i]?=some e->∀{d:Nat},d<2->(gP l)[2*i+d]?=(lD e)[d]?
 | [],_,_,h,_,_=>by simp at h
 | y::l,0,e,h,d,hd=>by
  simp at h;subst h;have e1:gP (y::l)=lD y++gP l:=by simp[gP]
  have a:(lD y).length=2:=rfl;rw[e1,zd O];congr 1;omega
 | y::l,i+1,e,h,d,hd=>by
  have e1:gP (y::l)=lD y++gP l:=by simp[gP]
  have a:(lD y).length=2:=rfl;rw[e1,zp O,a,show 2*(i+1)+d-2=2*i+d by omega];exact BW (by simpa using h) hd
theorem Lh:∀(l:List P2) (n:Nat),gP (l.drop n)=(gP l).drop (n*2)
 | l,0=>by simp
 | [],n+1=>by simp[gP]
 | y::l,n+1=>by
  have e1:gP (y::l)=lD y++gP l:=by simp[gP]
  have a:(lD y).length=2:=rfl;rw[vR,e1,Lh l n,List.drop_append,B9 (l:=lD y) O,a,show(n+1)*2-2=n*2 by omega,tg]
theorem FK:∀(l:List P2),∀v∈gP l,dY v=true:=by
 intro l v a;simp only[gP,List.mem_flatMap,lD]at a;obtain⟨e,_,a⟩:=a;simp at a;rcases a with rfl|rfl<;>rfl
structure Qu where
 bl:Int
 by':Int
 q:List P2
 rs:List P2
def iF (l:List P2):Int:=(l.map (·.2)).sum
structure nW (q:Qu):Prop where
 bl:0<=q.bl/\q.bl<=64
 by':0<=q.by'/\q.by'<=16384
 ql:q.q.length<=66
 qs:∀e∈q.q,1<=e.2/\e.2<=1024
 rl:q.rs.length<=10000
def Ho (q:Qu):Bool:=decide ((q.q.length:Int)>q.bl)||decide (iF q.q>q.by')
theorem Ng (e:P2)(l:List P2):iF (e::l)=e.2+iF l:=by simp[iF]
theorem Wjs (l:List P2)(e:P2):iF (l++[e])=iF l+e.2:=by simp[iF]
theorem PC {l:List P2}(h:∀e∈l,1<=e.2/\e.2<=1024):0<=iF l/\iF l<=l.length*1024:=by
 induction l with
 | nil=>simp[iF]
 | cons e l ih=>
  have d:=h e mL;have b:=ih λe a=>h e (l7 _ a);rw[Ng,zS];omega
def sS (sp:Sp)(b:B5):List Int:=(XR b).filter λz=>eP sp z != 0||Q0 sp z != Gg
def Ku (H:Hw)(b:B5):List Int:=QR H.sp b++sS H.sp b
def lF:List Int->Int
 | []=>0
 | a::l=>l.foldl (λm z=>if z<m then z else m) a
inductive gG (thread:Int) (H:Hw) (x:Gu) (q:Qu):Hw->Gu->Qu->Prop where
 | none {e:P2} {r:List P2}:q.q=e::r->(bS x.kn e.1=none\/k5 H x e.1≠0)->gG thread H x q H x {q with q:=r}
 | stay {e:P2} {r:List P2} {b:B5}:q.q=e::r->bS x.kn e.1=some b->k5 H x e.1=0->lY H x thread e.1 false≠0->gG thread H x q H x ⟨q.bl,q.by',r,if Ku H b=[]then q.rs else q.rs++[(e.1,lF (Ku H b))]⟩
 | free {e:P2} {r:List P2} {b:B5} {H1:Hw} {er:Int}:q.q=e::r->bS x.kn e.1=some b->k5 H x e.1=0->lY H x thread e.1 false=0->KO (dQ H b) thread 1 0 0 b.2.2.1 H1 0 er->fV (dQ H b) H1->nG (dQ H b) thread b.2.2.1 H1 er →
  gG thread H x q H1 (x.gone e.1) ⟨q.bl,q.by',r,if Ku H b=[]then q.rs else q.rs++[(e.1,lF (Ku H b))]⟩
inductive iL (thread:Int):Hw->Gu->Qu->Hw->Gu->Qu->Prop where
 | stop {H:Hw} {x:Gu} {q:Qu}:Ho q=false->iL thread H x q H x q
 | next {H H1 H':Hw} {x x1 x':Gu} {q q1 q':Qu}:Ho q=true->gG thread H x q H1 x1 q1->iL thread H1 x1 q1 H' x' q'->iL thread H x q H' x' q'
inductive iA (thread:Int):Hw->Gu->Qu->Hw->Gu->Qu->Prop where
 | stop {H:Hw} {x:Gu} {q:Qu}:q.q=[]->iA thread H x q H x q
 | next {H H1 H':Hw} {x x1 x':Gu} {q q1 q':Qu}:gG thread H x q H1 x1 q1->iA thread H1 x1 q1 H' x' q'->iA thread H x q H' x' q'
def vZ (gb:Nat)(q:Qu)(qs rs:Sl):List Value:=[.pointer (some ⟨gb,0,none⟩),.int .i64 q.bl,.int .i64 q.by',.slice qs.a qs.len qs.cap,.slice rs.a rs.len rs.cap]
def kA (P:Rg)(gb km fm qb:Nat)(Qq Qr:Rg):Rg:=λb=>Mg P gb km fm b\/b=qb\/Qq b\/Qr b
structure QP (σ0 U:Hp) (L:dE) (H:Hw) (held:List Pc) (s0:Sp) (P:Rg) (gb km fm:Nat) (x:Gu) (qb:Nat) (Qq Qr:Rg) (qs rs:Sl) (q:Qu):Prop where
 p:GP σ0 U L H held s0 P gb km fm x
 b:bY U qb (vZ gb q qs rs)
 rq:bU qs 2 (gP q.q) U Qq
 rr:bU rs 2 (gP q.rs) U Qr
 tI:σ0.size<=qb/\¬Mg P gb km fm qb/\¬Qq qb/\¬Qr qb
 qq:∀b,Qq b->σ0.size<=b/\b<U.size/\¬Mg P gb km fm b
 qr:∀b,Qr b->σ0.size<=b/\b<U.size/\¬Mg P gb km fm b
 dj:∀b,Qq b->¬Qr b
 i:nW q
variable {qb:Nat}{Qq Qr:Rg}{qs rs:Sl}{q:Qu}
theorem QP.fr (o:QP σ0 U L H held s0 P gb km fm x qb Qq Qr qs rs q)(e:aF U w):QP σ0 w L H held s0 P gb km fm x qb Qq Qr qs rs q:=
 ⟨o.p.fr e,e.bV o.b id,aI.bP o.rq e,aI.bP o.rr e,o.tI,λb a=>by have h:=o.qq b a;have:=e.1;exact⟨h.1,O,h.2.2⟩,λb a=>by have h:=o.qr b a;have:=e.1;exact⟨h.1,O,h.2.2⟩,o.dj,o.i⟩
theorem QP.eX (o:QP σ0 U L H held s0 P gb km fm x qb Qq Qr qs rs q){L':dE}{held':List Pc}{s0':Sp}{P':Rg}(e:Ext (Mg P gb km fm) U w)(p':GP σ0 w L' H' held' s0' P' gb km fm y)(hP:∀b,P' b->P b\/U.size<=b) :
 QP σ0 w L' H' held' s0' P' gb km fm y qb Qq Qr qs rs q:=by
 have E:=e.1;have a:=o.b.lt;obtain⟨B,s,C,A⟩:=o.tI;have j:∀b,b<U.size->¬Mg P gb km fm b->¬Mg P' gb km fm b:=λb D u z=>by
  rcases IJ ⟨o.p.b.lt,o.p.m.lt,o.p.f.lt⟩ hP b z with h4|h4
  .exact u h4
  .omega
 exact⟨p',e.bV o.b s,aI.bT o.rq e λb _ r d=>(o.qq b r).2.2 d,aI.bT o.rr e λb _ r d=>(o.qr b r).2.2 d,⟨B,j _ a s,C,A⟩,λb g=>by have h:=o.qq b g;exact⟨h.1,O,j b h.2.1 h.2.2⟩,λb g=>by have h:=o.qr b g;exact⟨h.1,O,j b h.2.1 h.2.2⟩,o.dj,o.i⟩
theorem QP.out (o:QP σ0 U L H held s0 P gb km fm x qb Qq Qr qs rs q)(e:Ext T U w)(hT:∀b,b<U.size->T b->¬kA P gb km fm qb Qq Qr b/\σ0.size<=b):QP σ0 w L H held s0 P gb km fm x qb Qq Qr qs rs q:=by
 have s:=e.1;have j:=o.b.lt;refine⟨o.p.out e λb a d=>?_,e.bV o.b λd=>(hT qb j d).1 (.inr (.inl rfl)),aI.bT o.rq e λb a m d=>(hT b a d).1 (.inr (.inr (.inl m))),aI.bT o.rr e λb a m d=>(hT b a d).1 (.inr (.inr (.inr m))),o.tI,λb a=>by have h:=o.qq b a;exact⟨h.1,O,h.2.2⟩,λb a=>by have h:=o.qr b a;exact⟨h.1,O,h.2.2⟩,o.dj,o.i⟩;have h:=hT b a d;have g:=VC λr=>h.1 (.inl r);exact⟨g.1,g.2.1,g.2.2.1,g.2.2.2,h.2⟩
theorem QP.yF (o:QP σ0 U L H held s0 P gb km fm x qb Qq Qr qs rs q){s':Sl}{l':List P2}{Q':Rg}(e:Ext Qq U w)(hr:bU s' 2 (gP l') w Q')(hQ:∀b,Q' b->Qq b\/U.size<=b/\b<w.size)(hi:nW {q with q:=l'}){K:aP}
 (hK:∀u,Ext (· = qb) w u->QP σ0 u L H held s0 P gb km fm x qb Q' Qr s' rs {q with q:=l'}->K u):dG (Addr.add ⟨qb,0,none⟩ 3) (.slice s'.a s'.len s'.cap) w K:=by
 have M:=e.1;have D:=o.b.lt;obtain⟨A,C,B,y⟩:=o.tI;have E:=o.p.out e λb _ d=>by have h:=o.qq b d;have g:=VC h.2.2;exact⟨g.1,g.2.1,g.2.2.1,g.2.2.2,h.1⟩
 have m:=aI.bT o.rr e λb _ j J=>o.dj b J j;refine(e.bV o.b B).s1 (by simp[vZ]) λu s b=>?_;have i:=s.ext;have G:=s.1;have g:=VC C;have z:¬Q' qb:=λh=>by
  rcases hQ qb h with h|h
  .exact B h
  .omega
 refine hK u i ⟨E.out i λb _ (d:b=qb)=>by subst d;exact⟨g.1,g.2.1,g.2.2.1,g.2.2.2,A⟩,b,aI.bT hr i λb _ r (d:b=qb)=>z (d▸r),aI.bT m i λb _ r (d:b=qb)=>y (d▸r),⟨A,C,z,y⟩,λb d=>?_,λb d=>by have h:=o.qr b d;exact⟨h.1,O,h.2.2⟩,λb d j=>?_,hi⟩
 .rcases hQ b d with d|d
  .have h:=o.qq b d;exact⟨h.1,O,h.2.2⟩
  .have:=o.p.e.1;exact⟨O,O,λF=>by have:=ux o.p F;omega⟩
 .rcases hQ b d with d|d
  .exact o.dj b d j
  .have:=(o.qr b j).2.1;omega
theorem QP.gH (o:QP σ0 U L H held s0 P gb km fm x qb Qq Qr qs rs q){s':Sl}{l':List P2}{Q':Rg}(e:Ext Qr U w)(hr:bU s' 2 (gP l') w Q')(hQ:∀b,Q' b->Qr b\/U.size<=b/\b<w.size)(hi:nW {q with rs:=l'}){K:aP}
 (hK:∀u,Ext (· = qb) w u->QP σ0 u L H held s0 P gb km fm x qb Qq Q' qs s' {q with rs:=l'}->K u):dG (Addr.add ⟨qb,0,none⟩ 4) (.slice s'.a s'.len s'.cap) w K:=by
 have M:=e.1;have D:=o.b.lt;obtain⟨A,C,B,y⟩:=o.tI;have E:=o.p.out e λb _ d=>by have h:=o.qr b d;have g:=VC h.2.2;exact⟨g.1,g.2.1,g.2.2.1,g.2.2.2,h.1⟩
 have r:=aI.bT o.rq e λb _ i J=>o.dj b i J;refine(e.bV o.b y).s1 (by simp[vZ]) λu s b=>?_;have j:=s.ext;have G:=s.1;have g:=VC C;have z:¬Q' qb:=λh=>by
  rcases hQ qb h with h|h
  .exact y h
  .omega
 refine hK u j ⟨E.out j λb _ (d:b=qb)=>by subst d;exact⟨g.1,g.2.1,g.2.2.1,g.2.2.2,A⟩,b,aI.bT r j λb _ m (d:b=qb)=>B (d▸m),aI.bT hr j λb _ m (d:b=qb)=>z (d▸m),⟨A,C,B,z⟩,λb d=>by have h:=o.qq b d;exact⟨h.1,O,h.2.2⟩,λb d=>?_,λb d i=>?_,hi⟩
 .rcases hQ b d with d|d
  .have h:=o.qr b d;exact⟨h.1,O,h.2.2⟩
  .have:=o.p.e.1;exact⟨O,O,λF=>by have:=ux o.p F;omega⟩
 .rcases hQ b i with i|i
  .exact o.dj b d i
  .have:=(o.qq b d).2.1;omega
theorem JB (o:QP σ0 U L H held s0 P gb km fm x qb Qq Qr qs rs q){c:Nat}(h:kA P gb km fm qb Qq Qr c):σ0.size<=c/\c<U.size:=by
 rcases h with h|rfl|h|h
 .refine⟨?_,ux o.p h⟩;rcases h with h|rfl|rfl|rfl
  .exact(o.p.pP c h).1
  .exact o.p.rF.1
  .exact o.p.tz.1
  .exact o.p.tf.1
 .exact⟨o.tI.1,o.b.lt⟩
 .have:=o.qq c h;exact⟨this.1,this.2.1⟩
 .have:=o.qr c h;exact⟨this.1,this.2.1⟩
theorem uJ {s:Sl}{l:List P2}(hs:cV s 2 (gP l) U F){i:Nat}{e:P2}(hb:l[i]?=some e){K:Addr->Prop}(hK:∀bb o,(∀(j:Nat) v,(lD e)[j]?=some v->cell U ⟨bb,o+j,none⟩=some v)->K ⟨bb,o,none⟩):Ix s.a s.len (i:Int) 2 K:=by
 have p:=(cY.1 hb).1;have x:s.len=l.length:=by have:=hs.1;rw[UV]at this;omega
 obtain⟨b,o,m,_⟩:=hs.cell (j:=2*i+0) (v:=.int .i64 e.1) ((BW hb O).trans rfl);rw[m];refine ix O O ?_;rw[add_lit];refine hK b _ λj v g=>?_;have r:j<2:=(cY.1 g).1;obtain⟨y,w,d,u⟩:=hs.cell ((BW hb r).trans g);rw[m]at d;cases d;rw[show o+(i:Int).toNat*2+j=o+(2*i+j) by omega];exact u
theorem _root_.Go.Vc.bU.kK {s:Sl}{l:List P2}(h:bU s 2 (gP l) U F):s.len=l.length:=by have:=h.1;rw[UV]at this;omega
theorem uI {ty:Nat}{a c:Int}{K:Addr->Hp->Prop}(hK:∀w',aF U w'->w'.size=U.size+1->bY w' U.size [.int .i64 a,.int .i64 c]->K ⟨U.size,0,none⟩ w'):Nw (.cells #[.int .i64 0,.int .i64 0] ty (0,0)) U λn v20=>dG (n.add 0) (.int .i64 a) v20 λv21=>dG (n.add 1) (.int .i64 c) v21 λv22=>K n v22:=
 nw (cs:=[.int .i64 0,.int .i64 0]) λv20 r j m=>m.s1 aA λv21 d p=>p.s1 aA λv22 b g=>
  hK v22 (Ext.fresh j (d.ext.trans b.ext) λi (hi:i=U.size)=>O) (by have:=d.1;have:=b.1;omega) g
theorem si {ty:Nat}{a b c d:Int}{K:Addr->Hp->Prop}(hK:∀w',aF U w'->bY w' U.size (kE (a,b,c,d))->K ⟨U.size,0,none⟩ w'):Nw (.cells #[.int .i64 0,.int .i64 0,.int .i64 0,.int .i64 0] ty (0,0)) U λn v20=>dG (n.add 0) (.int .i64 a) v20 λv21=>dG (n.add 1) (.int .i64 b) v21 λv22=>dG (n.add 2) (.int .i64 c) v22 λv23=>dG (n.add 3) (.int .i64 d) v23 λv24=>K n v24:=
 nw (cs:=[.int .i64 0,.int .i64 0,.int .i64 0,.int .i64 0]) λv20 z j m=>m.s1 aA λv21 u y=>y.s1 aA λv22 p g=>g.s1 aA λv23 x s=>s.s1 aA λv24 w r=>
  hK v24 (Ext.fresh j (((u.ext.trans p.ext).trans x.ext).trans w.ext) λi (hi:i=U.size)=>O) r
theorem JO {s:Sl}{l:List P2}(hr:bU s 2 (gP l) U Q)(hl:l.length<=100000)(k:P2){S:aP}(hS0:∀u,aF U u->S u){e t:Nat}{K:Sl->Hp->Prop}
 (hK:∀s' w,Ext Q U w->bU s' 2 (gP (l++[k])) w (λb=>Q b\/U.size<=b/\b<w.size)->S w/\K s' w) :
 Nw (.cells #[.int .i64 k.1,.int .i64 k.2] t (0,0)) U λn v=>And (S v)<|App s 2 16 e [.int .i64 0,.int .i64 0] ⟨some n,1,1⟩ v λs' w=>And (S w)<|K s' w:=by
 have r:=hr.kK;refine nw (cs:=lD k) λv x e1 a=>⟨hS0 v e1,?_⟩;have d:=aI.bP hr e1;refine d.app (ys:=lD k) rfl (by simp[lD]) ?_ (by simp[lD,dY]) ?_ ?_ nc λs' h' m z g=>?_
 .intro j u hu;rw[add_lit,zH,a.cell];exact hu
 .simp only;omega
 .simp only;omega
 .have i:Ext Q U h':=e1.to.trans z;refine hK s' h' i ?_;have:gP (l++[k])=gP l++lD k:=by simp[gP]
  rw[this];refine aI.mono (aI.cut g) λb p y=>?_;rcases y.1 with h1|h1
  .exact .inl h1
  .exact .inr ⟨O,p⟩
end Go.Ar