import Derived.Deep.AppendLies
import Derived.Test.YtibiekfjbibpbaaGreatPmX
set_option maxRecDepth 100000
set_option maxHeartbeats 2000000
set_option linter.unusedVariables false
set_option linter.unusedSimpArgs false
namespace Go.Proofs.YtibiekfjbibpbaaGreat
open Go.RowKit
theorem x1m (p:Option Addr) (cap:Nat) (bs:List Int) (a:Nat) (ha:a+8<=bs.length) (hl:bs.length<=9223372036854775807) (w:World) (h:q1m w p cap bs):
  Calls Tryz.prog 126 #[.slice p bs.length cap,.int .i64 (a:Int)] w fun e w'=>e= .returned (.int .u64 (leW ((bs.drop a).take 8)))/\w=w':=by
 obtain⟨b,off,rfl,hbl,M⟩:=h.2.2 (by omega);obtain⟨N,hN⟩:∃N,N=bs.length:=⟨_,rfl⟩;rw[<- hN] at ha hl ⊢;obtain⟨cs,I⟩:∃cs,cs=(bs.drop a).take 8:=⟨_,rfl⟩;have S:cs.length=8:=by rw[I];simp;omega
 have O:∀j c,cs[j]?=some c->w.cell? ⟨b,off+(a+j),none⟩=some (.int .u8 c)/\0<=c/\c<256:=by
  intro j c hj;have Y:j<8:=by have:=(AE.1 hj).1;omega
  rw[I,AV,if_pos Y,Ar] at hj;exact⟨M _ _ hj,h.2.1 c (AJ hj)⟩
 rw[<- I];have U:=hid O;have L:=hid S;clear h M O S I hN;go_enter Tryz.func126,Tryz.ntmps126;go_wp2;go_loop [5,6] (fun v i=> ∃k:Nat,k<=8/\i= .int .i64 ((k:Int)-1)/\v= .int .u64 (leW (cs.drop k))) (fun _ i=>((intOf i)+1).toNat);case atStart=>refine⟨8,by omega,rfl,?_⟩;rw[BO (by have:=L.out;omega)];rfl
 case round=>
  obtain⟨k,hk,rfl,rfl⟩:=hrel;by_cases hlt:0<k
  ·obtain⟨j,rfl⟩:∃j,k=j+1:=⟨k-1,by omega⟩;have ej:(((j+1:Nat)):Int)-1=(j:Int):=by omega
   rw[ej];obtain⟨c,hc⟩:∃c,cs[j]?=some c:=⟨_,AD (by have:=L.out;omega)⟩;obtain⟨y0,y1,y2⟩:=U.out j c hc;have hw:Hid (leW (cs.drop j)=c+256*leW (cs.drop (j+1))):=by show _=_;obtain⟨h2,h3⟩:=AE.1 hc;rw[Au h2,h3];rfl
   have hb:=q1h (bs:=cs.drop (j+1)) (fun z hz=>by obtain⟨m,hm⟩:=Bu (Ak hz);exact(U.out m z hm).2)
   have hp:(2:Int)^ (8*(cs.drop (j+1)).length)<=2^56:=by
    have h4:=As (n:=2) (by omega) (show 8*(cs.drop (j+1)).length<=56 by simp;have:=L.out;omega)
    exact_mod_cast h4
   have h1:((2:Int)^56)=72057594037927936:=by decide
   obtain⟨V,hV⟩:∃V,V=leW (cs.drop (j+1)):=⟨_,rfl⟩;rw[<- hV] at hw hb ⊢;have v0:0<=V:=hb.1;have v1:V*256+c<18446744073709551616:=by omega
   have v2:V*256<18446744073709551616:=by omega
   have i0:(0:Int)<=(j:Int):=by omega
   have i1:(0:Int)<=(a:Int)+(j:Int):=by omega
   have i2:(a:Int)+(j:Int)< (N:Int):=by omega
   have i3:((a:Int)+(j:Int)).toNat=a+j:=by omega
   have i4:IntKind.u64.wrap (V*256)=V*256:=IntWalk.u64_in _ (by omega);have i5:IntKind.u64.wrap (V*256+c)=V*256+c:=IntWalk.u64_in _ (by omega);have i6:IntKind.u64.wrap c=c:=IntWalk.u64_in _ (by omega);clear hc hb hp h1 hV;go_wp2;go_round;case rel=>exact⟨j,by omega,by first|rfl|go_num,by rw[hw.out];try(congr 1;omega)⟩
   case measure=>simp[intOf]
  ·obtain rfl:k=0:=by omega
   have i1: ¬((((0:Nat)):Int)-1≥0):=by omega
   rw[CW];go_wp2;go_ret;exact⟨rfl,rfl⟩
theorem v7s (b j:Nat) (hb:b<18446744073709551616) (hj:j<64) (w:World):
  Calls Tryz.prog 189 #[.int .u64 (b:Int),.int .i64 (j:Int)] w fun e w'=>e= .returned (.bool (hasB b j))/\w=w':=by
 have i1:(0:Int)<=(j:Int):=by omega
 have i2: ¬(j:Int)>63:=by omega
 go_enter Tryz.func189,Tryz.ntmps189;go_wp2;go_loop [0,5] (fun v i=> ∃k:Nat,k<=j/\i= .int .i64 k/\v= .int .u64 ((b/2^k:Nat):Int)) (fun _ i=>(j- (intOf i).toNat));case atStart=>exact⟨0,by omega,rfl,by simp⟩
 case round=>
  obtain⟨k,hk,rfl,rfl⟩:=hrel;have I:b/2^k<=b:=Cy _ _;by_cases hlt:k<j
  ·have k1:(k:Int)< (j:Int):=by omega
   have e2:b/2^ (k+1)=b/2^k/2:=by rw[Cr,CN]
   have HE:=hid e2;obtain⟨V,hV⟩:∃V,V=b/2^k:=⟨_,rfl⟩;rw[<- hV] at HE I ⊢;have v1:(V:Int)<18446744073709551616:=by omega
   have v0:(0:Int)<=(V:Int):=by omega
   clear e2 hV;go_wp2;go_round;case rel=>exact⟨k+1,by omega,by go_num,by rw[HE.out];try(congr 1)⟩
   case measure=>simp[intOf];omega
  ·obtain rfl:k=j:=by omega
   have k1: ¬(k:Int)< (k:Int):=by omega
   have hT:Hid (hasB b k=decide (b/2^k % 2=1)):=Nat.testBit_eq_decide_div_mod_eq;obtain⟨V,hV⟩:∃V,V=b/2^k:=⟨_,rfl⟩;rw[<- hV] at hT I ⊢;have v1:(V:Int)<18446744073709551616:=by omega
   have v0:(0:Int)<=(V:Int):=by omega
   clear hV;go_wp2;go_ret;refine⟨?_,rfl⟩;have hB:((V:Int)% 2==1)=decide (V % 2=1):=by rw[Bool.eq_iff_iff];simp;omega
   rw[hT.out,<- hB];rfl
theorem z1p {w:World} {base:Nat} {e:TypeId} {size n:Nat} {v:Value} {xs:List Value} (h:w.ownsRow base e size v n xs):∀k,v.ownBlock=some k->base<=k:=by
 intro k hk;rcases h.2 with⟨h1,_⟩|⟨g,cap,I,h1,h2,_⟩;·rw[h1] at hk;cases hk
 ·rw[h1] at hk;have:g=k:=by simpa[Value.ownBlock] using hk
  omega
theorem x1e:(Tryz.prog.info? 3).map (fun i=>(i.zero,i.size,i.bytes))=some (some (.int .i64 0),1,8):=by kernel_rfl
def bitV (j:Fin 64):Value:= .int .i64 (j.val:Int)
theorem x9v (b:Nat) (hb:b<18446744073709551616) (w:World):
  Calls Tryz.prog 129 #[.int .u64 (b:Int)] w fun e w'=> ∃v,e= .returned v/\w'.ownsRow w.heap.size 3 1 v (q0t b).length ((q0t b).map bitV)/\Below w.heap.size w w':=by
 obtain⟨i0,hi,O,Y,U⟩:=info_parts x1e;have HB:=hid hb;clear hb;go_enter Tryz.func129,Tryz.ntmps129;go_wp2;go_loopw [3,4] (fun v i wr=> ∃k:Nat,k<=64/\i= .int .i64 k/\Hid (wr.ownsRow w.heap.size 3 1 v (q3q b k).length ((q3q b k).map bitV)/\Below w.heap.size w wr)) (fun _ i _=>(64- (intOf i).toNat));case atStart=>exact⟨0,by omega,rfl,World.ownsRow_nil _ _ _ _,Below.refl _ _⟩
 case round=>
  obtain⟨k,hk,rfl,hI⟩:=hrel;by_cases hlt:k<64
  ·have i2:(k:Int)<64:=by omega
   go_wp2_with fail;refine(v7s b k HB.out hlt wr).mono ?_;rintro e w1 ⟨rfl,rfl⟩;cases hh:hasB b k
   ·have hT:=hid (show q3q b (k+1)=q3q b k by rw[q6k hlt,hh];rfl);go_wp2;go_roundw;case rel=>exact⟨k+1,by omega,by go_num,by rw[hT.out];exact hI⟩
    case measure=>simp[intOf];omega
   ·have hT:=hid (show q3q b (k+1)=q3q b k++[⟨k,hlt⟩] by rw[q6k hlt,hh];rfl);have hl:=q3s b k;have M:(q3q b k).length+1<=maxLen:=by unfold maxLen;omega
    have S:((q3q b k).length+1)*8<=140737488355328:=by omega
    have HS:=hid hI.out.2.size;have HO:=hid (hI.out.1.alloc (.cells #[.int .i64 (k:Int)] 3));go_wp2_with (at_builtin;go_must (refine wpList_append_own_at _ rfl _ _ 227 rfl w.heap.size 3 i0 (.int .i64 0) 1 8 Tryz.underlying227 hi O Y U rfl (by decide) _ _ _ rfl HO.out ⟨wr.heap.size,0,none⟩ 1 1 [.int .i64 (k:Int)] rfl rfl (World.news_of_block (Blk.new wr 3 #[.int .i64 (k:Int)])) (by simp[Value.oneCell']) M S (by have:=HS.out;simp;omega) ?_);intro v' w1 I L _ h1);go_roundw;case rel=>refine⟨k+1,by omega,by go_num,?_⟩;rw[hT.out];refine⟨by simpa[bitV] using I,?_⟩;exact z5q (ba hI.out.2 _) L (AG _) (fun r hr=>z1p hI.out.1 r hr)
    case measure=>simp[intOf];omega
  ·obtain rfl:k=64:=by omega
   have hS:q3q b 64=q0t b:=rfl;rw[hS] at hI;go_wp2;go_ret;exact⟨_,rfl,hI.out.1,hI.out.2⟩
theorem q8y (b:Nat):(q0t b).Pairwise fun x y=>x.val<y.val:=by unfold q0t;refine List.Pairwise.filter _ ?_;exact List.pairwise_lt_finRange 64
theorem z6a {b:Nat} {n:Int} {xs:List (Fin 64)} {x:Fin 64} (h:q0t b=xs++[x]):q4y b n=decide ((x.val:Int)<n):=by
 by_cases hx:(x.val:Int)<n
 ·rw[AT hx];refine q6a fun y hy=> ?_;rw[h] at hy;rcases An.1 hy with hy|hy;·have hs:=q8y b;rw[h] at hs;have:=(CE.1 hs).2.2 y hy x (by simp);omega
  ·simp at hy;subst hy;exact hx
 ·rw[AK hx];exact q9l (pre:=q0t b) (List.prefix_refl _) ⟨x,by rw[h];simp,hx⟩
theorem v9z (b:Nat) (n:Int) (hb:b<18446744073709551616) (w:World):
  Calls Tryz.prog 127 #[.int .u64 (b:Int),.int .i64 n] w fun e w'=>e= .returned (.bool (q4y b n))/\Below w.heap.size w w':=by
 have HR:=hid (x9v b hb w);clear hb;go_enter Tryz.func127,Tryz.ntmps127;go_wp2_with fail;refine HR.out.mono ?_;rintro e w2 ⟨v,rfl,hv,hbel⟩;have M:=hid hbel;by_cases h0:q0t b=[]
 ·have hm:Hid (q4y b n=true):=q6a (by rw[h0];simp);rw[h0] at hv;rcases hv.2 with⟨rfl,_⟩|⟨g,cap,S,rfl,_⟩;·clear hv hbel h0;go_wp2;go_ret;exact⟨by rw[hm.out];rfl,M.out⟩
  ·clear hv hbel h0;go_wp2;go_ret;exact⟨by rw[hm.out];rfl,M.out⟩
 ·obtain⟨xs,x,hx⟩:∃xs x,q0t b=xs++[x]:=⟨_,_,(List.dropLast_concat_getLast h0).symm⟩;have hm:=hid (z6a (n:=n) hx);obtain⟨L,hL⟩:∃L,L=xs.length:=⟨_,rfl⟩;have I:(q0t b).length=L+1:=by rw[hx,hL];simp
  rcases hv.2 with⟨_,hz⟩|⟨g,cap,S,rfl,hg,hh,hc,U,Y,O⟩;·rw[I] at hz;omega
  ·rw[I] at hc ⊢;rw[I,Ca] at O;have hlt:=q8y b
   have y0:w2.cell? ⟨g,L,none⟩=some (.int .i64 (x.val:Int)):=by
    have h1:(S.toList.take (L+1))[L]?=some (bitV x):=by rw[O,hx];simp[hL]
    rw[AV,if_pos (by omega)] at h1;rw[cell_of_row w2 g L S _ _ hh];simpa[bitV] using h1
   have h4:(L:Int)<64:=by have h2:=q3s b 64;have h3:q3q b 64=q0t b:=rfl;rw[h3,I] at h2;omega
   have l0:(0:Int)<=(L:Int):=by omega
   have e1:(((L+1:Nat)):Int)-1=(L:Int):=by omega
   have e2:(L:Int)+1-1=(L:Int):=by omega
   have t0:(((L:Int)+1)==0)=false:=by simp;omega
   have l1:(L:Int)< (L:Int)+1:=by omega
   clear hv hbel h0 hx hL I hg hh U Y O hlt;go_wp2;go_ret;exact⟨by rw[hm.out];rfl,M.out⟩
def q0g (n j:Nat):Int:=((n/256^j % 256:Nat):Int)
theorem v0u (n j:Nat):0<=q0g n j/\q0g n j<256:=by unfold q0g;have:=Nat.mod_lt (n/256^j) (show 0<256 by omega);omega
theorem v7f (k:Nat):(2:Int)^ (8*k)=((256^k:Nat):Int):=by rw[Int.pow_mul,Int.natCast_pow];rfl
theorem z6i (n:Nat):∀k,leW ((List.range k).map (q0g n))=((n % 256^k:Nat):Int)
 | 0=>by show(0:Int)=((n % 256^0:Nat):Int);rw[Nat.pow_zero,Nat.mod_one];rfl
 | k+1=>by rw[Ay,Ah,List.map_singleton,z5c,z6i n k,Nat.mod_pow_succ];rw[AO,CT,v7f];unfold q0g;rw[Int.natCast_add,Int.natCast_mul,Int.mul_comm]
theorem x2m {n:Nat} (hn:n<18446744073709551616):leW ((List.range 8).map (q0g n))=(n:Int):=by rw[z6i,Nat.mod_eq_of_lt (by exact hn)]
def putC (n i:Nat):Array Value:=((List.range 8).map fun j=>if j<i then Value.int .u8 (q0g n j) else .int .u8 0).toArray
theorem z8y (n i:Nat) (hi:i<8):(putC n i).setIfInBounds i (.int .u8 (q0g n i))=putC n (i+1):=by
 have:i=0\/i=1\/i=2\/i=3\/i=4\/i=5\/i=6\/i=7:=by omega
 rcases this with rfl|rfl|rfl|rfl|rfl|rfl|rfl|rfl<;>rfl
def putV (n:Nat):Value:= .agg #[.int .u8 (q0g n 0),.int .u8 (q0g n 1),.int .u8 (q0g n 2),.int .u8 (q0g n 3),.int .u8 (q0g n 4),.int .u8 (q0g n 5),.int .u8 (q0g n 6),.int .u8 (q0g n 7)]
theorem y0b (n:Nat) (hn:n<18446744073709551616) (w:World):
  Calls Tryz.prog 80 #[.int .u64 (n:Int)] w fun e w'=>e= .returned (putV n)/\Below w.heap.size w w':=by
 have HN:=hid hn;clear hn;go_enter Tryz.func80,Tryz.ntmps80;go_wp2_with fail;generalize hW:World.alloc (World.alloc w _) _=W0;have O:W0.heap.size=w.heap.size+2:=by rw[<- hW];simp
 have I:Below w.heap.size w W0:=by rw[<- hW];exact ba (ba (Below.refl _ _) _) _
 have h1:Blk W0 (w.heap.size+1) 170 (putC n 0):=by rw[<- hW];have:=Blk.new (w.alloc (.cells (putC n 0) 170)) 170 (putC n 0);simp only[World.size_alloc] at this;exact this
 have h2:Blk W0 w.heap.size 170 (putC n 0):=by rw[<- hW];exact(Blk.new w 170 (putC n 0)).alloc _
 have H0:Hid (Blk W0 (w.heap.size+1) 170 (putC n 0)/\Blk W0 w.heap.size 170 (putC n 0)/\Below w.heap.size w W0):=⟨h1,h2,I⟩;clear hW O I h1 h2;go_loopw [0,4] (fun v i wr=> ∃k:Nat,k<=8/\i= .int .i64 k/\v= .int .u64 ((n/256^k:Nat):Int)/\Hid (Blk wr (w.heap.size+1) 170 (putC n k)/\Blk wr w.heap.size 170 (putC n 0)/\Below w.heap.size w wr)) (fun _ i _=>(8- (intOf i).toNat));case atStart=>exact⟨0,by omega,rfl,by simp,H0⟩
 case round=>
  obtain⟨k,hk,rfl,rfl,hI⟩:=hrel;by_cases hlt:k<8
  ·have i1:(0:Int)<=(k:Int):=by omega
   have i2:(k:Int)<8:=by omega
   have M:n/256^k<=n:=Cy _ _;have e2:Hid (n/256^ (k+1)=n/256^k/256):=by show _=_;rw[Cr,CN]
   have eb:Hid (q0g n k=((n/256^k:Nat):Int)% 256):=by show _=_;unfold q0g;omega
   obtain⟨V,hV⟩:∃V,V=n/256^k:=⟨_,rfl⟩;rw[<- hV] at e2 eb M ⊢;have v0:(0:Int)<=(V:Int):=by omega
   have v1:(V:Int)<18446744073709551616:=by have:=HN.out;omega
   obtain⟨oc,yo⟩:∃oc,wr.cell? ⟨w.heap.size+1,k,none⟩=some oc:=by rw[hI.out.1.cell];exact⟨_,AS (by simp[putC];omega)⟩
   have yf:=hI.out.1.frozen k;have u8:IntKind.u8.wrap ((V:Int)% 256)=(V:Int)% 256:=by rw[IntKind.wrap_u8];omega
   have L:Hid (Blk (wr.setCell ⟨w.heap.size+1,k,none⟩ (.int .u8 ((V:Int)% 256))) (w.heap.size+1) 170 (putC n (k+1))/\Blk (wr.setCell ⟨w.heap.size+1,k,none⟩ (.int .u8 ((V:Int)% 256))) w.heap.size 170 (putC n 0)/\Below w.heap.size w (wr.setCell ⟨w.heap.size+1,k,none⟩ (.int .u8 ((V:Int)% 256)))):=by refine⟨?_,hI.out.2.1.far (by show w.heap.size≠w.heap.size+1;omega) _,hI.out.2.2.setCell (by show w.heap.size<=w.heap.size+1;omega) _⟩;rw[<- z8y n k hlt,eb.out];exact hI.out.1.set_ k _
   clear hV hI;go_wp2;go_roundw;case rel=>exact⟨k+1,by omega,by go_num,by rw[e2.out];try(congr 1),L⟩
   case measure=>simp[intOf];omega
  ·obtain rfl:k=8:=by omega
   have c0:wr.cell? ⟨w.heap.size+1,0,none⟩=some (.int .u8 (q0g n 0)):=hI.out.1.cell 0;have c1:wr.cell? ⟨w.heap.size+1,1,none⟩=some (.int .u8 (q0g n 1)):=hI.out.1.cell 1;have c2:wr.cell? ⟨w.heap.size+1,2,none⟩=some (.int .u8 (q0g n 2)):=hI.out.1.cell 2;have c3:wr.cell? ⟨w.heap.size+1,3,none⟩=some (.int .u8 (q0g n 3)):=hI.out.1.cell 3;have c4:wr.cell? ⟨w.heap.size+1,4,none⟩=some (.int .u8 (q0g n 4)):=hI.out.1.cell 4;have c5:wr.cell? ⟨w.heap.size+1,5,none⟩=some (.int .u8 (q0g n 5)):=hI.out.1.cell 5;have c6:wr.cell? ⟨w.heap.size+1,6,none⟩=some (.int .u8 (q0g n 6)):=hI.out.1.cell 6;have c7:wr.cell? ⟨w.heap.size+1,7,none⟩=some (.int .u8 (q0g n 7)):=hI.out.1.cell 7;have d0:wr.cell? ⟨w.heap.size,0,none⟩=some (.int .u8 0):=hI.out.2.1.cell 0;have d1:wr.cell? ⟨w.heap.size,1,none⟩=some (.int .u8 0):=hI.out.2.1.cell 1;have d2:wr.cell? ⟨w.heap.size,2,none⟩=some (.int .u8 0):=hI.out.2.1.cell 2;have d3:wr.cell? ⟨w.heap.size,3,none⟩=some (.int .u8 0):=hI.out.2.1.cell 3;have d4:wr.cell? ⟨w.heap.size,4,none⟩=some (.int .u8 0):=hI.out.2.1.cell 4;have d5:wr.cell? ⟨w.heap.size,5,none⟩=some (.int .u8 0):=hI.out.2.1.cell 5;have d6:wr.cell? ⟨w.heap.size,6,none⟩=some (.int .u8 0):=hI.out.2.1.cell 6;have d7:wr.cell? ⟨w.heap.size,7,none⟩=some (.int .u8 0):=hI.out.2.1.cell 7;have f0:=hI.out.2.1.frozen 0;have f1:=hI.out.2.1.frozen 1;have f2:=hI.out.2.1.frozen 2;have f3:=hI.out.2.1.frozen 3;have f4:=hI.out.2.1.frozen 4;have f5:=hI.out.2.1.frozen 5;have f6:=hI.out.2.1.frozen 6;have f7:=hI.out.2.1.frozen 7;go_wp2;refine bodyPost_ret (v:=putV n) (by simp[results,Tryz.results80,go_sem,putV, *]) rfl ?_;refine⟨rfl,?_⟩;iterate 8 refine Below.setCell ?_ (by exact AG w.heap.size) _
   exact hI.out.2.2
end Go.Proofs.YtibiekfjbibpbaaGreat
namespace Go.Proofs.YtibiekfjbibpbaaGreat
open Go.RowKit
attribute [local go_sem ↓ high] q0v
attribute [local go_sem] q0h
def wB (x:Int):List Int:=(List.range 8).map fun j=>x/256^j % 256
def q3m (ws:List Int):List Int:=ws.flatMap wB
theorem v4k (x:Int):(wB x).length=8:=rfl
theorem z3o (ws:List Int):(q3m ws).length=8*ws.length:=by
 unfold q3m
 induction ws with
 | nil=>rfl
 | cons x ws ih=>rw[Ap,AI,ih,v4k,BE];omega
theorem z9k (ws:List Int) (x:Int):q3m (ws++[x])=q3m ws++wB x:=by unfold q3m;rw[Al];simp
theorem z9y (ws:List Int):∀x∈q3m ws,0<=x/\x<256:=by intro x hx;obtain⟨y,_,hy⟩:=Bq.1 hx;unfold wB at hy;obtain⟨j,_,rfl⟩:=Aj.1 hy;exact⟨Int.emod_nonneg _ (by decide),Int.emod_lt_of_pos _ (by decide)⟩
theorem x0u:(Tryz.prog.info? 5).map (fun i=>(i.zero,i.size,i.bytes))=some (some (.int .u8 0),1,1):=by kernel_rfl
theorem x7a (n:Nat) (hn:n<=131072) (w:World):(Instr.makeSlice 36 (.int .i64 0) (.int .i64 (8*(n:Int)))).run Tryz.prog w= .ok (.slice (some ⟨w.heap.size,0,none⟩) 0 (8*n)) (w.alloc (.cells (madeCells #[.int .u8 0] (8*n)) 5)):=by obtain⟨i,h1,h2,h3,h4⟩:=info_parts x0u;have:=run_make (P:=Tryz.prog) w 36 5 i _ Tryz.underlying36 h1 h2 .i64 .i64 0 (8*(n:Int)) (by omega) (by omega) (by rw[h4];omega) (by omega);rw[show(8*(n:Int)).toNat=8*n by omega,h3] at this;rw[this];show Result.ok _ (w.alloc (.cells (madeCells #[Value.int .u8 0] (8*n*1)) _))=_;rw[Ca];rfl
structure BytP (w:World) (ws:List Int) (k j:Nat) (v:Value) (W:World):Prop where
 row:W.ownsRow w.heap.size 5 1 v (8*k+j) ((q3m (ws.take k)++(wB ((ws[k]?).getD 0)).take j).map (Value.int .u8))
 bel:Below w.heap.size w W
theorem BytP.next {w:World} {ws:List Int} {k:Nat} {v:Value} {W:World} (h:BytP w ws k 8 v W) {x:Int} (hx:ws[k]?=some x):BytP w ws (k+1) 0 v W:=by refine⟨?_,h.bel⟩;have:=h.row;rw[hx,DQ,show(wB x).take 8=wB x from rfl,<- z9k] at this;obtain⟨hl,he⟩:=AE.1 hx;rw[<- he,<- BF hl] at this;rw[Cp,Bx,show 8*(k+1)+0=8*k+8 by omega];exact this
theorem v5p (x:Int) (j:Nat) (hj:j<8):(wB x).take (j+1)=(wB x).take j++[x/256^j % 256]:=by rcases(by omega:j=0\/j=1\/j=2\/j=3\/j=4\/j=5\/j=6\/j=7) with rfl|rfl|rfl|rfl|rfl|rfl|rfl|rfl<;>rfl
theorem BytP.app {w:World} {ws:List Int} {k j:Nat} {a:Option Addr} {c:Nat} {W:World} {x y:Int} (h:BytP w ws k j (.slice a (8*k+j) c) W) (hj:j<8) (hx:ws[k]?=some x) (hk:8*k+j+1<=1048576) (hy:y=x/256^j % 256):
  ∃a' c' w',q0n Tryz.prog #[36,36] 36 #[.slice a (8*k+j) c,.slice (some ⟨W.heap.size,0,none⟩) 1 1] (W.alloc (.cells #[.int .u8 y] 5))= .ok (.slice a' (8*k+j+1) c') w'/\BytP w ws k (j+1) (.slice a' (8*k+j+1) c') w':=by
 obtain⟨i0,U,M,S,O⟩:=info_parts x0u;obtain⟨W1,I⟩:∃W1,W1=W.alloc (.cells #[.int .u8 y] 5):=⟨_,rfl⟩;have L:Below W.heap.size W W1:=by rw[I];exact ba (Below.refl _ _) _
 have hr:W1.ownsRow w.heap.size 5 1 (.slice a (8*k+j) c) (8*k+j) ((q3m (ws.take k)++(wB ((ws[k]?).getD 0)).take j).map (Value.int .u8)):=by rw[I];exact h.row.alloc _
 have hn:q1b W1 (.slice (some ⟨W.heap.size,0,none⟩) 1 1) 1 [.int .u8 y]:=Or.inr ⟨W.heap.size,0,1,rfl,fun i u hi=>by rw[I,(Blk.new W 5 #[.int .u8 y]).cell (0+i),AQ];simpa using hi⟩;have hs:=h.bel.size;rw[<- I];obtain⟨v',w',q⟩:=q2b (P:=Tryz.prog) W1 w.heap.size 36 36 5 i0 _ 1 1 Tryz.underlying36 U M S O rfl (by decide) (.slice a (8*k+j) c) (8*k+j) _ hr _ 1 _ hn rfl (by intro u hu;rw[AF.1 hu];rfl) (by unfold maxLen;omega) (by omega) (AH hs L.size);obtain⟨a',c',rfl⟩:=q0q q.own;refine⟨a',c',w',q.run,?_,?_⟩;·have:=q.own;rw[hx,DQ] at this;rw[hx,DQ,v5p x j hj,<- hy,<- BB,Ah];exact this
 ·have ho:=Only.of_grown (f:=(Value.slice a (8*k+j) c).ownBlock.toList) q.grown (fun k hk=>by simp[hk]);exact(h.bel.trans (L.mono hs)).trans (ho.below (fun y hy=>z1p h.row y (by simpa using hy)) (AH hs L.size))
theorem v4b (b cap:Nat) (ws:List Int) (w:World) (h:q7k w b ws) (hn:0<ws.length) (hl:ws.length<=131072) (hr:∀x∈ws,0<=x/\x<18446744073709551616):
  Calls Tryz.prog 178 #[.slice (some ⟨b,0,none⟩) ws.length cap] w fun e w'=> ∃p c,e= .returned (.slice p (q3m ws).length c)/\q1m w' p c (q3m ws)/\c<=maxLen/\Below w.heap.size w w':=by
 obtain⟨n,L⟩:∃n,n=ws.length:=⟨_,rfl⟩;rw[<- L] at hn hl ⊢;have h3:IntKind.i64.wrap (8*(n:Int))=8*(n:Int):=IntWalk.i64_in _ ⟨by omega,by omega⟩;have h4:=x7a n hl w;obtain⟨W0,I⟩:∃W0,W0=w.alloc (.cells (madeCells #[Value.int .u8 0] (8*n)) 5):=⟨_,rfl⟩;have U:BytP w ws 0 0 (.slice (some ⟨w.heap.size,0,none⟩) 0 (8*n)) W0:=by rw[I];exact⟨World.ownsRow_made w _ (8*n) (AG _) (by unfold maxLen;omega) (by rw[size_madeCells];simp),ba (Below.refl _ _) _⟩
 rw[<- I] at h4;have h5:=hid U;have HN:=hid L;have H:=hid h;have HR:=hid hr;clear h hr L U I;go_enter Tryz.func178,Tryz.ntmps178;go_wp2;go_loopw [3,12] (fun gv i wr=> ∃k:Nat,k<=n/\i= .int .i64 k/\Hid (BytP w ws k 0 gv wr)) (fun _ i _=>(n- (intOf i).toNat));case atStart=>exact⟨0,by omega,rfl,h5⟩
 case round=>
  obtain⟨k,hk,rfl,hI⟩:=hrel;by_cases hlt:k<n
  ·have i1:(k:Int)< (n:Int):=by omega
   have i0:(0:Int)<=(k:Int):=by omega
   obtain⟨x,hx⟩:∃x,ws[k]?=some x:=⟨_,AD (by rw[<- HN.out];exact hlt)⟩;have yx:=(H.out.cell hx);have h9:wr.cell? ⟨b,k,none⟩=some (.int .u64 x):=(hI.out.bel.cell (p:=⟨b,k,none⟩) (World.block_lt_of_cell? w _ yx)).trans yx;have HX:=hid hx;have Y:=hid hlt;clear hx hlt hk yx;go_wp2;go_loopw [3,5,16] (fun gv wv i wr=> ∃j:Nat,j<=8/\i= .int .i64 j/\wv= .int .u64 (x/256^j)/\Hid (BytP w ws k j gv wr)) (fun _ _ i _=>(8- (intOf i).toNat));case atStart=>exact⟨0,by omega,rfl,by simp,hI⟩
   case round=>
    obtain⟨j,hj,rfl,rfl,hJ⟩:=hrel;by_cases hj8:j<8
    ·have j1:(j:Int)<8:=by omega
     have f3:∃a c,u3=Value.slice a (8*k+j) c:=q0q hJ.out.row;obtain⟨va,vc,rfl⟩:=f3;obtain⟨y,hy⟩:∃y,y=x/256^j:=⟨_,rfl⟩;rw[<- hy];have h8:0<=y/\y<18446744073709551616:=by have M:=HR.out x (AJ HX.out);have hp:(0:Int)<256^j:=Int.pow_pos (by decide);rw[hy];exact⟨Ci M.1 (by omega),Int.lt_of_le_of_lt (Int.ediv_le_self _ M.1) M.2⟩
     obtain⟨a',c',w',h7,S⟩:=hJ.out.app hj8 HX.out (by omega) (y:=y % 256) (by rw[<- hy]);have h2:=hid S;have HY:=hid hy;have H8:=hid hj8;clear hy hj8 hj S;go_wp2;have he:y/256=x/256^ (j+1):=by rw[HY.out,Int.pow_succ,Int.ediv_ediv_of_nonneg (Int.le_of_lt (Int.pow_pos (by decide)))]
     refine⟨⟨j+1,H8.out,by go_num,by rw[he],h2⟩,by simp[intOf];have:=H8.out;omega⟩
    ·obtain rfl:j=8:=by omega
     have h6:=hid (hJ.out.next HX.out);clear hJ hj8 hj;go_wp2;go_roundw;case rel=>exact⟨k+1,Y.out,by go_num,h6⟩
     case measure=>simp[intOf];have:=Y.out;omega
  ·obtain rfl:k=n:=by omega
   have i1: ¬(k:Int)< (k:Int):=by omega
   clear hlt hk;go_wp2;go_ret;have hr:=hI.out.row;rw[Cp,Bx,HN.out,BH,Nat.add_zero,<- z3o] at hr;have hbel:=hI.out.bel
   have O:∃p c,u3=Value.slice p (q3m ws).length c/\q1m wr p c (q3m ws)/\c<=maxLen:=by
    rcases hr.2 with⟨hv,h0⟩|⟨q,cp,h1,hv,q2,q3,q4,q5,q6,q7⟩;·rw[z3o,<- HN.out] at h0;omega
    ·refine⟨some ⟨q,0,none⟩,cp,hv,⟨q4,z9y ws,fun _=>⟨q,0,rfl,(AA.1 q3).1,fun i x hi=> ?_⟩⟩,q5⟩;have hc:Blk wr q _ h1:=q3;rw[hc.cell,AQ,<- Ad];have hl:=(AE.1 hi).1;have:(h1.toList.take ((q3m ws).length*1))[i]?=some (.int .u8 x):=by rw[q7,AM,hi];rfl
     rw[AV,if_pos (by omega)] at this;exact this
   obtain⟨p,c,hv,hb,hc⟩:=O;exact⟨p,c,congrArg Ending.returned hv,hb,hc,hbel⟩
theorem v4d (m:Nat) (B:MB) (M:MemS) (w:World) (h:q4f w m B M) (hr:∀x∈M.image,0<=x/\x<18446744073709551616):
  Calls Tryz.prog 120 #[.pointer (some ⟨m,0,none⟩)] w fun e w'=> ∃p c,e= .returned (.slice p (q3m M.image).length c)/\q1m w' p c (q3m M.image)/\c<=maxLen/\Below w.heap.size w w':=by
 have HT:=hid (q8c m B M.view.length M.st h.pos w h.blk);have HB:=hid (fun cap=>v4b B.ib cap M.image w h.image (by rw[h.len];exact h.pos) (by rw[h.len];exact h.big) hr);have y1:w.cell? ⟨m,1,none⟩=some (.slice (some ⟨B.ib,0,none⟩) M.image.length B.ic):=by rw[h.len];exact h.blk.cell 1
 obtain⟨n,hn⟩:∃n,n=M.image.length:=⟨_,rfl⟩;rw[<- hn] at y1 HB;clear h hr hn;go_enter Tryz.func120,Tryz.ntmps120;go_wp2_with fail;refine HT.out.mono ?_;rintro e w1 ⟨rfl,rfl⟩;go_wp2_with fail;refine(HB.out _).mono ?_;rintro e w2 ⟨p,c,rfl,h1,h2,h3⟩;have HF:=hid (⟨h1,h2,h3⟩:_/\_/\_);clear h1 h2 h3;go_wp2;go_ret;exact⟨p,c,rfl,HF.out.1,HF.out.2.1,HF.out.2.2⟩
end Go.Proofs.YtibiekfjbibpbaaGreat
