import Derived.Deep.QuietTactic
import Derived.BigQuiet
import Derived.Laws.BitsAllLaws
import Derived.Test.YtjmaicckkkdjpaaGreatF50
set_option maxHeartbeats 400000
set_option linter.unusedVariables false
set_option linter.unusedSimpArgs false
/- Contracts of levee/super's functions and of the references' for layer 4. -/
namespace Go.Proofs.YtjmaicckkkdjpaaGreat
open Go.RowKit
theorem RootAt_z (w:World):Calls Tryz.prog 153 #[] w fun e w'=>e= .returned (.int .u64 16)∧w=w':=by
 have e1:fieldZ 0 2=16:=by decide
 go_enter Tryz.func153,Tryz.ntmps153
 go_wp2_with fail
 refine(Field_z _ _ _ (by omega) (by omega)).mono ?_
 rintro e w1 ⟨rfl,rfl⟩
 go_wp2
 go_ret
 exact⟨rfl,rfl⟩
end Go.Proofs.YtjmaicckkkdjpaaGreat
/- Chains of nodes in an image, plainly. -/
namespace Go.Proofs.YtjmaicckkkdjpaaGreat
open Go.RowKit
end Go.Proofs.YtjmaicckkkdjpaaGreat
/- An image's words, in a seat without check. -/
namespace Go.Proofs.YtjmaicckkkdjpaaGreat
open Go.RowKit
def wordsN (bs:List Int):List Nat:=(wordsOf bs).map Int.toNat
theorem wordsN_len (bs:List Int):(wordsN bs).length=bs.length/8:=by unfold wordsN wordsOf;simp
theorem wordsN_at {bs:List Int} (hb: ∀x∈bs,0≤x∧x<256) {k:Nat} (hk:k<bs.length/8): ∃x,(wordsN bs)[k]?=some x∧((x:Nat):Int)=wAt bs k∧x<18446744073709551616:=by
 refine⟨(wAt bs k).toNat,?_,?_,?_⟩
 ·unfold wordsN wordsOf;rw[List.getElem?_map,List.getElem?_map,List.getElem?_range hk];rfl
 all_goals
  have:=leW_bounds (bs:=(bs.drop (8*k)).take 8) (fun x hx=>hb x (List.mem_of_mem_drop (List.mem_of_mem_take hx)))
  rw[List.length_take,List.length_drop,Nat.min_eq_left (by omega)] at this
  unfold wAt
  omega
end Go.Proofs.YtjmaicckkkdjpaaGreat
/- A built image, plainly: its nodes and values as they are read. -/
namespace Go.Proofs.YtjmaicckkkdjpaaGreat
open Go.RowKit
theorem lenN_is (n:NodeA) {i:Nat} (h8:i≤8) (h1: ∀j,j<i→n.p j≠0) (h2:i<8→n.p i=0):lenN n=i:=by
 have q:=lenF_spec n.p 8 0
 have q1:=q.2.1
 rcases Nat.lt_trichotomy (lenN n) i with h | h | h
 ·exact absurd (q.2.2.2 (by unfold lenN at h;omega)) (h1 _ h)
 ·exact h
 ·exact absurd (h2 (by unfold lenN at h;omega)) (q.2.2.1 i (Nat.zero_le _) h)
theorem valid_list {n:NodeA} {ws:List (Int×Int)} (h8:ws.length≤8) (hk: ∀i e,ws[i]?=some e→n.k i=e.1∧n.p i=e.2) (h0:ws.length<8→n.p ws.length=0) (hnz: ∀e∈ws,e.2≠0) (hfi: ∀e∈ws,e.2≠n.fi) (hd:(ws.map (·.2)).Nodup):lenN n=ws.length∧validN n=ws:=by
 have hlen:lenN n=ws.length:=by
  refine lenN_is n h8 (fun j hj=> ?_) h0
  rw[(hk j _ (List.getElem?_eq_getElem hj)).2]
  exact hnz _ (List.getElem_mem _)
 refine⟨hlen,?_⟩
 have hpl:placesN n=List.range ws.length:=by
  unfold placesN
  rw[hlen,List.filter_eq_self]
  intro i hi
  have hi2:=List.mem_range.1 hi
  unfold isN prevN
  rw[(hk i _ (List.getElem?_eq_getElem hi2)).2,bne_iff_ne]
  by_cases h0:i=0
  ·rw[if_pos h0]
   exact hfi _ (List.getElem_mem _)
  ·rw[if_neg h0,(hk (i-1) _ (List.getElem?_eq_getElem (by omega))).2]
   intro e
   have h3:=List.pairwise_iff_getElem.1 hd (i-1) i (by simp;omega) (by simp;omega) (by omega)
   simp only[List.getElem_map] at h3
   exact h3 e.symm
 unfold validN
 rw[hpl]
 apply List.ext_getElem?
 intro i
 rw[List.getElem?_map]
 by_cases hi:i<ws.length
 ·rw[List.getElem?_range hi,List.getElem?_eq_getElem hi,Option.map_some,(hk i _ (List.getElem?_eq_getElem hi)).1,(hk i _ (List.getElem?_eq_getElem hi)).2]
 ·rw[List.getElem?_eq_none (by simp;omega),List.getElem?_eq_none (by omega)];rfl
theorem active_list {n:NodeA} {ws:List (Int×Int)} {high:Int} {has:Bool} (hv:validN n=ws) (hh:has=true→ ∀e∈ws,e.1<high):activeN n high has=ws:=by
 unfold activeN
 rw[hv,List.filter_eq_self]
 intro e he
 unfold actE
 cases has with
 | false=>rfl
 | true=>simpa using hh rfl e he
theorem leW_nth: ∀{bs:List Int},(∀x∈bs,0≤x∧x<256)→ ∀{j:Nat} {c:Int},bs[j]?=some c→leW bs/256^j % 256=c
 | [],_,j,c,h=>by simp at h
 | x::bs,hb,0,c,h=>by
  have h1:=hb x (by simp)
  simp only[List.getElem?_cons_zero,Option.some.injEq] at h
  subst h
  rw[show leW (x::bs)=x+256*leW bs from rfl,Int.pow_zero,Int.ediv_one]
  omega
 | x::bs,hb,j+1,c,h=>by
  have h1:=hb x (by simp)
  have h2:=leW_nth (bs:=bs) (fun y hy=>hb y (List.mem_cons_of_mem _ hy)) (j:=j) (c:=c) (by simpa using h)
  rw[show leW (x::bs)=x+256*leW bs from rfl,Int.pow_succ',←Int.ediv_ediv_of_nonneg (by omega),show(x+256*leW bs)/256=leW bs by omega]
  exact h2
theorem word_bytes {cs:List Int} (hb: ∀x∈cs,0≤x∧x<256) (h8:cs.length=8):(List.range 8).map (byteN (leW cs).toNat)=cs:=by
 have h0:=(leW_bounds hb).1
 apply List.ext_getElem?
 intro j
 by_cases hj:j<8
 ·obtain⟨c,hc⟩: ∃c,cs[j]?=some c:=⟨_,List.getElem?_eq_getElem (by omega)⟩
  rw[hc,List.getElem?_map,List.getElem?_range hj,Option.map_some]
  unfold byteN
  have h1:=leW_nth hb hc
  obtain⟨m,hm⟩: ∃m:Nat,leW cs=(m:Int):=⟨_,(Int.toNat_of_nonneg h0).symm⟩
  rw[hm] at h1 ⊢
  rw[Int.toNat_natCast,Int.natCast_emod,Int.natCast_ediv,Int.natCast_pow]
  exact congrArg some h1
 ·rw[List.getElem?_eq_none (by simp;omega),List.getElem?_eq_none (by omega)]
theorem bytesN_slB {bs:List Int} (hb: ∀x∈bs,0≤x∧x<256) (q:Nat): ∀k,8*q+8*k≤bs.length→bytesN (((wordsN bs).drop q).take k)=slB bs (8*q) (8*k)
 | 0,_=>by unfold slB;simp[bytesN]
 | k+1,h=>by
  have ih:=bytesN_slB hb q k (by omega)
  obtain⟨x,h1,h2,h3⟩:=wordsN_at hb (k:=q+k) (by omega)
  have e:((wordsN bs).drop q).take (k+1)=((wordsN bs).drop q).take k++[x]:=by
   rw[List.take_add_one,List.getElem?_drop,h1];rfl
  rw[e,bytesN_snoc,ih]
  have e2:slB bs (8*q) (8*(k+1))=slB bs (8*q) (8*k)++slB bs (8*q+8*k) 8:=by
   unfold slB
   rw[show 8*(k+1)=8*k+8 by omega,List.take_add,List.drop_drop]
  rw[e2]
  congr 1
  have e3:x=(leW (slB bs (8*q+8*k) 8)).toNat:=by
   have:wAt bs (q+k)=leW (slB bs (8*q+8*k) 8):=by unfold wAt slB;rw[show 8*(q+k)=8*q+8*k by omega]
   rw[←this];omega
  rw[e3]
  exact word_bytes (fun y hy=>hb y (List.mem_of_mem_drop (List.mem_of_mem_take hy))) (by unfold slB;simp;omega)
theorem parse_valT {bs:List Int} (hb: ∀x∈bs,0≤x∧x<256) {q:Nat} {d:List Int} (h20:d.length≤56) (hq:8*q+64≤bs.length) (hv:slB bs (8*q) 64=valT d):parseV 1 (((wordsN bs).drop q).take 8)= .tuple #[.string (strOfNums d),.int .i64 0]:=by
 obtain⟨x,h1,h2,h3⟩:=wordsN_at hb (k:=q) (by omega)
 have hlen:(((wordsN bs).drop q).take 8).length=8:=by rw[List.length_take,List.length_drop,wordsN_len];omega
 have hcons:((wordsN bs).drop q).take 8=x::((wordsN bs).drop (q+1)).take 7:=by
  rw[List.drop_eq_getElem_cons (by rw[wordsN_len];omega)]
  obtain⟨h4,h5⟩:=List.getElem?_eq_some_iff.1 h1
  rw[h5];rfl
 have hx:x=d.length:=by
  have e:wAt bs q=leW (slB bs (8*q) 8):=rfl
  have e2:slB bs (8*q) 8=(slB bs (8*q) 64).take 8:=by unfold slB;rw[List.take_take];rfl
  rw[hv] at e2
  have e3:(valT d).take 8=(List.range 8).map (byteN d.length):=rfl
  rw[e,e2,e3,leW_word (by omega)] at h2
  omega
 obtain⟨r,hr⟩: ∃r,r=((wordsN bs).drop (q+1)).take 7:=⟨_,rfl⟩
 rw[hcons,←hr]
 have hrl:r.length=7:=by
  have:=congrArg List.length hcons
  rw[hlen,←hr] at this
  simp at this;omega
 have hby: ∀k,k≤7→bytesN (r.take k)=((slB bs (8*q) 64).drop 8).take (8*k):=fun k hk7=>by
  rw[hr,List.take_take,Nat.min_eq_left hk7,bytesN_slB hb (q+1) k (by omega)]
  unfold slB
  rw[List.drop_take,List.drop_drop,List.take_take,show 8*q+8=8*(q+1) by omega,Nat.min_eq_left (by omega)]
 rw[hv] at hby
 have hdrop:(valT d).drop 8=d++List.replicate (56-d.length) 0:=by
  unfold valT
  rw[List.drop_append_of_le_length (by simp),List.drop_of_length_le (by simp),List.nil_append]
 rw[hdrop] at hby
 unfold parseV
 have hw:wordsV x≤8:=by unfold wordsV;omega
 have hc:classZ (x:Nat)=1:=by unfold classZ fitsZ;rw[if_neg (by omega),if_pos (by omega)];rfl
 simp only[]
 rw[if_neg (by omega),if_neg (by rintro(h | h);omega;exact h hc),if_neg (by rw[hrl];omega)]
 have hb2:=hby ((x+7)/8) (by omega)
 unfold textV
 rw[if_pos,hb2]
 ·congr 3
  rw[hx,List.take_take,Nat.min_eq_left (by omega),List.take_append_of_le_length (Nat.le_refl _),List.take_length]
 ·unfold cleanC
  rw[hb2,List.all_eq_true]
  intro y hy
  rw[List.drop_take,List.drop_append_of_le_length (by omega),List.drop_of_length_le (by omega),List.nil_append] at hy
  have:=List.eq_of_mem_replicate (List.mem_of_mem_take hy)
  simpa using this
end Go.Proofs.YtjmaicckkkdjpaaGreat
/- A built image may be, plainly: its levels. -/
namespace Go.Proofs.YtjmaicckkkdjpaaGreat
open Go.RowKit
def ents0 (keys:List Nat):List (Int×Int):=(List.range keys.length).map fun j=>((keys.getD j 0:Int),(vA j:Int))
theorem ents0_at {keys:List Nat} {j:Nat} (h:j<keys.length):(ents0 keys)[j]?=some ((keys.getD j 0:Int),(vA j:Int)):=by unfold ents0;rw[List.getElem?_map,List.getElem?_range h];rfl
theorem ents0_len (keys:List Nat):(ents0 keys).length=keys.length:=by unfold ents0;simp
abbrev tK (keys:List Nat) (per lag k:Nat):Nat:=(stk (uN keys) per lag (ents0 keys) k).1
abbrev eK (keys:List Nat) (per lag k:Nat):List (Int×Int):=(stk (uN keys) per lag (ents0 keys) k).2
abbrev nK (keys:List Nat) (per lag k:Nat):Nat:=nRounds per (eK keys per lag k)
structure Core (slabs:Nat) (keys:List Nat) (per lag K:Nat) (bs:List Int):Prop where
 s1:1≤slabs
 s64:slabs≤64
 kk: ∀x∈keys,x<18446744073709551616
 rise:keys.Pairwise (· < ·)
 p2:2≤per
 p8:per≤8
 k15:K≤15
 len:bs.length=1024*(slabs+1)
 byt: ∀x∈bs,0≤x∧x<256
 top:TopOK bs slabs
 root:wdN bs 16=(nA (uN keys) (tK keys per lag K):Int)
 hc: ∀s,1≤s→s≤slabs→wdN bs (1024*s)=if s≤uN keys then 1 else if s≤uN keys+(tK keys per lag (K+1)+4)/5 then 3 else 0
 hb: ∀s,1≤s→s≤slabs→wdN bs (1024*s+8)=2^ (if s≤uN keys then vct keys.length s else nct (tK keys per lag (K+1)) (s-uN keys))-1
 vin:keys.length≤15*slabs
 tin:tK keys per lag (K+1)≤5*(slabs-uN keys)
def ValsB (m:Nat) (txt:Nat→List Int) (bs:List Int):Prop:= ∀j,j<m→slB bs (vA j) 64=valT (txt j)∧(txt j).length≤56∧ ∀x∈txt j,0≤x∧x<256
structure Base (slabs:Nat) (keys:List Nat) (per lag K:Nat) (bs:List Int):Prop extends Core slabs keys per lag K bs where
 vs:ValsB keys.length (fun j=>numL (keys.getD j 0)) bs
structure Built (slabs:Nat) (keys:List Nat) (per lag K:Nat) (bs:List Int):Prop extends Base slabs keys per lag K bs where
 laid: ∀j,j<K+1→ ∀x∈rowK (uN keys) per lag (ents0 keys) j,LaidAt bs x.1 x.2
theorem stk_le (keys:List Nat) (per lag:Nat) {a b:Nat} (h:a≤b):tK keys per lag a≤tK keys per lag b:=by
 induction h with
 | refl=>exact Nat.le_refl _
 | step _ ih=>exact Nat.le_trans ih (Nat.le_add_right _ _)
theorem nRounds_pos (per:Nat) (l:List (Int×Int)):0<nRounds per l:=by unfold nRounds;omega
theorem build_built {slabs per lag:Nat} {keys:List Nat} {R:AR} {rows:List (List (Nat×NodeA))} (h:BuildOK slabs keys per lag R rows) (h1:1≤slabs) (h64:slabs≤64) (hl:keys.length≤1000) (hk: ∀x∈keys,x<18446744073709551616) (hrise:keys.Pairwise (· < ·)) (hp:2≤per) (hp8:per≤8):
  ∃K,Built slabs keys per lag K R.bs∧rows=(List.range (K+1)).map (rowK (uN keys) per lag (ents0 keys)):=by
 obtain⟨z1,K,z2,z3,z4,z5,z6⟩:=h
 obtain⟨v1,v2⟩:=vals_st h1 h64 hk keys.length (Nat.le_refl _) z1
 have v2':((AR.new slabs).vals keys keys.length).2=ents0 keys:=v2
 rw[v2'] at z2 z3 z4 z5 z6
 obtain⟨Q,hQ⟩: ∃Q,Q=((AR.new slabs).vals keys keys.length).1:=⟨_,rfl⟩
 rw[←hQ] at z2 z3 z4 z5 z6 v1
 have hn:=v1.nodes
 have hbl:Q.bs.length=1024*(slabs+1):=by rw[hn.ok.len,hn.sl]
 have hbig:Q.bs.length≤1000000:=by omega
 have hk15:K≤15:=by
  rcases Nat.lt_or_ge 15 K with h | h
  ·exact absurd (Or.inr (Or.inl rfl)) (z3 15 h)
  ·exact h
 have hu: ∀x∈ents0 keys,U64 x.1∧U64 x.2:=fun x hx=>by
  have:=vals_u64 (R:=AR.new slabs) (new_ok h1 h64).1 (by rw[(new_ok h1 h64).2];omega) hk keys.length z1 x
  rw[v2'] at this
  exact this hx
 obtain⟨l1,_,l3,l4,l5⟩:=lvls_st hn hbig hp (by rw[ents0_len];exact hl) hu (K+1) (by omega) (fun j hj=>z2 j (by omega))
 refine⟨K,?_,z5.trans l3⟩
 obtain⟨P,hP⟩: ∃P,P=(Q.lvls per lag (ents0 keys) (K+1)).1:=⟨_,rfl⟩
 rw[←hP] at l1 l5 z6
 have hPl:P.bs.length=1024*(slabs+1):=by rw[l1.ok.len,l1.sl]
 have hroot:((rows.getD K []).getD 0 (0,zeroN)).1=nA (uN keys) (tK keys per lag K):=by
  have e1:rows.getD K []=rowK (uN keys) per lag (ents0 keys) K:=by
   rw[z5,l3,List.getD_eq_getElem?_getD,List.getElem?_map,List.getElem?_range (by omega)];rfl
  rw[e1]
  unfold rowK
  rw[List.getD_eq_getElem?_getD,rowS_at (nRounds_pos _ _)]
  rfl
 rw[hroot] at z6
 have hbs:R.bs=putW P.bs 16 (nA (uN keys) (tK keys per lag K)):=by rw[z6];rfl
 have hin:tK keys per lag K<5*(slabs-uN keys):=by
  have l4':tK keys per lag K+nRounds per (eK keys per lag K)≤5*(slabs-uN keys):=l4
  have:=nRounds_pos per (eK keys per lag K)
  omega
 have hna:=nA_in hin
 refine⟨⟨⟨h1,h64,hk,hrise,hp,hp8,hk15,by rw[hbs,putW_len _ (by omega)];exact hPl,by rw[hbs];exact putW_byte l1.ok.byt _ _,?_,?_,fun s s1 s2=> ?_,fun s s1 s2=> ?_,l1.vin,l4⟩,fun j hj=>⟨?_,?_,numL_in _⟩⟩,fun j hj x hx i hi=> ?_⟩
 ·obtain⟨t0,t1,t2,t3,t4,t5,t6⟩:=l1.top
  rw[hbs]
  refine⟨?_,?_,?_,?_,?_,?_,?_⟩<;>rw[wdN_other (by omega) (by omega)]<;>assumption
 ·rw[hbs,wdN_same (by omega) (by omega)]
 ·rw[hbs,wdN_other (by omega) (by omega)];exact l1.hc s s1 s2
 ·rw[hbs,wdN_other (by omega) (by omega)];exact l1.hb s s1 s2
 ·rw[hbs,slB_putW (by omega) (by unfold vA;omega)];exact l1.vs j hj
 ·have:keys.getD j 0<18446744073709551616:=by
   rw[List.getD_eq_getElem?_getD,List.getElem?_eq_getElem hj];exact hk _ (List.getElem_mem _)
  have:=numL_20 this
  show(numL (keys.getD j 0)).length≤56
  omega
 ·have hx2:=hx
  unfold rowK rowS at hx2
  obtain⟨r,_,rfl⟩:=List.mem_map.1 hx2
  rw[hbs,wdN_other (by omega) (by show _∨_≤nA _ _+_;unfold nA;omega)]
  exact l5 j hj _ hx i hi
def lowR (l:List (Int×Int)) (per r:Nat):Int:=if r=0 then 0 else(l.getD (r*per) (0,0)).1
theorem rowS_low {u t lvl per r:Nat} {l:List (Int×Int)} (hp:0<per):(ndOf lvl (nA u (t+r)) (r==0) (ownK per l r)).low=lowR l per r:=by
 unfold ndOf lowR
 by_cases h:r=0
 ·subst h;rfl
 ·have e:(r==0)=false:=by simpa using h
  rw[if_neg h]
  simp only[e]
  show((ownK per l r).getD 0 (0,0)).1=_
  unfold ownK
  rw[List.getD_eq_getElem?_getD,List.getElem?_take,if_pos hp,List.getElem?_drop,Nat.add_zero,←List.getD_eq_getElem?_getD]
theorem nRounds_in {per r:Nat} {l:List (Int×Int)} (hp:0<per) (h:r<nRounds per l):r=0∨r*per<l.length:=by
 unfold nRounds at h
 by_cases h0:r=0
 ·exact Or.inl h0
 ·right
  have h1:r+1≤(l.length+per-1)/per:=by omega
  rw[Nat.le_div_iff_mul_le hp,Nat.succ_mul] at h1
  omega
theorem nRounds_all {per:Nat} (l:List (Int×Int)) (hp:0<per):l.length≤nRounds per l*per:=by
 unfold nRounds
 have h1:(l.length+per-1)/per*per+per>l.length+per-1:=by
  have:=Nat.div_add_mod (l.length+per-1) per
  have h2:=Nat.mod_lt (l.length+per-1) hp
  rw[Nat.mul_comm] at this
  omega
 have h3:(l.length+per-1)/per*per≤max 1 ((l.length+per-1)/per)*per:=Nat.mul_le_mul_right _ (by omega)
 omega
structure EntOK (k:Nat) (l:List (Int×Int)):Prop where
 rise:l.Pairwise fun a b=>a.1<b.1
 nd:(l.map (·.2)).Nodup
 pos: ∀e∈l,0≤e.1∧0<e.2
 ne:k≠0→ ∃e r,l=e::r∧e.1=0
theorem EntOK.lt {k:Nat} {l:List (Int×Int)} (h:EntOK k l) {i j:Nat} {x y:Int×Int} (hx:l[i]?=some x) (hy:l[j]?=some y) (hij:i<j):x.1<y.1:=by
 obtain⟨h1,rfl⟩:=List.getElem?_eq_some_iff.1 hx
 obtain⟨h2,rfl⟩:=List.getElem?_eq_some_iff.1 hy
 exact List.pairwise_iff_getElem.1 h.rise i j h1 h2 hij
theorem EntOK.low {k:Nat} {l:List (Int×Int)} (h:EntOK k l) {per r r':Nat} (hp:0<per) (hr:r'<nRounds per l) (hlt:r<r'):lowR l per r<lowR l per r':=by
 have h1:r'*per<l.length:=by rcases nRounds_in hp hr with h | h<;>omega
 have h2:r*per<r'*per:=Nat.mul_lt_mul_of_pos_right hlt hp
 have e2:lowR l per r'=(l[r'*per]'h1).1:=by
  unfold lowR;rw[if_neg (by omega),List.getD_eq_getElem?_getD,List.getElem?_eq_getElem h1];rfl
 rw[e2]
 have h3:=h.lt (i:=r*per) (j:=r'*per) (List.getElem?_eq_getElem (by omega)) (List.getElem?_eq_getElem h1) h2
 by_cases h0:r=0
 ·have:=(h.pos _ (List.getElem_mem (show r*per<l.length by omega))).1
  have e1:lowR l per r=0:=by unfold lowR;rw[if_pos h0]
  rw[e1];omega
 ·have e1:lowR l per r=(l[r*per]'(by omega)).1:=by
   unfold lowR;rw[if_neg h0,List.getD_eq_getElem?_getD,List.getElem?_eq_getElem (by omega)];rfl
  rw[e1];exact h3
def upE (u t per:Nat) (l:List (Int×Int)):List (Int×Int):=(List.range (nRounds per l)).map fun r=>(lowR l per r,(nA u (t+r):Int))
theorem upsOf_eq {u t lvl per lag:Nat} {l:List (Int×Int)} (hp:0<per):upsOf lag (rowS u t lvl per l)=(upE u t per l).take (max 1 (nRounds per l-lag)):=by
 unfold upsOf upE
 rw[rowS_len,List.map_take]
 congr 1
 unfold rowS
 rw[List.map_map]
 refine List.map_congr_left fun r _=> ?_
 exact Prod.ext (rowS_low (u:=u) (t:=t) (lvl:=lvl) hp) rfl
theorem EntOK.up {k u t per lag:Nat} {l:List (Int×Int)} (h:EntOK k l) (hp:0<per):EntOK (k+1) ((upE u t per l).take (max 1 (nRounds per l-lag))):=by
 have hpos:=nRounds_pos per l
 refine⟨?_,?_,fun e he=> ?_,fun _=> ?_⟩
 ·refine List.Pairwise.sublist (List.take_sublist _ _) ?_
  unfold upE
  rw[List.pairwise_map]
  refine List.Pairwise.imp_of_mem ?_ List.pairwise_lt_range
  intro a b _ hb hab
  exact h.low hp (List.mem_range.1 hb) hab
 ·rw[List.map_take]
  refine List.Nodup.sublist (List.take_sublist _ _) ?_
  unfold upE List.Nodup
  rw[List.map_map,List.pairwise_map]
  refine List.Pairwise.imp_of_mem ?_ List.pairwise_lt_range
  intro a b _ _ hab e
  have e':nA u (t+a)=nA u (t+b):=by exact_mod_cast (show((nA u (t+a):Nat):Int)=(nA u (t+b):Nat) from e)
  have:=nA_inj e'
  omega
 ·have:=List.mem_of_mem_take he
  unfold upE at this
  obtain⟨r,hr,rfl⟩:=List.mem_map.1 this
  have hr2:=List.mem_range.1 hr
  refine⟨?_,by show(0:Int)< (nA u (t+r):Nat);unfold nA;omega⟩
  by_cases h0:r=0
  ·show 0≤lowR l per r;unfold lowR;rw[if_pos h0];exact Int.le_refl _
  ·have:=h.low hp hr2 (show 0<r by omega)
   have e:lowR l per 0=0:=rfl
   show 0≤lowR l per r
   omega
 ·obtain⟨c,hc⟩: ∃c,max 1 (nRounds per l-lag)=c+1:=⟨max 1 (nRounds per l-lag)-1,by omega⟩
  obtain⟨n,hn⟩: ∃n,nRounds per l=n+1:=⟨nRounds per l-1,by omega⟩
  rw[hc]
  unfold upE
  rw[hn,List.range_succ_eq_map,List.map_cons,List.take_succ_cons]
  exact⟨_,_,rfl,rfl⟩
theorem ents0_ok {keys:List Nat} (hr:keys.Pairwise (· < ·)):EntOK 0 (ents0 keys):=by
 refine⟨?_,?_,fun e he=> ?_,fun h=>absurd rfl h⟩
 ·unfold ents0
  rw[List.pairwise_map]
  refine List.Pairwise.imp_of_mem ?_ List.pairwise_lt_range
  intro a b _ hb hab
  have hb2:=List.mem_range.1 hb
  have:=List.pairwise_iff_getElem.1 hr a b (by omega) hb2 hab
  show((keys.getD a 0:Nat):Int)< (keys.getD b 0:Nat)
  rw[List.getD_eq_getElem?_getD,List.getD_eq_getElem?_getD,List.getElem?_eq_getElem hb2,List.getElem?_eq_getElem (by omega)]
  simp only[Option.getD_some]
  omega
 ·unfold ents0 List.Nodup
  rw[List.map_map,List.pairwise_map]
  refine List.Pairwise.imp_of_mem ?_ List.pairwise_lt_range
  intro a b _ _ hab e
  have e':vA a=vA b:=by exact_mod_cast (show((vA a:Nat):Int)=(vA b:Nat) from e)
  have:=vA_apart (show a≠b by omega)
  omega
 ·unfold ents0 at he
  obtain⟨j,_,rfl⟩:=List.mem_map.1 he
  exact⟨by show(0:Int)≤((keys.getD j 0:Nat):Int);omega,by show(0:Int)< ((vA j:Nat):Int);unfold vA;omega⟩
theorem eK_ok {keys:List Nat} {per:Nat} (lag:Nat) (hr:keys.Pairwise (· < ·)) (hp:0<per): ∀k,EntOK k (eK keys per lag k)
 | 0=>ents0_ok hr
 | k+1=>by
  show EntOK (k+1) (upsOf lag (rowS _ _ _ _ _))
  rw[upsOf_eq hp]
  exact(eK_ok lag hr hp k).up hp
theorem eK_in {keys:List Nat} {per lag k:Nat} (hp:0<per) {e:Int×Int} (h:e∈eK keys per lag (k+1)): ∃r,r<nK keys per lag k∧e=(lowR (eK keys per lag k) per r,(nA (uN keys) (tK keys per lag k+r):Int)):=by
 have h':e∈upsOf lag (rowS (uN keys) (tK keys per lag k) k per (eK keys per lag k)):=h
 rw[upsOf_eq hp] at h'
 have:=List.mem_of_mem_take h'
 unfold upE at this
 obtain⟨r,hr,rfl⟩:=List.mem_map.1 this
 exact⟨r,List.mem_range.1 hr,rfl⟩
end Go.Proofs.YtjmaicckkkdjpaaGreat
